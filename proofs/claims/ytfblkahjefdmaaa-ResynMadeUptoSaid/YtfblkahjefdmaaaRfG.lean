/- Walk: times of the document's own reader. -/
import Derived.Test.YtfblkahjefdmaaaRfF
namespace Go.Proofs.Ytfblkahjefdmaaa
open Go.RowKit

namespace RX
/-- The state behind the document's bounds of a repeat. -/
def timesS (s : List Int) (st : St) : St :=
  let a := must s (st.bump 1)
  let b := high s a.1 a.2
  let c := if b.2.ok = true ∧ nxt s b.2 0 ≠ 125 then b.2.fail 5 b.2.at_ else b.2
  if c.ok = true then (if 0 ≤ b.1 ∧ b.1 < a.1 then (c.bump 1).fail 5 st.at_ else c.bump 1) else c
theorem failat (st : St) (c b : Int) : (st.fail c b).at_ = st.at_ := by unfold St.fail; split <;> rfl
theorem failop (st : St) (c b : Int) : (st.fail c b).op = st.op := by unfold St.fail; split <;> rfl
theorem failcaps (st : St) (c b : Int) : (st.fail c b).caps = st.caps := by unfold St.fail; split <;> rfl
theorem failno (st : St) (b : Int) : (st.fail 5 b).ok = false := by
  unfold St.fail St.ok
  split
  · rfl
  · rename_i h; simpa using h
theorem must_at (s : List Int) (st : St) : (must s st).2.at_ ≤ st.at_ + 1 ∧ (must s st).2.op = st.op := by
  unfold must
  split
  · exact ⟨by rw [failat]; omega, failop _ _ _⟩
  · exact ⟨Nat.le_refl _, rfl⟩
theorem high_at (s : List Int) (lo : Int) (st : St) : (high s lo st).2.at_ ≤ st.at_ + 2 ∧ (high s lo st).2.op = st.op := by
  unfold high
  split
  · split
    · have := must_at s (st.bump 1)
      exact ⟨this.1, this.2⟩
    · exact ⟨Nat.le_succ _, rfl⟩
  · exact ⟨Nat.le_add_right _ _, rfl⟩
theorem times_at (s : List Int) (st : St) : (timesS s st).at_ ≤ st.at_ + 5 ∧ (timesS s st).op = st.op := by
  unfold timesS
  simp only
  have h1 := must_at s (st.bump 1)
  have h2 := high_at s (must s (st.bump 1)).1 (must s (st.bump 1)).2
  have h0 : (st.bump 1).at_ = st.at_ + 1 := rfl
  have h0o : (st.bump 1).op = st.op := rfl
  generalize must s (st.bump 1) = a at h1 h2
  generalize high s a.1 a.2 = b at h2
  have h3 : ∀ c : St, c = (if b.2.ok = true ∧ nxt s b.2 0 ≠ 125 then b.2.fail 5 b.2.at_ else b.2) → c.at_ = b.2.at_ ∧ c.op = b.2.op := by
    intro c hc
    rw [hc]
    split
    · exact ⟨failat _ _ _, failop _ _ _⟩
    · exact ⟨rfl, rfl⟩
  have h4 := h3 _ rfl
  generalize (if b.2.ok = true ∧ nxt s b.2 0 ≠ 125 then b.2.fail 5 b.2.at_ else b.2) = c at h4
  have h5 : (c.bump 1).at_ = c.at_ + 1 ∧ (c.bump 1).op = c.op := ⟨rfl, rfl⟩
  split
  · split
    · rw [failat, failop]; exact ⟨by omega, by rw [h5.2, h4.2, h2.2, h1.2, h0o]⟩
    · exact ⟨by omega, by rw [h5.2, h4.2, h2.2, h1.2, h0o]⟩
  · exact ⟨by omega, by rw [h4.2, h2.2, h1.2, h0o]⟩
theorem times_bounds (s : List Int) (st : St) : ((bounds s st).2.2.ok = true → timesS s st = (bounds s st).2.2) ∧ ((bounds s st).2.2.ok = false → (timesS s st).code = (bounds s st).2.2.code ∧ (timesS s st).bat = (bounds s st).2.2.bat) := by
  unfold timesS bounds
  simp only
  generalize must s (st.bump 1) = a
  generalize high s a.1 a.2 = b
  generalize (if b.2.ok = true ∧ nxt s b.2 0 ≠ 125 then b.2.fail 5 b.2.at_ else b.2) = c
  have hb : (c.bump 1).ok = c.ok := rfl
  rcases hc : c.ok with _ | _
  · have h1 : ¬ ((c.bump 1).ok = true ∧ 0 ≤ b.1 ∧ b.1 < a.1) := by rw [hb, hc]; simp
    rw [if_neg h1, hb, hc]
    exact ⟨fun h => (by cases h), fun _ => ⟨rfl, rfl⟩⟩
  · by_cases hx : 0 ≤ b.1 ∧ b.1 < a.1
    · rw [if_pos ⟨hb.trans hc, hx⟩, if_pos rfl, if_pos hx]
      exact ⟨fun _ => rfl, fun _ => ⟨rfl, rfl⟩⟩
    · rw [if_neg (fun h => hx h.2), if_pos rfl, if_neg hx]
      exact ⟨fun _ => rfl, fun _ => ⟨rfl, rfl⟩⟩
end RX
/-- Inside of a method: the reader. -/
structure Qb (w0 : World) (rb : Nat) (sv : Value) (s : List Int) (w1 : World) (st : RX.St) (wr : World) : Prop where
  q : Qn w0 rb sv s wr st
  only : Only w1 wr rb
section
variable {w0 w1 wr w' : World} {rb : Nat} {sv v v' : Value} {s : List Int} {st st' : RX.St}
theorem Qb.call (h : Qb w0 rb sv s w1 st wr) (ho : Only wr w' rb) (hq : QS rb sv w' st') : Qb w0 rb sv s w1 st' w' := ⟨h.q.step ho hq, h.only.trans ho⟩
theorem Qb.ex (h : Qb w0 rb sv s w1 st wr) (hx : Ext wr w') : Qb w0 rb sv s w1 st w' := h.call (Only.of_ext hx rb) (hx.heap h.q.blk)
theorem Qb.bump1 (h : Qb w0 rb sv s w1 st wr) : Qb w0 rb sv s w1 (st.bump 1) (wr.setCell ⟨rb, 1, none⟩ (.int .i64 ((st.at_ : Int) + 1))) := h.call ((Only.refl _ rb).set _) h.q.bump1.blk
end
section
variable {w0 : World} {rb : Nat} {sv : Value} {s : List Int}
set_option maxRecDepth 100000 in
set_option maxHeartbeats 2000000 in
theorem qtimes_any (w1 : World) (st : RX.St) (he : Qn w0 rb sv s w1 st) (ha : st.at_ ≤ 500) :
    Calls Try.prog 141 #[.pointer (some ⟨rb, 0, none⟩)] w1 (QV (.tuple #[.int .i64 (RX.bounds s st).1, .int .i64 (RX.bounds s st).2.1]) rb sv w1 (RX.timesS s st)) := by
  have HC1 := Lib.hid (show Qb w0 rb sv s w1 st w1 from ⟨he, Only.refl _ _⟩)
  obtain ⟨m, hm⟩ : ∃ x, RX.must s (st.bump 1) = x := ⟨_, rfl⟩
  obtain ⟨lo, st2⟩ := m
  obtain ⟨m, hh⟩ : ∃ x, RX.high s lo st2 = x := ⟨_, rfl⟩
  obtain ⟨hi, stx⟩ := m
  have h2a : st2.at_ ≤ st.at_ + 2 := by have := (RX.must_at s (st.bump 1)).1; rw [hm] at this; exact this
  have hxa : stx.at_ ≤ st.at_ + 4 := by have := (RX.high_at s lo st2).1; rw [hh] at this; exact Nat.le_trans this (by omega)
  obtain ⟨st4, h4⟩ : ∃ x, (if stx.ok = true ∧ RX.nxt s stx 0 ≠ 125 then stx.fail 5 stx.at_ else stx) = x := ⟨_, rfl⟩
  have hb : (RX.bounds s st).1 = lo ∧ (RX.bounds s st).2.1 = hi := by unfold RX.bounds; simp only [hm, hh]; exact ⟨trivial, trivial⟩
  have hts : RX.timesS s st = if st4.ok = true then (if 0 ≤ hi ∧ hi < lo then (st4.bump 1).fail 5 st.at_ else st4.bump 1) else st4 := by unfold RX.timesS; simp only [hm, hh, h4]
  obtain ⟨stz, hz⟩ : ∃ x, (if st4.ok = true then (if 0 ≤ hi ∧ hi < lo then (st4.bump 1).fail 5 st.at_ else st4.bump 1) else st4) = x := ⟨_, rfl⟩
  rw [hb.1, hb.2, hts, hz]
  have HZ := Lib.hid hz
  have HM := Lib.hid hm
  have HH := Lib.hid hh
  have H4 := Lib.hid h4
  clear he hm hh h4 hb hts hz
  go_enter Try.func141, Try.ntmps141
  have c1 := HC1.out.q.blk.c1
  have f1 := HC1.out.q.blk.fr 1
  go_upto_region 3 with fail
  have HC2 := Lib.hid HC1.out.bump1
  generalize w1.setCell _ _ = w2 at HC2 ⊢
  clear c1 f1
  go_upto_region 5 with (go_at_call 150; go_loud (refine (qdigit_any _ _ HC2.out.q (by show st.at_ + 1 ≤ 1000; omega)).mono ?_; rw [HM.out]; rintro e w3 ⟨rfl, hq, ho⟩; have HC3 := Lib.hid (HC2.out.call ho hq); clear hq ho))
  rcases hk2 : st2.ok with _ | _
  · have HK2 := Lib.hid hk2
    have hxx : hi = lo ∧ stx = st2 := by
      have := HH.out
      unfold RX.high at this
      rw [if_neg (by rw [hk2]; simp)] at this
      injection this with a b
      exact ⟨a.symm, b.symm⟩
    obtain ⟨rfl, rfl⟩ := hxx
    have h4x : st4 = stx := by rw [← H4.out, if_neg (by rw [hk2]; simp)]
    have HR := Lib.hid (show stx = stz by rw [← HZ.out, h4x, hk2]; rfl)
    clear hk2 h4x
    go_wp2_with (first
      | (go_at_call 88; go_loud (refine (qok_any _ _ HC3.out.q).mono ?_; rw [HK2.out]; rintro e w4 ⟨rfl, hx⟩; have HC4 := Lib.hid (HC3.out.ex hx); clear hx))
      | (go_at_call 88; go_loud (refine (qok_any _ _ HC4.out.q).mono ?_; rw [HK2.out]; rintro e w5 ⟨rfl, hx⟩; have HC5 := Lib.hid (HC4.out.ex hx); clear hx))
      | (go_at_call 88; go_loud (refine (qok_any _ _ HC5.out.q).mono ?_; rw [HK2.out]; rintro e w6 ⟨rfl, hx⟩; have HC6 := Lib.hid (HC5.out.ex hx); clear hx)))
    go_ret2
    exact ⟨rfl, HR.out ▸ HC6.out.q.blk, HC6.out.only⟩
  have HK2 := Lib.hid hk2
  obtain ⟨c2, hc2⟩ : ∃ x, RX.nxt s st2 0 = x := ⟨_, rfl⟩
  have HN2 := Lib.hid hc2
  go_upto_if 27 with (first
    | (go_at_call 88; go_loud (refine (qok_any _ _ HC3.out.q).mono ?_; rw [HK2.out]; rintro e w4 ⟨rfl, hx⟩; have HC4 := Lib.hid (HC3.out.ex hx); clear hx))
    | (go_at_call 116; go_loud (refine (qnext_any _ _ HC4.out.q).mono ?_; rw [HN2.out]; rintro e w5 ⟨rfl, hx⟩; have HC5 := Lib.hid (HC4.out.ex hx); clear hx)))
  go_cut [6] (fun s6 wx => s6 = .int .i64 hi ∧ Qb w0 rb sv s w1 stx wx)
  case first =>
    by_cases h44 : c2 = 44
    · have b44 : (c2 == 44) = true := by simpa using h44
      obtain ⟨c3, hc3⟩ : ∃ x, RX.nxt s (st2.bump 1) 0 = x := ⟨_, rfl⟩
      have HN3 := Lib.hid hc3
      have hh := HH.out
      unfold RX.high at hh
      rw [if_pos ⟨hk2, hc2.trans h44⟩, hc3] at hh
      have HHH := Lib.hid hh
      clear hk2 hc2 h44 hc3 hh
      have c1 := HC5.out.q.blk.c1
      have f1 := HC5.out.q.blk.fr 1
      go_upto_region 8 with fail
      have HC6 := Lib.hid HC5.out.bump1
      generalize w5.setCell _ _ = w6 at HC6 ⊢
      clear c1 f1
      by_cases h125 : c3 = 125
      · have b125 : (c3 != 125) = false := by simpa using h125
        have hh := HHH.out
        rw [if_neg (by simpa using h125)] at hh
        injection hh with e1 e2
        subst e1 e2
        clear h125
        go_wp2_with (go_at_call 116; go_loud (refine (qnext_any _ _ HC6.out.q).mono ?_; rw [HN3.out]; rintro e w7 ⟨rfl, hx⟩; have HC7 := Lib.hid (HC6.out.ex hx); clear hx))
        go_meet
        exact ⟨rfl, HC7.out⟩
      · have b125 : (c3 != 125) = true := by simpa using h125
        have hh := HHH.out
        rw [if_pos (by simpa using h125)] at hh
        have HH2 := Lib.hid hh
        clear h125 hh
        go_wp2_with (first
          | (go_at_call 116; go_loud (refine (qnext_any _ _ HC6.out.q).mono ?_; rw [HN3.out]; rintro e w7 ⟨rfl, hx⟩; have HC7 := Lib.hid (HC6.out.ex hx); clear hx))
          | (go_at_call 150; go_loud (refine (qdigit_any _ _ HC7.out.q (by show st2.at_ + 1 ≤ 1000; omega)).mono ?_; rw [HH2.out]; rintro e w8 ⟨rfl, hq, ho⟩; have HC8 := Lib.hid (HC7.out.call ho hq); clear hq ho)))
        go_meet
        exact ⟨rfl, HC8.out⟩
    · have b44 : (c2 == 44) = false := by simpa using h44
      have hh := HH.out
      unfold RX.high at hh
      rw [if_neg (by rw [hc2]; exact fun h => h44 h.2)] at hh
      injection hh with e1 e2
      subst e1 e2
      clear hk2 hc2 h44
      go_wp2_with fail
      go_meet
      exact ⟨rfl, HC5.out⟩
  case rest =>
    obtain ⟨rfl, hcc⟩ := hcut
    have HC9 := Lib.hid hcc
    clear hcc hk2 hc2
    rcases hkx : stx.ok with _ | _
    · have HKX := Lib.hid hkx
      have h4x : st4 = stx := by rw [← H4.out, if_neg (by rw [hkx]; simp)]
      have HR := Lib.hid (show stx = stz by rw [← HZ.out, h4x, hkx]; rfl)
      clear hkx h4x
      go_wp2_with (first
        | (go_at_call 88; go_loud (refine (qok_any _ _ HC9.out.q).mono ?_; rw [HKX.out]; rintro e wA ⟨rfl, hx⟩; have HCA := Lib.hid (HC9.out.ex hx); clear hx))
        | (go_at_call 88; go_loud (refine (qok_any _ _ HCA.out.q).mono ?_; rw [HKX.out]; rintro e wB ⟨rfl, hx⟩; have HCB := Lib.hid (HCA.out.ex hx); clear hx)))
      go_ret2
      exact ⟨rfl, HR.out ▸ HCB.out.q.blk, HCB.out.only⟩
    have HKX := Lib.hid hkx
    obtain ⟨cx, hcx⟩ : ∃ x, RX.nxt s stx 0 = x := ⟨_, rfl⟩
    have HNX := Lib.hid hcx
    by_cases h125 : cx = 125
    rotate_left
    · have b125 : (cx != 125) = true := by simpa using h125
      have h4x : st4 = stx.fail 5 stx.at_ := by rw [← H4.out, if_pos ⟨hkx, by rw [hcx]; exact h125⟩]
      have HKN := Lib.hid (RX.failno stx stx.at_)
      have HR := Lib.hid (show stx.fail 5 stx.at_ = stz by rw [← HZ.out, h4x, HKN.out]; rfl)
      clear hkx h4x hcx h125
      go_upto_if 46 with (first
        | (go_at_call 88; go_loud (refine (qok_any _ _ HC9.out.q).mono ?_; rw [HKX.out]; rintro e wA ⟨rfl, hx⟩; have HCA := Lib.hid (HC9.out.ex hx); clear hx))
        | (go_at_call 116; go_loud (refine (qnext_any _ _ HCA.out.q).mono ?_; rw [HNX.out]; rintro e wB ⟨rfl, hx⟩; have HCB := Lib.hid (HCA.out.ex hx); clear hx)))
      have c1 := HCB.out.q.blk.c1
      go_wp2_with (first
        | (go_at_call 89; go_loud (refine (qbad_any _ _ 5 (stx.at_ : Int) HCB.out.q).mono ?_; rintro e wD ⟨rfl, hq, ho⟩; have HCD := Lib.hid (HCB.out.call ho hq); clear hq ho))
        | (go_at_call 88; go_loud (refine (qok_any _ _ HCD.out.q).mono ?_; rw [HKN.out]; rintro e wE ⟨rfl, hx⟩; have HCE := Lib.hid (HCD.out.ex hx); clear hx)))
      go_ret2
      exact ⟨rfl, HR.out ▸ HCE.out.q.blk, HCE.out.only⟩
    have b125 : (cx != 125) = false := by simpa using h125
    have h4x : st4 = stx := by rw [← H4.out, if_neg (by rw [hcx]; exact fun h => h.2 h125)]
    have HR := Lib.hid (show (if 0 ≤ hi ∧ hi < lo then (stx.bump 1).fail 5 st.at_ else stx.bump 1) = stz by rw [← HZ.out, h4x, hkx]; rfl)
    clear hkx h4x hcx h125
    go_upto_if 46 with (first
      | (go_at_call 88; go_loud (refine (qok_any _ _ HC9.out.q).mono ?_; rw [HKX.out]; rintro e wA ⟨rfl, hx⟩; have HCA := Lib.hid (HC9.out.ex hx); clear hx))
      | (go_at_call 116; go_loud (refine (qnext_any _ _ HCA.out.q).mono ?_; rw [HNX.out]; rintro e wB ⟨rfl, hx⟩; have HCB := Lib.hid (HCA.out.ex hx); clear hx)))
    go_upto_region 13 with (go_at_call 88; go_loud (refine (qok_any _ _ HCB.out.q).mono ?_; rw [HKX.out]; rintro e wD ⟨rfl, hx⟩; have HCD := Lib.hid (HCB.out.ex hx); clear hx))
    have c1 := HCD.out.q.blk.c1
    have f1 := HCD.out.q.blk.fr 1
    go_upto_region 14 with fail
    have HCE := Lib.hid HCD.out.bump1
    generalize wD.setCell _ _ = wE at HCE ⊢
    clear c1 f1
    by_cases h0 : 0 ≤ hi
    · have d0 : decide (hi ≥ 0) = true := by simpa using h0
      by_cases h1 : hi < lo
      · have d1 : decide (lo > hi) = true := by simpa using h1
        have HR := Lib.hid ((if_pos ⟨h0, h1⟩).symm.trans HR.out)
        go_wp2_with (go_at_call 89; go_loud (refine (qbad_any _ _ 5 (st.at_ : Int) HCE.out.q).mono ?_; rintro e wF ⟨rfl, hq, ho⟩; have HCF := Lib.hid (HCE.out.call ho hq); clear hq ho))
        go_ret2
        exact ⟨rfl, HR.out ▸ HCF.out.q.blk, HCF.out.only⟩
      · have d1 : decide (lo > hi) = false := by simpa using h1
        have HR := Lib.hid ((if_neg (fun h => h1 h.2)).symm.trans HR.out)
        go_wp2_with fail
        go_ret2
        exact ⟨rfl, HR.out ▸ HCE.out.q.blk, HCE.out.only⟩
    · have d0 : decide (hi ≥ 0) = false := by simpa using h0
      have HR := Lib.hid ((if_neg (fun h => h0 h.1)).symm.trans HR.out)
      go_wp2_with fail
      go_ret2
      exact ⟨rfl, HR.out ▸ HCE.out.q.blk, HCE.out.only⟩
end
end Go.Proofs.Ytfblkahjefdmaaa
