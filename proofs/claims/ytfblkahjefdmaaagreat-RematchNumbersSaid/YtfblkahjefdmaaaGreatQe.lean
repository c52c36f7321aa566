/- Walk: times of the document's own reader. -/
import Derived.Test.YtfblkahjefdmaaaGreatRfF
namespace Go.Proofs.YtfblkahjefdmaaaGreat
open Go.RowKit

namespace RX
/-- The state behind the document's bounds of a repeat. -/
def timesS (s : List Int) (st : St) : St :=
  let a := must s (st.bump 1)
  let b := high s a.1 a.2
  let c := if b.2.ok = true ∧ nxt s b.2 0 ≠ 125 then b.2.fail 5 b.2.at_ else b.2
  if c.ok = true then (if 0 ≤ b.1 ∧ b.1 < a.1 then (c.bump 1).fail 5 st.at_ else c.bump 1) else c
theorem failat (st : St) (c b : Int) : (st.fail c b).at_ = st.at_ := by unfold St.fail; split <;> rfl
theorem failop (st : St) (c b : Int) : (st.fail c b).op = st.op := by unfold St.fail; split <;> rfl
theorem failcaps (st : St) (c b : Int) : (st.fail c b).caps = st.caps := by unfold St.fail; split <;> rfl
theorem failno (st : St) (b : Int) : (st.fail 5 b).ok = false := by
  unfold St.fail St.ok
  split
  · rfl
  · rename_i h; simpa using h
theorem must_at (s : List Int) (st : St) : (must s st).2.at_ ≤ st.at_ + 1 ∧ (must s st).2.op = st.op := by
  unfold must
  split
  · exact ⟨by rw [failat]; omega, failop _ _ _⟩
  · exact ⟨Nat.le_refl _, rfl⟩
theorem high_at (s : List Int) (lo : Int) (st : St) : (high s lo st).2.at_ ≤ st.at_ + 2 ∧ (high s lo st).2.op = st.op := by
  unfold high
  split
  · split
    · have := must_at s (st.bump 1)
      exact ⟨this.1, this.2⟩
    · exact ⟨Nat.le_succ _, rfl⟩
  · exact ⟨Nat.le_add_right _ _, rfl⟩
theorem times_at (s : List Int) (st : St) : (timesS s st).at_ ≤ st.at_ + 5 ∧ (timesS s st).op = st.op := by
  unfold timesS
  simp only
  have h1 := must_at s (st.bump 1)
  have h2 := high_at s (must s (st.bump 1)).1 (must s (st.bump 1)).2
  have h0 : (st.bump 1).at_ = st.at_ + 1 := rfl
  have h0o : (st.bump 1).op = st.op := rfl
  generalize must s (st.bump 1) = a at h1 h2
  generalize high s a.1 a.2 = b at h2
  have h3 : ∀ c : St, c = (if b.2.ok = true ∧ nxt s b.2 0 ≠ 125 then b.2.fail 5 b.2.at_ else b.2) → c.at_ = b.2.at_ ∧ c.op = b.2.op := by
    intro c hc
    rw [hc]
    split
    · exact ⟨failat _ _ _, failop _ _ _⟩
    · exact ⟨rfl, rfl⟩
  have h4 := h3 _ rfl
  generalize (if b.2.ok = true ∧ nxt s b.2 0 ≠ 125 then b.2.fail 5 b.2.at_ else b.2) = c at h4
  have h5 : (c.bump 1).at_ = c.at_ + 1 ∧ (c.bump 1).op = c.op := ⟨rfl, rfl⟩
  split
  · split
    · rw [failat, failop]; exact ⟨by omega, by rw [h5.2, h4.2, h2.2, h1.2, h0o]⟩
    · exact ⟨by omega, by rw [h5.2, h4.2, h2.2, h1.2, h0o]⟩
  · exact ⟨by omega, by rw [h4.2, h2.2, h1.2, h0o]⟩
theorem times_bounds (s : List Int) (st : St) : ((bounds s st).2.2.ok = true → timesS s st = (bounds s st).2.2) ∧ ((bounds s st).2.2.ok = false → (timesS s st).code = (bounds s st).2.2.code ∧ (timesS s st).bat = (bounds s st).2.2.bat) := by
  unfold timesS bounds
  simp only
  generalize must s (st.bump 1) = a
  generalize high s a.1 a.2 = b
  generalize (if b.2.ok = true ∧ nxt s b.2 0 ≠ 125 then b.2.fail 5 b.2.at_ else b.2) = c
  have hb : (c.bump 1).ok = c.ok := rfl
  rcases hc : c.ok with _ | _
  · have h1 : ¬ ((c.bump 1).ok = true ∧ 0 ≤ b.1 ∧ b.1 < a.1) := by rw [hb, hc]; simp
    rw [if_neg h1, hb, hc]
    exact ⟨fun h => (by cases h), fun _ => ⟨rfl, rfl⟩⟩
  · by_cases hx : 0 ≤ b.1 ∧ b.1 < a.1
    · rw [if_pos ⟨hb.trans hc, hx⟩, if_pos rfl, if_pos hx]
      exact ⟨fun _ => rfl, fun _ => ⟨rfl, rfl⟩⟩
    · rw [if_neg (fun h => hx h.2), if_pos rfl, if_neg hx]
      exact ⟨fun _ => rfl, fun _ => ⟨rfl, rfl⟩⟩
end RX
/-- Inside of a method: the reader. -/
structure Qb (w0 : World) (rb : Nat) (sv : Value) (s : List Int) (w1 : World) (st : RX.St) (wr : World) : Prop where
  q : Qn w0 rb sv s wr st
  only : Only w1 wr rb
section
variable {w0 w1 wr w' : World} {rb : Nat} {sv v v' : Value} {s : List Int} {st st' : RX.St}
theorem Qb.call (h : Qb w0 rb sv s w1 st wr) (ho : Only wr w' rb) (hq : QS rb sv w' st') : Qb w0 rb sv s w1 st' w' := ⟨h.q.step ho hq, h.only.trans ho⟩
theorem Qb.ex (h : Qb w0 rb sv s w1 st wr) (hx : Ext wr w') : Qb w0 rb sv s w1 st w' := h.call (Only.of_ext hx rb) (hx.heap h.q.blk)
theorem Qb.bump1 (h : Qb w0 rb sv s w1 st wr) : Qb w0 rb sv s w1 (st.bump 1) (wr.setCell ⟨rb, 1, none⟩ (.int .i64 ((st.at_ : Int) + 1))) := h.call ((Only.refl _ rb).set _) h.q.bump1.blk
end
section
variable {w0 : World} {rb : Nat} {sv : Value} {s : List Int}
set_option maxRecDepth 100000 in
set_option maxHeartbeats 2000000 in
theorem qtimes_any (w1 : World) (st : RX.St) (he : Qn w0 rb sv s w1 st) (ha : st.at_ ≤ 500) :
    Calls Tryz.prog 83 #[.pointer (some ⟨rb, 0, none⟩)] w1 (QV (.tuple #[.int .i64 (RX.bounds s st).1, .int .i64 (RX.bounds s st).2.1]) rb sv w1 (RX.timesS s st)) := by
  have HC1 := Lib.hid (show Qb w0 rb sv s w1 st w1 from ⟨he, Only.refl _ _⟩)
  obtain ⟨m, hm⟩ : ∃ x, RX.must s (st.bump 1) = x := ⟨_, rfl⟩
  obtain ⟨lo, st2⟩ := m
  obtain ⟨m, hh⟩ : ∃ x, RX.high s lo st2 = x := ⟨_, rfl⟩
  obtain ⟨hi, stx⟩ := m
  have h2a : st2.at_ ≤ st.at_ + 2 := by have := (RX.must_at s (st.bump 1)).1; rw [hm] at this; exact this
  have hxa : stx.at_ ≤ st.at_ + 4 := by have := (RX.high_at s lo st2).1; rw [hh] at this; exact Nat.le_trans this (by omega)
  obtain ⟨st4, h4⟩ : ∃ x, (if stx.ok = true ∧ RX.nxt s stx 0 ≠ 125 then stx.fail 5 stx.at_ else stx) = x := ⟨_, rfl⟩
  have hb : (RX.bounds s st).1 = lo ∧ (RX.bounds s st).2.1 = hi := by unfold RX.bounds; simp only [hm, hh]; exact ⟨trivial, trivial⟩
  have hts : RX.timesS s st = if st4.ok = true then (if 0 ≤ hi ∧ hi < lo then (st4.bump 1).fail 5 st.at_ else st4.bump 1) else st4 := by unfold RX.timesS; simp only [hm, hh, h4]
  obtain ⟨stz, hz⟩ : ∃ x, (if st4.ok = true then (if 0 ≤ hi ∧ hi < lo then (st4.bump 1).fail 5 st.at_ else st4.bump 1) else st4) = x := ⟨_, rfl⟩
  rw [hb.1, hb.2, hts, hz]
  have HZ := Lib.hid hz
  have HM := Lib.hid hm
  have HH := Lib.hid hh
  have H4 := Lib.hid h4
  clear he hm hh h4 hb hts hz
  go_enter Tryz.func83, Tryz.ntmps83
  have c1 := HC1.out.q.blk.c1
  have f1 := HC1.out.q.blk.fr 1
  go_upto_region 3 with fail
  have HC2 := Lib.hid HC1.out.bump1
  generalize w1.setCell _ _ = w2 at HC2 ⊢
  clear c1 f1
  go_upto_region 5 with (go_at_call 93; go_loud (refine (qdigit_any _ _ HC2.out.q (by show st.at_ + 1 ≤ 1000; omega)).mono ?_; rw [HM.out]; rintro e w3 ⟨rfl, hq, ho⟩; have HC3 := Lib.hid (HC2.out.call ho hq); clear hq ho))
  rcases hk2 : st2.ok with _ | _
  · have HK2 := Lib.hid hk2
    have hxx : hi = lo ∧ stx = st2 := by
      have := HH.out
      unfold RX.high at this
      rw [if_neg (by rw [hk2]; simp)] at this
      injection this with a b
      exact ⟨a.symm, b.symm⟩
    obtain ⟨rfl, rfl⟩ := hxx
    have h4x : st4 = stx := by rw [← H4.out, if_neg (by rw [hk2]; simp)]
    have HR := Lib.hid (show stx = stz by rw [← HZ.out, h4x, hk2]; rfl)
    clear hk2 h4x
    go_wp2_with (first
      | (go_at_call 43; go_loud (refine (qok_any _ _ HC3.out.q).mono ?_; rw [HK2.out]; rintro e w4 ⟨rfl, hx⟩; have HC4 := Lib.hid (HC3.out.ex hx); clear hx))
      | (go_at_call 43; go_loud (refine (qok_any _ _ HC4.out.q).mono ?_; rw [HK2.out]; rintro e w5 ⟨rfl, hx⟩; have HC5 := Lib.hid (HC4.out.ex hx); clear hx))
      | (go_at_call 43; go_loud (refine (qok_any _ _ HC5.out.q).mono ?_; rw [HK2.out]; rintro e w6 ⟨rfl, hx⟩; have HC6 := Lib.hid (HC5.out.ex hx); clear hx)))
    go_ret2
    exact ⟨rfl, HR.out ▸ HC6.out.q.blk, HC6.out.only⟩
  have HK2 := Lib.hid hk2
  obtain ⟨c2, hc2⟩ : ∃ x, RX.nxt s st2 0 = x := ⟨_, rfl⟩
  have HN2 := Lib.hid hc2
  go_upto_if 27 with (first
    | (go_at_call 43; go_loud (refine (qok_any _ _ HC3.out.q).mono ?_; rw [HK2.out]; rintro e w4 ⟨rfl, hx⟩; have HC4 := Lib.hid (HC3.out.ex hx); clear hx))
    | (go_at_call 63; go_loud (refine (qnext_any _ _ HC4.out.q).mono ?_; rw [HN2.out]; rintro e w5 ⟨rfl, hx⟩; have HC5 := Lib.hid (HC4.out.ex hx); clear hx)))
  go_cut [6] (fun s6 wx => s6 = .int .i64 hi ∧ Qb w0 rb sv s w1 stx wx)
  case first =>
    by_cases h44 : c2 = 44
    · have b44 : (c2 == 44) = true := by simpa using h44
      obtain ⟨c3, hc3⟩ : ∃ x, RX.nxt s (st2.bump 1) 0 = x := ⟨_, rfl⟩
      have HN3 := Lib.hid hc3
      have hh := HH.out
      unfold RX.high at hh
      rw [if_pos ⟨hk2, hc2.trans h44⟩, hc3] at hh
      have HHH := Lib.hid hh
      clear hk2 hc2 h44 hc3 hh
      have c1 := HC5.out.q.blk.c1
      have f1 := HC5.out.q.blk.fr 1
      go_upto_region 8 with fail
      have HC6 := Lib.hid HC5.out.bump1
      generalize w5.setCell _ _ = w6 at HC6 ⊢
      clear c1 f1
      by_cases h125 : c3 = 125
      · have b125 : (c3 != 125) = false := by simpa using h125
        have hh := HHH.out
        rw [if_neg (by simpa using h125)] at hh
        injection hh with e1 e2
        subst e1 e2
        clear h125
        go_wp2_with (go_at_call 63; go_loud (refine (qnext_any _ _ HC6.out.q).mono ?_; rw [HN3.out]; rintro e w7 ⟨rfl, hx⟩; have HC7 := Lib.hid (HC6.out.ex hx); clear hx))
        go_meet
        exact ⟨rfl, HC7.out⟩
      · have b125 : (c3 != 125) = true := by simpa using h125
        have hh := HHH.out
        rw [if_pos (by simpa using h125)] at hh
        have HH2 := Lib.hid hh
        clear h125 hh
        go_wp2_with (first
          | (go_at_call 63; go_loud (refine (qnext_any _ _ HC6.out.q).mono ?_; rw [HN3.out]; rintro e w7 ⟨rfl, hx⟩; have HC7 := Lib.hid (HC6.out.ex hx); clear hx))
          | (go_at_call 93; go_loud (refine (qdigit_any _ _ HC7.out.q (by show st2.at_ + 1 ≤ 1000; omega)).mono ?_; rw [HH2.out]; rintro e w8 ⟨rfl, hq, ho⟩; have HC8 := Lib.hid (HC7.out.call ho hq); clear hq ho)))
        go_meet
        exact ⟨rfl, HC8.out⟩
    · have b44 : (c2 == 44) = false := by simpa using h44
      have hh := HH.out
      unfold RX.high at hh
      rw [if_neg (by rw [hc2]; exact fun h => h44 h.2)] at hh
      injection hh with e1 e2
      subst e1 e2
      clear hk2 hc2 h44
      go_wp2_with fail
      go_meet
      exact ⟨rfl, HC5.out⟩
  case rest =>
    obtain ⟨rfl, hcc⟩ := hcut
    have HC9 := Lib.hid hcc
    clear hcc hk2 hc2
    rcases hkx : stx.ok with _ | _
    · have HKX := Lib.hid hkx
      have h4x : st4 = stx := by rw [← H4.out, if_neg (by rw [hkx]; simp)]
      have HR := Lib.hid (show stx = stz by rw [← HZ.out, h4x, hkx]; rfl)
      clear hkx h4x
      go_wp2_with (first
        | (go_at_call 43; go_loud (refine (qok_any _ _ HC9.out.q).mono ?_; rw [HKX.out]; rintro e wA ⟨rfl, hx⟩; have HCA := Lib.hid (HC9.out.ex hx); clear hx))
        | (go_at_call 43; go_loud (refine (qok_any _ _ HCA.out.q).mono ?_; rw [HKX.out]; rintro e wB ⟨rfl, hx⟩; have HCB := Lib.hid (HCA.out.ex hx); clear hx)))
      go_ret2
      exact ⟨rfl, HR.out ▸ HCB.out.q.blk, HCB.out.only⟩
    have HKX := Lib.hid hkx
    obtain ⟨cx, hcx⟩ : ∃ x, RX.nxt s stx 0 = x := ⟨_, rfl⟩
    have HNX := Lib.hid hcx
    by_cases h125 : cx = 125
    rotate_left
    · have b125 : (cx != 125) = true := by simpa using h125
      have h4x : st4 = stx.fail 5 stx.at_ := by rw [← H4.out, if_pos ⟨hkx, by rw [hcx]; exact h125⟩]
      have HKN := Lib.hid (RX.failno stx stx.at_)
      have HR := Lib.hid (show stx.fail 5 stx.at_ = stz by rw [← HZ.out, h4x, HKN.out]; rfl)
      clear hkx h4x hcx h125
      go_upto_if 46 with (first
        | (go_at_call 43; go_loud (refine (qok_any _ _ HC9.out.q).mono ?_; rw [HKX.out]; rintro e wA ⟨rfl, hx⟩; have HCA := Lib.hid (HC9.out.ex hx); clear hx))
        | (go_at_call 63; go_loud (refine (qnext_any _ _ HCA.out.q).mono ?_; rw [HNX.out]; rintro e wB ⟨rfl, hx⟩; have HCB := Lib.hid (HCA.out.ex hx); clear hx)))
      have c1 := HCB.out.q.blk.c1
      go_wp2_with (first
        | (go_at_call 44; go_loud (refine (qbad_any _ _ 5 (stx.at_ : Int) HCB.out.q).mono ?_; rintro e wD ⟨rfl, hq, ho⟩; have HCD := Lib.hid (HCB.out.call ho hq); clear hq ho))
        | (go_at_call 43; go_loud (refine (qok_any _ _ HCD.out.q).mono ?_; rw [HKN.out]; rintro e wE ⟨rfl, hx⟩; have HCE := Lib.hid (HCD.out.ex hx); clear hx)))
      go_ret2
      exact ⟨rfl, HR.out ▸ HCE.out.q.blk, HCE.out.only⟩
    have b125 : (cx != 125) = false := by simpa using h125
    have h4x : st4 = stx := by rw [← H4.out, if_neg (by rw [hcx]; exact fun h => h.2 h125)]
    have HR := Lib.hid (show (if 0 ≤ hi ∧ hi < lo then (stx.bump 1).fail 5 st.at_ else stx.bump 1) = stz by rw [← HZ.out, h4x, hkx]; rfl)
    clear hkx h4x hcx h125
    go_upto_if 46 with (first
      | (go_at_call 43; go_loud (refine (qok_any _ _ HC9.out.q).mono ?_; rw [HKX.out]; rintro e wA ⟨rfl, hx⟩; have HCA := Lib.hid (HC9.out.ex hx); clear hx))
      | (go_at_call 63; go_loud (refine (qnext_any _ _ HCA.out.q).mono ?_; rw [HNX.out]; rintro e wB ⟨rfl, hx⟩; have HCB := Lib.hid (HCA.out.ex hx); clear hx)))
    go_upto_region 13 with (go_at_call 43; go_loud (refine (qok_any _ _ HCB.out.q).mono ?_; rw [HKX.out]; rintro e wD ⟨rfl, hx⟩; have HCD := Lib.hid (HCB.out.ex hx); clear hx))
    have c1 := HCD.out.q.blk.c1
    have f1 := HCD.out.q.blk.fr 1
    go_upto_region 14 with fail
    have HCE := Lib.hid HCD.out.bump1
    generalize wD.setCell _ _ = wE at HCE ⊢
    clear c1 f1
    by_cases h0 : 0 ≤ hi
    · have d0 : decide (hi ≥ 0) = true := by simpa using h0
      by_cases h1 : hi < lo
      · have d1 : decide (lo > hi) = true := by simpa using h1
        have HR := Lib.hid ((if_pos ⟨h0, h1⟩).symm.trans HR.out)
        go_wp2_with (go_at_call 44; go_loud (refine (qbad_any _ _ 5 (st.at_ : Int) HCE.out.q).mono ?_; rintro e wF ⟨rfl, hq, ho⟩; have HCF := Lib.hid (HCE.out.call ho hq); clear hq ho))
        go_ret2
        exact ⟨rfl, HR.out ▸ HCF.out.q.blk, HCF.out.only⟩
      · have d1 : decide (lo > hi) = false := by simpa using h1
        have HR := Lib.hid ((if_neg (fun h => h1 h.2)).symm.trans HR.out)
        go_wp2_with fail
        go_ret2
        exact ⟨rfl, HR.out ▸ HCE.out.q.blk, HCE.out.only⟩
    · have d0 : decide (hi ≥ 0) = false := by simpa using h0
      have HR := Lib.hid ((if_neg (fun h => h0 h.1)).symm.trans HR.out)
      go_wp2_with fail
      go_ret2
      exact ⟨rfl, HR.out ▸ HCE.out.q.blk, HCE.out.only⟩
end
end Go.Proofs.YtfblkahjefdmaaaGreat

/- Walk: group of the document's own reader. -/
namespace Go.Proofs.YtfblkahjefdmaaaGreat
open Go.RowKit

namespace RX
/-- The state behind a group whose inside ended at st. -/
def grpEnd (s : List Int) (st : St) : St :=
  let st1 : St := { st with op := st.op - 1 }
  (if st1.ok = true ∧ nxt s st1 0 ≠ 41 then st1.fail 5 st1.at_ else st1).bump 1
theorem fail_eq {a b : St} {c x : Int} (h1 : a.code = b.code) (h2 : a.bat = b.bat) : (a.fail c x).code = (b.fail c x).code ∧ (a.fail c x).bat = (b.fail c x).bat := by
  unfold St.fail
  rw [h1]
  split
  · exact ⟨rfl, rfl⟩
  · exact ⟨h1, h2⟩
theorem under_one (x : ReN) (l : List ReN) : under x [l] = x :: l.map ReN.down := by simp [under]
end RX
theorem QOut.group {s : List Int} {alt : RX.St → List RX.ReN × RX.St} {st stg : RX.St} {k : Int} {K : Nat} {D : Int} {N : Nat} {l : List RX.ReN} {st5 : RX.St} (h : QOut (alt { stg with op := stg.op + 1 }) { stg with op := stg.op + 1 } K D N l st5)
    (hg : RX.groupP s alt st = RX.groupIn s alt k stg) (hop : stg.op = st.op) (hD : 0 ≤ D) : QOut (RX.groupP s alt st) st (K + 1) (D + 1) (N + 1) (RX.node 5 k 0 false false [] :: l.map RX.ReN.down) (RX.grpEnd s st5) := by
  have e : RX.groupIn s alt k stg = (RX.node 5 k 0 false false [] :: (alt { stg with op := stg.op + 1 }).1.map RX.ReN.down, RX.grpEnd s (alt { stg with op := stg.op + 1 }).2) := by unfold RX.groupIn RX.grpEnd; simp only [RX.under_one]
  rw [hg, e]
  have ho5 : st5.op = stg.op + 1 := h.op
  generalize alt { stg with op := stg.op + 1 } = r at h
  refine ⟨by simp; exact h.len, ?_, ?_, ?_, ?_, ?_⟩
  · intro x hx
    rcases List.mem_cons.1 hx with rfl | hx
    · exact ⟨Int.le_refl _, by show (0 : Int) ≤ D + 1; omega⟩
    · obtain ⟨y, hy, rfl⟩ := List.mem_map.1 hx
      have := h.deep y hy
      exact ⟨by show 0 ≤ y.deep + 1; omega, by show y.deep + 1 ≤ D + 1; omega⟩
  · have := h.hi
    unfold RX.grpEnd
    simp only
    split
    · show (RX.St.fail _ _ _).at_ + 1 ≤ N + 1
      rw [RX.failat]
      exact Nat.succ_le_succ this
    · exact Nat.succ_le_succ this
  · unfold RX.grpEnd
    simp only
    split
    · show (RX.St.fail _ _ _).op = st.op
      rw [RX.failop]
      show st5.op - 1 = st.op
      omega
    · show st5.op - 1 = st.op
      omega
  · intro hk
    have hk2 : r.2.ok = true := by
      rcases hr : r.2.ok with _ | _
      · have : (RX.grpEnd s r.2).ok = false := by
          unfold RX.grpEnd
          simp only
          rw [if_neg (by rintro ⟨h1, -⟩; have h2 : r.2.ok = true := h1; rw [hr] at h2; cases h2)]
          exact hr
        rw [show ((RX.node 5 k 0 false false [] :: r.1.map RX.ReN.down, RX.grpEnd s r.2) : List RX.ReN × RX.St).2 = RX.grpEnd s r.2 from rfl, this] at hk; cases hk
      · rfl
    obtain ⟨rfl, rfl⟩ := h.good hk2
    exact ⟨rfl, rfl⟩
  · intro hk
    rcases hr : r.2.ok with _ | _
    · obtain ⟨h1, h2⟩ := h.bad hr
      have h3 : st5.ok = false := by rw [h.ok]; exact hr
      unfold RX.grpEnd
      simp only
      rw [if_neg (by rintro ⟨h1, -⟩; have h2 : st5.ok = true := h1; rw [h3] at h2; cases h2), if_neg (by rintro ⟨h1, -⟩; have h2 : r.2.ok = true := h1; rw [hr] at h2; cases h2)]
      exact ⟨h1, h2⟩
    · obtain ⟨-, rfl⟩ := h.good hr
      exact ⟨rfl, rfl⟩
/-- A method that ends in a fault, with nothing. -/
theorem QOut.fault {R : List RX.ReN × RX.St} {st st2 : RX.St} {K : Nat} {D : Int} {n : Nat} (hop : st2.op = st.op) (hhi : st2.at_ ≤ n) (h0 : R.2.ok = false) (h1 : st2.code = R.2.code) (h2 : st2.bat = R.2.bat) : QOut R st K D n [] st2 :=
  ⟨Nat.zero_le _, by simp, hhi, hop, (fun h => by rw [h0] at h; cases h), fun _ => ⟨h1, h2⟩⟩
/-- What alternatives keep, at a level. -/
def AltQ (w0 : World) (rb : Nat) (sv : Value) (s : List Int) (n : Nat) (alt : RX.St → List RX.ReN × RX.St) (K : Nat) (D : Int) (N : Nat) : Prop :=
  ∀ (w : World) (st : RX.St), Qn w0 rb sv s w st → st.ok = true → st.at_ ≤ s.length → st.caps ≤ 9 → st.op + n = 12 → Calls Tryz.prog 42 #[.pointer (some ⟨rb, 0, none⟩)] w (QP rb sv w (alt st) st K D N)
/-- A node's block. -/
def ReBox (gb : Nat) (k lo hi : Int) (lz : Bool) (w : World) : Prop :=
  w.heap[gb]? = some (.cells #[.int .i64 k, .int .i64 0, .int .i64 lo, .int .i64 hi, .bool lz, .bool false, .slice none 0 0] 82 (0, 0))
/-- Inside of a method that holds a node: the reader, the node's block. -/
structure Qg (w0 : World) (rb : Nat) (sv : Value) (s : List Int) (w1 : World) (gb : Nat) (k lo hi : Int) (lz : Bool) (st : RX.St) (v : Value) (l : List RX.ReN) (wr : World) : Prop where
  b : Qb w0 rb sv s w1 st wr
  g : ReBox gb k lo hi lz wr
  new : w1.heap.size ≤ gb
  lt : rb < w1.heap.size
  val : SlRe w1.heap.size w1.heap.size wr v l
theorem setcell_new {a w : World} {p nb o : Nat} {u : Value} (hn : a.heap.size ≤ nb) (h : Only a w p) : Only a (w.setCell ⟨nb, o, none⟩ u) p :=
  ⟨h.os, h.tape, h.output, by simpa using h.size, fun i hi hne => (Below.heap_setCell w ⟨nb, o, none⟩ u i (by rintro rfl; exact Nat.lt_irrefl _ (Nat.lt_of_lt_of_le hi hn))).trans (h.block i hi hne)⟩
section
variable {w0 w1 wr w' : World} {rb gb : Nat} {sv v v' : Value} {s : List Int} {st st' : RX.St} {k lo hi lo' hi' : Int} {lz : Bool} {l l' : List RX.ReN}
theorem ReBox.c (h : ReBox gb k lo hi lz wr) (o : Nat) (u : Value) (hu : (#[.int .i64 k, .int .i64 0, .int .i64 lo, .int .i64 hi, .bool lz, .bool false, .slice none 0 0] : Array Value)[o]? = some u) : wr.cell? ⟨gb, o, none⟩ = some u := by
  unfold ReBox at h
  simp only [World.cell?, h]
  exact hu
theorem ReBox.fr (h : ReBox gb k lo hi lz wr) (o : Nat) : wr.frozen? ⟨gb, o, none⟩ = false := frozen_of_row wr gb o _ _ h
theorem ReBox.lo_ (h : ReBox gb k lo hi lz wr) : ReBox gb k lo' hi lz (wr.setCell ⟨gb, 2, none⟩ (.int .i64 lo')) := heap_set h
theorem ReBox.hi_ (h : ReBox gb k lo hi lz wr) : ReBox gb k lo hi' lz (wr.setCell ⟨gb, 3, none⟩ (.int .i64 hi')) := heap_set h
theorem ReBox.lz_ (h : ReBox gb k lo hi lz wr) : ReBox gb k lo hi true (wr.setCell ⟨gb, 4, none⟩ (.bool true)) := heap_set h
theorem Qg.call (h : Qg w0 rb sv s w1 gb k lo hi lz st v l wr) (ho : Only wr w' rb) (hq : QS rb sv w' st') : Qg w0 rb sv s w1 gb k lo hi lz st' v l w' :=
  ⟨h.b.call ho hq, (ho.block gb (heap_lt h.g) (by intro e; injection e with e; have := h.new; have := h.lt; omega)).trans h.g, h.new, h.lt, h.val.keepB (keepsB_re _) (KeepB.low ho h.lt)⟩
theorem Qg.ex (h : Qg w0 rb sv s w1 gb k lo hi lz st v l wr) (hx : Ext wr w') : Qg w0 rb sv s w1 gb k lo hi lz st v l w' := h.call (Only.of_ext hx rb) (hx.heap h.b.q.blk)
theorem Qg.bump1 (h : Qg w0 rb sv s w1 gb k lo hi lz st v l wr) : Qg w0 rb sv s w1 gb k lo hi lz (st.bump 1) v l (wr.setCell ⟨rb, 1, none⟩ (.int .i64 ((st.at_ : Int) + 1))) := h.call ((Only.refl _ rb).set _) h.b.q.bump1.blk
theorem Qg.setcaps1 (h : Qg w0 rb sv s w1 gb k lo hi lz st v l wr) : Qg w0 rb sv s w1 gb k lo hi lz { st with caps := st.caps + 1 } v l (wr.setCell ⟨rb, 2, none⟩ (.int .i64 ((st.caps : Int) + 1))) := h.call ((Only.refl _ rb).set _) (h.b.q.setcaps (st.caps + 1)).blk
theorem Qg.setop1 (h : Qg w0 rb sv s w1 gb k lo hi lz st v l wr) : Qg w0 rb sv s w1 gb k lo hi lz { st with op := st.op + 1 } v l (wr.setCell ⟨rb, 3, none⟩ (.int .i64 ((st.op : Int) + 1))) := h.call ((Only.refl _ rb).set _) (h.b.q.setop (st.op + 1)).blk
theorem Qg.setop0 (h : Qg w0 rb sv s w1 gb k lo hi lz st v l wr) (h1 : 1 ≤ st.op) : Qg w0 rb sv s w1 gb k lo hi lz { st with op := st.op - 1 } v l (wr.setCell ⟨rb, 3, none⟩ (.int .i64 ((st.op : Int) - 1))) := by
  have e : ((st.op : Int) - 1) = ((st.op - 1 : Nat) : Int) := by omega
  rw [e]; exact h.call ((Only.refl _ rb).set _) (h.b.q.setop (st.op - 1)).blk
theorem Qg.set (h : Qg w0 rb sv s w1 gb k lo hi lz st (.slice none 0 0) [] wr) {o : Nat} {u : Value} {k' lo' hi' : Int} {lz' : Bool} (hg : ReBox gb k' lo' hi' lz' (wr.setCell ⟨gb, o, none⟩ u)) : Qg w0 rb sv s w1 gb k' lo' hi' lz' st (.slice none 0 0) [] (wr.setCell ⟨gb, o, none⟩ u) := by
  have hlt : rb < gb := Nat.lt_of_lt_of_le h.lt h.new
  have hq : QS rb sv (wr.setCell ⟨gb, o, none⟩ u) st := (Below.heap_setCell wr ⟨gb, o, none⟩ u rb (by rintro rfl; exact Nat.lt_irrefl _ hlt)).trans h.b.q.blk
  have hx : Ext w0 (wr.setCell ⟨gb, o, none⟩ u) := Ext.only h.b.q.ext ((Only.refl wr gb).set u) (by have := h.b.q.lo; omega)
  exact ⟨⟨⟨h.b.q.sl, h.b.q.lo, h.b.q.len, h.b.q.pos, hx, hq⟩, setcell_new h.new h.b.only⟩, hg, h.new, h.lt, SlB.nil_⟩
theorem Qg.setv (h : Qg w0 rb sv s w1 gb k lo hi lz st v l wr) (hv : SlRe w1.heap.size w1.heap.size wr v' l') : Qg w0 rb sv s w1 gb k lo hi lz st v' l' wr := ⟨h.b, h.g, h.new, h.lt, hv⟩
theorem Qg.start {w2 : World} (h : Qb w0 rb sv s w1 st w2) (hlt : rb < w1.heap.size) : Qg w0 rb sv s w1 w2.heap.size k 0 0 false st (.slice none 0 0) [] (w2.alloc (.cells #[.int .i64 k, .int .i64 0, .int .i64 0, .int .i64 0, .bool false, .bool false, .slice none 0 0] 82)) :=
  ⟨h.ex ((Ext.refl _).alloc _), heap_alloc_new _ _, h.only.size, hlt, SlB.nil_⟩
theorem qunder_any {B : Nat} (w : World) (x : RX.ReN) (cs : List Value) (more : List RX.ReN) (vm : Value) (hx : CR B w cs x) (hm : SlRe B B w vm more) (hb : B ≤ w.heap.size) (hn : more.length ≤ 90000) (hd : ∀ y ∈ more, 0 ≤ y.deep ∧ y.deep ≤ 1000) :
    Calls Tryz.prog 64 #[.slice (some ⟨w.heap.size, 0, none⟩) 1 1, vm] (w.alloc (.cells cs.toArray 82)) (fun e w' => ∃ v', e = .returned v' ∧ OwnRe B B w' v' (x :: more.map RX.ReN.down) ∧ Ext w w') := by
  have hx1 : Ext w (w.alloc (.cells cs.toArray 82)) := (Ext.refl w).alloc _
  refine (qlower_any B B B [x] more _ vm _ (reQ_lit rfl hb hx) (hm.keep (keeps_re B) (KeepT.of_ext hx1) (KeepT.of_ext hx1)) (by simp) ?_ (by simp; omega) (by simp; omega) hd).mono ?_
  · intro g o n c hv hg
    obtain ⟨A, c', e, -, -, -, hA⟩ := hm
    rw [hv] at e
    injection e with e1 _ _
    obtain ⟨_, _, _, e2, -, e3, -⟩ := hA _ e1.symm
    injection e2 with e2 _ _
    have := heap_lt e3
    simp [Value.ownBlock] at hg
    omega
  · rintro e w' ⟨v', rfl, h1, h2⟩
    exact ⟨v', rfl, h1, hx1.grown h2 (by intro k hk; simp [Value.ownBlock] at hk; omega)⟩
end
section
variable {w0 : World} {rb : Nat} {sv : Value} {s : List Int}
set_option maxRecDepth 100000 in
set_option maxHeartbeats 2000000 in
theorem qgroup_any (n : Nat) (alt : RX.St → List RX.ReN × RX.St) {K : Nat} {D : Int} {N : Nat} (HA : ∀ m, n = m + 1 → AltQ w0 rb sv s m alt K D N) (hK : K ≤ 10000) (hD : 0 ≤ D ∧ D ≤ 100) (hN : s.length + 4 ≤ N ∧ N ≤ 1000)
    (w1 : World) (st : RX.St) (he : Qn w0 rb sv s w1 st) (hok : st.ok = true) (ha : st.at_ < s.length) (h9 : st.caps ≤ 9) (hop : st.op + n = 12) :
    Calls Tryz.prog 89 #[.pointer (some ⟨rb, 0, none⟩)] w1 (QP rb sv w1 (RX.groupP s alt st) st (K + 1) (D + 1) (N + 1)) := by
  have hl60 := he.len
  have HC1 := Lib.hid (show Qb w0 rb sv s w1 st w1 from ⟨he, Only.refl _ _⟩)
  have hrb := he.rbl
  have HOK := Lib.hid hok
  have HOP := Lib.hid hop
  obtain ⟨R, hR⟩ : ∃ x, RX.groupP s alt st = x := ⟨_, rfl⟩
  have HR := Lib.hid hR
  obtain ⟨c1_, hc1⟩ : ∃ x, RX.nxt s (st.bump 1) 0 = x := ⟨_, rfl⟩
  obtain ⟨c2_, hc2⟩ : ∃ x, RX.nxt s (st.bump 2) 0 = x := ⟨_, rfl⟩
  have HN1 := Lib.hid hc1
  have HN2 := Lib.hid (show RX.nxt s ((st.bump 1).bump 1) 0 = c2_ from hc2)
  have hgp : RX.groupP s alt st = if 12 ≤ st.op then ([], st.fail 6 st.at_) else if c1_ = 63 ∧ c2_ = 58 then RX.groupIn s alt 0 (st.bump 3) else if c1_ = 63 then ([], st.fail 5 (st.at_ + 2)) else if 9 ≤ st.caps then ([], st.fail 3 st.at_) else RX.groupIn s alt (st.caps + 1) { st.bump 1 with caps := st.caps + 1 } := by
    rw [← hc1, ← hc2]; rfl
  have HGP := Lib.hid (hR.symm.trans hgp)
  rw [hR]
  clear he hok hR hc1 hc2 hgp
  go_enter Tryz.func89, Tryz.ntmps89
  have c1 := HC1.out.q.blk.c1
  have f1 := HC1.out.q.blk.fr 1
  go_upto_region 3 with fail
  have HC2 := Lib.hid HC1.out.bump1
  generalize w1.setCell _ _ = w2 at HC2 ⊢
  clear c1 f1
  go_upto_region 4 with fail
  have HC3 := Lib.hid (Qg.start (k := 5) HC2.out hrb)
  have hgbn : w1.heap.size ≤ w2.heap.size := HC2.out.only.size
  generalize w2.heap.size = gb at HC3 hgbn ⊢
  generalize w2.alloc _ = w3 at HC3 ⊢
  have c3 := HC3.out.b.q.blk.c3
  by_cases h12 : 12 ≤ st.op
  · have d12 : decide ((12 : Int) ≤ ((st.bump 1).op : Int)) = true := by show decide ((12 : Int) ≤ (st.op : Int)) = true; simp; omega
    have hr := HGP.out
    rw [if_pos h12] at hr
    subst hr
    clear h12
    go_upto_if 22 with fail
    go_wp2_with (go_at_call 44; go_loud (refine (qbad_any _ _ 6 (st.at_ : Int) HC3.out.b.q).mono ?_; rintro e w4 ⟨rfl, hq, ho⟩; have HC4 := Lib.hid (HC3.out.call ho hq); clear hq ho))
    go_ret
    exact ⟨[], _, _, rfl, SlB.nil_, HC4.out.b.q.blk, HC4.out.b.only, QOut.fault (by rw [RX.failop]; rfl) (by rw [RX.failat]; show st.at_ + 1 ≤ N + 1; omega) (RX.St.fail_ok _ (by decide)) (RX.fail_eq (a := st.bump 1) (b := st) rfl rfl).1 (RX.fail_eq (a := st.bump 1) (b := st) rfl rfl).2⟩
  have d12 : decide ((12 : Int) ≤ ((st.bump 1).op : Int)) = false := by show decide ((12 : Int) ≤ (st.op : Int)) = false; simp; omega
  obtain ⟨m, rfl⟩ : ∃ m, n = m + 1 := ⟨n - 1, by omega⟩
  have HAX := Lib.hid (HA m rfl)
  have hb1 : (st.bump 1).at_ ≤ 100 := by show st.at_ + 1 ≤ 100; omega
  have hb2 : ((st.bump 1).bump 1).at_ ≤ 100 := by show st.at_ + 2 ≤ 100; omega
  have hb3 : (st.bump 1).caps ≤ 9 := h9
  have hr := HGP.out
  rw [if_neg h12] at hr
  go_upto_if 22 with fail
  clear c3 hop
  by_cases hB : c1_ = 63 ∧ c2_ ≠ 58
  · have b63 : (c1_ == 63) = true := by simpa using hB.1
    have b58 : (c2_ != 58) = true := by simpa using hB.2
    rw [if_neg (fun h => hB.2 h.2), if_pos hB.1] at hr
    subst hr
    clear hB
    go_upto_region 8 with (go_at_call 63; go_loud (refine (qnext_any _ _ HC3.out.b.q).mono ?_; rw [HN1.out]; rintro e w4 ⟨rfl, hx⟩; have HC4 := Lib.hid (HC3.out.ex hx); clear hx))
    have c1 := HC4.out.b.q.blk.c1
    have f1 := HC4.out.b.q.blk.fr 1
    go_upto_region 9 with fail
    have HC5 := Lib.hid HC4.out.bump1
    generalize w4.setCell _ _ = w5 at HC5 ⊢
    clear c1 f1
    go_upto_region 10 with (go_at_call 63; go_loud (refine (qnext_any _ _ HC5.out.b.q).mono ?_; rw [HN2.out]; rintro e w6 ⟨rfl, hx⟩; have HC6 := Lib.hid (HC5.out.ex hx); clear hx))
    have c1 := HC6.out.b.q.blk.c1
    go_wp2_with (go_at_call 44; go_loud (refine (qbad_any _ _ 5 (((st.bump 1).bump 1).at_ : Int) HC6.out.b.q).mono ?_; rintro e w7 ⟨rfl, hq, ho⟩; have HC7 := Lib.hid (HC6.out.call ho hq); clear hq ho))
    go_ret
    have hcb := RX.fail_eq (a := (st.bump 1).bump 1) (b := st) (c := 5) (x := (st.at_ + 2 : Nat)) rfl rfl
    exact ⟨[], _, _, rfl, SlB.nil_, HC7.out.b.q.blk, HC7.out.b.only, QOut.fault (by rw [RX.failop]; rfl) (by rw [RX.failat]; show st.at_ + 2 ≤ N + 1; omega) (RX.St.fail_ok _ (by decide)) hcb.1 hcb.2⟩
  by_cases hC : c1_ ≠ 63 ∧ 9 ≤ st.caps
  · have b63 : (c1_ == 63) = false := by simpa using hC.1
    have d9 : decide ((9 : Int) ≤ ((st.bump 1).caps : Int)) = true := by have := hC.2; show decide ((9 : Int) ≤ (st.caps : Int)) = true; simp; omega
    rw [if_neg (fun h => hC.1 h.1), if_neg hC.1, if_pos hC.2] at hr
    subst hr
    clear hC hB
    go_upto_region 13 with (go_at_call 63; go_loud (refine (qnext_any _ _ HC3.out.b.q).mono ?_; rw [HN1.out]; rintro e w4 ⟨rfl, hx⟩; have HC4 := Lib.hid (HC3.out.ex hx); clear hx))
    have c2 := HC4.out.b.q.blk.c2
    go_upto_if 56 with fail
    go_wp2_with (go_at_call 44; go_loud (refine (qbad_any _ _ 3 (st.at_ : Int) HC4.out.b.q).mono ?_; rintro e w5 ⟨rfl, hq, ho⟩; have HC5 := Lib.hid (HC4.out.call ho hq); clear hq ho))
    go_ret
    exact ⟨[], _, _, rfl, SlB.nil_, HC5.out.b.q.blk, HC5.out.b.only, QOut.fault (by rw [RX.failop]; rfl) (by rw [RX.failat]; show st.at_ + 1 ≤ N + 1; omega) (RX.St.fail_ok _ (by decide)) (RX.fail_eq (a := st.bump 1) (b := st) rfl rfl).1 (RX.fail_eq (a := st.bump 1) (b := st) rfl rfl).2⟩
  obtain ⟨lo, stg, hg, hw⟩ : ∃ (lo : Int) (stg : RX.St), R = RX.groupIn s alt lo stg ∧ ((c1_ = 63 ∧ c2_ = 58 ∧ lo = 0 ∧ stg = ((st.bump 1).bump 1).bump 1) ∨ (c1_ ≠ 63 ∧ st.caps < 9 ∧ lo = ((st.caps + 1 : Nat) : Int) ∧ stg = { st.bump 1 with caps := st.caps + 1 })) := by
    by_cases h63 : c1_ = 63
    · have h58 : c2_ = 58 := Classical.byContradiction fun h => hB ⟨h63, h⟩
      rw [if_pos ⟨h63, h58⟩] at hr
      exact ⟨_, _, hr, .inl ⟨h63, h58, rfl, rfl⟩⟩
    · have h9' : ¬ 9 ≤ st.caps := fun h => hC ⟨h63, h⟩
      rw [if_neg (fun h => h63 h.1), if_neg h63, if_neg h9'] at hr
      exact ⟨_, _, hr.trans (by push_cast; rfl), .inr ⟨h63, by omega, rfl, rfl⟩⟩
  have hstg : stg.at_ ≤ s.length ∧ stg.caps ≤ 9 ∧ stg.op = st.op ∧ stg.ok = true := by
    rcases hw with ⟨-, h2, -, rfl⟩ | ⟨-, h2, -, rfl⟩
    · have := RX.nxt_in (s := s) (k := 0) (st := (st.bump 1).bump 1) (by rw [HN2.out, h2]; decide)
      exact ⟨this, h9, rfl, HOK.out⟩
    · exact ⟨ha, h2, rfl, HOK.out⟩
  have HW := Lib.hid hw
  have HG := Lib.hid (HR.out.trans hg)
  have HSTG := Lib.hid hstg
  have hga : stg.at_ ≤ s.length := hstg.1
  have hgc : stg.caps ≤ 9 := hstg.2.1
  have hgo : stg.op ≤ 11 := by rw [hstg.2.2.1]; omega
  clear hr hw hB hC hg hstg h12 d12
  go_upto_if 28 with (go_at_call 63; go_loud (refine (qnext_any _ _ HC3.out.b.q).mono ?_; rw [HN1.out]; rintro e w4 ⟨rfl, hx⟩; have HC4 := Lib.hid (HC3.out.ex hx); clear hx))
  go_cut [] (fun wx => Qg w0 rb sv s w1 gb 5 lo 0 false stg (.slice none 0 0) [] wx)
  case first =>
    rcases HW.out with ⟨h1, h2, rfl, rfl⟩ | ⟨h1, h2, rfl, rfl⟩
    · have b63 : (c1_ == 63) = true := by simpa using h1
      have b58 : (c2_ != 58) = false := by simpa using h2
      clear h1 h2
      have c1 := HC4.out.b.q.blk.c1
      have f1 := HC4.out.b.q.blk.fr 1
      go_upto_region 9 with fail
      have HC5 := Lib.hid HC4.out.bump1
      generalize w4.setCell _ _ = w5 at HC5 ⊢
      clear c1 f1
      go_upto_region 12 with (go_at_call 63; go_loud (refine (qnext_any _ _ HC5.out.b.q).mono ?_; rw [HN2.out]; rintro e w6 ⟨rfl, hx⟩; have HC6 := Lib.hid (HC5.out.ex hx); clear hx))
      have c1 := HC6.out.b.q.blk.c1
      have f1 := HC6.out.b.q.blk.fr 1
      go_wp2_with fail
      go_meet
      exact HC6.out.bump1
    · have b63 : (c1_ == 63) = false := by simpa using h1
      have d9 : decide ((9 : Int) ≤ ((st.bump 1).caps : Int)) = false := by show decide ((9 : Int) ≤ (st.caps : Int)) = false; simp; omega
      clear h1
      have c2 := HC4.out.b.q.blk.c2
      have f2 := HC4.out.b.q.blk.fr 2
      go_upto_region 17 with fail
      have HC5 := Lib.hid HC4.out.setcaps1
      generalize w4.setCell _ _ = w5 at HC5 ⊢
      clear c2 f2
      have c2 := HC5.out.b.q.blk.c2
      have fg := HC5.out.g.fr 2
      have cg := HC5.out.g.c 2 _ rfl
      go_wp2_with fail
      go_meet
      exact HC5.out.set HC5.out.g.lo_
  case rest =>
  have HC9 := Lib.hid hcut
  generalize wc = w9 at HC9 ⊢
  clear hcut
  have c3 := HC9.out.b.q.blk.c3
  have f3 := HC9.out.b.q.blk.fr 3
  go_upto_region 19 with fail
  have HCA := Lib.hid HC9.out.setop1
  generalize w9.setCell _ _ = wA at HCA ⊢
  clear c3 f3
  go_upto_region 20 with (go_at_call 42; go_loud (refine (HAX.out _ _ HCA.out.b.q HSTG.out.2.2.2 hga hgc (by have := HSTG.out.2.2.1; have := HOP.out; show stg.op + 1 + m = 12; omega)).mono ?_; rintro e wB ⟨l5, v5, st5, rfl, hv, hq, ho, hout⟩; have HCB := Lib.hid ((HCA.out.call ho hq).setv (SlRe.weak hv HCA.out.b.only.size)); have HO5 := Lib.hid hout; obtain ⟨Av, cv, rfl, -⟩ := hv.form; clear hv hq ho hout))
  have h5p : 1 ≤ st5.op := by have := HO5.out.op; rw [this]; exact Nat.succ_le_succ (Nat.zero_le _)
  have h5q : st5.op ≤ 12 := by have := HO5.out.op; rw [this]; exact Nat.succ_le_succ hgo
  have h5a : st5.at_ ≤ N := HO5.out.hi
  have c3 := HCB.out.b.q.blk.c3
  have f3 := HCB.out.b.q.blk.fr 3
  go_upto_region 21 with fail
  have HCD := Lib.hid (HCB.out.setop0 h5p)
  generalize wB.setCell _ _ = wD at HCD ⊢
  clear c3 f3
  obtain ⟨st6, h6⟩ : ∃ x : RX.St, { st5 with op := st5.op - 1 } = x := ⟨_, rfl⟩
  have h6a : st6.at_ ≤ N := by rw [← h6]; exact h5a
  rw [h6] at HCD
  have HQ := Lib.hid (HO5.out.group HG.out HSTG.out.2.2.1 hD.1)
  have he : RX.grpEnd s st5 = (if st6.ok = true ∧ RX.nxt s st6 0 ≠ 41 then st6.fail 5 st6.at_ else st6).bump 1 := by unfold RX.grpEnd; rw [h6]
  rw [he, HR.out] at HQ
  clear he h6 h5p h5q
  rcases hk6 : st6.ok with _ | _
  · have HK6 := Lib.hid hk6
    rw [if_neg (by rw [hk6]; simp)] at HQ
    clear hk6
    go_upto_region 23 with (go_at_call 43; go_loud (refine (qok_any _ _ HCD.out.b.q).mono ?_; rw [HK6.out]; rintro e wE ⟨rfl, hx⟩; have HCE := Lib.hid (HCD.out.ex hx); clear hx))
    have c1 := HCE.out.b.q.blk.c1
    have f1 := HCE.out.b.q.blk.fr 1
    go_upto_region 24 with fail
    have HCF := Lib.hid HCE.out.bump1
    generalize wE.setCell _ _ = wF at HCF ⊢
    clear c1 f1
    have g0 := HCF.out.g.c 0 _ rfl
    have g1 := HCF.out.g.c 1 _ rfl
    have g2 := HCF.out.g.c 2 _ rfl
    have g3 := HCF.out.g.c 3 _ rfl
    have g4 := HCF.out.g.c 4 _ rfl
    have g5 := HCF.out.g.c 5 _ rfl
    have g6 := HCF.out.g.c 6 _ rfl
    have hbz := HCF.out.b.only.size
    go_wp2_with (go_at_call 64; go_loud (refine (qunder_any (B := w1.heap.size) _ (RX.node 5 lo 0 false false []) _ l5 _ CR.mk0 HCF.out.val hbz (by have := HO5.out.len; omega) (fun y hy => by have := HO5.out.deep y hy; omega)).mono ?_; rintro e wz ⟨vz, rfl, hvz, hxz⟩; have HVZ := Lib.hid hvz.sl; have HCZ := Lib.hid (HCF.out.ex hxz); clear hvz hxz))
    go_ret
    exact ⟨_, _, _, rfl, HVZ.out, HCZ.out.b.q.blk, HCZ.out.b.only, HQ.out⟩
  have HK6 := Lib.hid hk6
  obtain ⟨c4_, hc4⟩ : ∃ x, RX.nxt s st6 0 = x := ⟨_, rfl⟩
  have HN4 := Lib.hid hc4
  by_cases h41 : c4_ = 41
  · have b41 : (c4_ != 41) = false := by simpa using h41
    rw [if_neg (by rw [hc4]; exact fun h => h.2 h41)] at HQ
    clear hk6 hc4 h41
    go_upto_region 23 with (first
      | (go_at_call 43; go_loud (refine (qok_any _ _ HCD.out.b.q).mono ?_; rw [HK6.out]; rintro e wI ⟨rfl, hx⟩; have HCI := Lib.hid (HCD.out.ex hx); clear hx))
      | (go_at_call 63; go_loud (refine (qnext_any _ _ HCI.out.b.q).mono ?_; rw [HN4.out]; rintro e wE ⟨rfl, hx⟩; have HCE := Lib.hid (HCI.out.ex hx); clear hx)))
    have c1 := HCE.out.b.q.blk.c1
    have f1 := HCE.out.b.q.blk.fr 1
    go_upto_region 24 with fail
    have HCF := Lib.hid HCE.out.bump1
    generalize wE.setCell _ _ = wF at HCF ⊢
    clear c1 f1
    have g0 := HCF.out.g.c 0 _ rfl
    have g1 := HCF.out.g.c 1 _ rfl
    have g2 := HCF.out.g.c 2 _ rfl
    have g3 := HCF.out.g.c 3 _ rfl
    have g4 := HCF.out.g.c 4 _ rfl
    have g5 := HCF.out.g.c 5 _ rfl
    have g6 := HCF.out.g.c 6 _ rfl
    have hbz := HCF.out.b.only.size
    go_wp2_with (go_at_call 64; go_loud (refine (qunder_any (B := w1.heap.size) _ (RX.node 5 lo 0 false false []) _ l5 _ CR.mk0 HCF.out.val hbz (by have := HO5.out.len; omega) (fun y hy => by have := HO5.out.deep y hy; omega)).mono ?_; rintro e wz ⟨vz, rfl, hvz, hxz⟩; have HVZ := Lib.hid hvz.sl; have HCZ := Lib.hid (HCF.out.ex hxz); clear hvz hxz))
    go_ret
    exact ⟨_, _, _, rfl, HVZ.out, HCZ.out.b.q.blk, HCZ.out.b.only, HQ.out⟩
  · have b41 : (c4_ != 41) = true := by simpa using h41
    rw [if_pos ⟨hk6, by rw [hc4]; exact h41⟩] at HQ
    clear hk6 hc4 h41
    go_upto_region 22 with (first
      | (go_at_call 43; go_loud (refine (qok_any _ _ HCD.out.b.q).mono ?_; rw [HK6.out]; rintro e wI ⟨rfl, hx⟩; have HCI := Lib.hid (HCD.out.ex hx); clear hx))
      | (go_at_call 63; go_loud (refine (qnext_any _ _ HCI.out.b.q).mono ?_; rw [HN4.out]; rintro e wJ ⟨rfl, hx⟩; have HCJ := Lib.hid (HCI.out.ex hx); clear hx)))
    have c1 := HCJ.out.b.q.blk.c1
    go_upto_region 23 with (go_at_call 44; go_loud (refine (qbad_any _ _ 5 (st6.at_ : Int) HCJ.out.b.q).mono ?_; rintro e wE ⟨rfl, hq, ho⟩; have HCE := Lib.hid (HCJ.out.call ho hq); clear hq ho))
    clear c1
    have h7a : (st6.fail 5 (st6.at_ : Int)).at_ ≤ 1000 := by rw [RX.failat]; omega
    generalize st6.fail 5 (st6.at_ : Int) = st7 at HCE HQ h7a
    have c1 := HCE.out.b.q.blk.c1
    have f1 := HCE.out.b.q.blk.fr 1
    go_upto_region 24 with fail
    have HCF := Lib.hid HCE.out.bump1
    generalize wE.setCell _ _ = wF at HCF ⊢
    clear c1 f1
    have g0 := HCF.out.g.c 0 _ rfl
    have g1 := HCF.out.g.c 1 _ rfl
    have g2 := HCF.out.g.c 2 _ rfl
    have g3 := HCF.out.g.c 3 _ rfl
    have g4 := HCF.out.g.c 4 _ rfl
    have g5 := HCF.out.g.c 5 _ rfl
    have g6 := HCF.out.g.c 6 _ rfl
    have hbz := HCF.out.b.only.size
    go_wp2_with (go_at_call 64; go_loud (refine (qunder_any (B := w1.heap.size) _ (RX.node 5 lo 0 false false []) _ l5 _ CR.mk0 HCF.out.val hbz (by have := HO5.out.len; omega) (fun y hy => by have := HO5.out.deep y hy; omega)).mono ?_; rintro e wz ⟨vz, rfl, hvz, hxz⟩; have HVZ := Lib.hid hvz.sl; have HCZ := Lib.hid (HCF.out.ex hxz); clear hvz hxz))
    go_ret
    exact ⟨_, _, _, rfl, HVZ.out, HCZ.out.b.q.blk, HCZ.out.b.only, HQ.out⟩
end
end Go.Proofs.YtfblkahjefdmaaaGreat
