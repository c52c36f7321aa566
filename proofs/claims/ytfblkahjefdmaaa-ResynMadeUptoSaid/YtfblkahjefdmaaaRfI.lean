/- Walk: atom of the document's own reader. -/
import Derived.Test.YtfblkahjefdmaaaRfH
namespace Go.Proofs.Ytfblkahjefdmaaa
open Go.RowKit

namespace RX
/-- What the document's atom reads: the row's ends, too. -/
def atomM (s : List Int) (alt : St → List ReN × St) (st : St) : List ReN × St :=
  if nxt s st 0 = 94 then ([node 3 0 0 false false []], st.bump 1)
  else if nxt s st 0 = 36 then ([node 4 0 0 false false []], st.bump 1)
  else atomP s alt st
theorem sort_more {c : Int} {l : List Int} (h : sortR c = some l) : l ≠ [] := by
  unfold sortR at h
  split at h
  · injection h with h; rw [← h]; simp
  split at h
  · injection h with h; rw [← h]; simp
  split at h
  · injection h with h; rw [← h]; simp
  · cases h
theorem escaped_behind {s : List Int} {st : St} {d : Int} (hd : nxt s (st.bump 1) 0 = d) : escaped s st = if (behindM d).2 = true ∧ (behindM d).1 = [] then ([], (st.bump 1).fail 5 (st.bump 1).at_) else ([node 2 0 0 false (behindM d).2 (behindM d).1], st.bump 2) := by
  unfold escaped behindM
  simp only [hd]
  rcases h1 : sortR d with _ | l
  · simp only
    rcases h2 : sortR (lower d) with _ | l
    · simp only
      rcases h3 : signR d with _ | x
      · simp
      · simp; rfl
    · have := sort_more h2
      simp [this]; rfl
  · simp; rfl
end RX
theorem QOut.one {x : RX.ReN} {st st2 : RX.St} {K : Nat} {D : Int} {n : Nat} (hx : x.deep = 0) (hop : st2.op = st.op) (hhi : st2.at_ ≤ n) (hD : 0 ≤ D) : QOut ([x], st2) st (K + 1) D n [x] st2 :=
  ⟨by simp, fun y hy => by simp at hy; subst hy; rw [hx]; exact ⟨Int.le_refl _, hD⟩, hhi, hop, fun _ => ⟨rfl, rfl⟩, fun _ => ⟨rfl, rfl⟩⟩
/-- One node, behind a fault. -/
theorem QOut.one_bad {R : List RX.ReN × RX.St} {x : RX.ReN} {st st2 : RX.St} {K : Nat} {D : Int} {n : Nat} (hx : x.deep = 0) (hop : st2.op = st.op) (hhi : st2.at_ ≤ n) (hD : 0 ≤ D) (h0 : R.2.ok = false) (h1 : st2.code = R.2.code) (h2 : st2.bat = R.2.bat) : QOut R st (K + 1) D n [x] st2 :=
  ⟨by simp, fun y hy => by simp at hy; subst hy; rw [hx]; exact ⟨Int.le_refl _, hD⟩, hhi, hop, (fun h => by rw [h0] at h; cases h), fun _ => ⟨h1, h2⟩⟩
theorem QOut.mono {R : List RX.ReN × RX.St} {st st2 : RX.St} {K K' : Nat} {D D' : Int} {N N' : Nat} {l : List RX.ReN} (h : QOut R st K D N l st2) (hK : K ≤ K') (hD : D ≤ D') (hN : N ≤ N') : QOut R st K' D' N' l st2 :=
  ⟨Nat.le_trans h.len hK, fun x hx => ⟨(h.deep x hx).1, Int.le_trans (h.deep x hx).2 hD⟩, Nat.le_trans h.hi hN, h.op, h.good, h.bad⟩
section
variable {w0 : World} {rb : Nat} {sv : Value} {s : List Int}
set_option maxRecDepth 100000 in
set_option maxHeartbeats 3000000 in
theorem qatom_any (n : Nat) (alt : RX.St → List RX.ReN × RX.St) {K : Nat} {D : Int} {N : Nat} (HA : ∀ m, n = m + 1 → AltQ w0 rb sv s m alt K D N) (hK : K ≤ 10000) (hD : 0 ≤ D ∧ D ≤ 100) (hN : s.length + 4 ≤ N ∧ N ≤ 1000)
    (w1 : World) (st : RX.St) (he : Qn w0 rb sv s w1 st) (hok : st.ok = true) (ha : st.at_ < s.length) (h9 : st.caps ≤ 9) (hop : st.op + n = 12) :
    Calls Try.prog 140 #[.pointer (some ⟨rb, 0, none⟩)] w1 (QP rb sv w1 (RX.atomM s alt st) st (K + 1) (D + 1) (N + 1)) := by
  have hl60 := he.len
  have HC1 := Lib.hid (show Qb w0 rb sv s w1 st w1 from ⟨he, Only.refl _ _⟩)
  have hrb := he.rbl
  have HOK := Lib.hid hok
  have HGR := Lib.hid (fun w h => qgroup_any n alt HA hK hD hN w st h hok ha h9 hop)
  have HCL := Lib.hid (fun w h => qclass_any (w0 := w0) (rb := rb) (sv := sv) (s := s) w st h hok ha h9)
  have HBE := Lib.hid (fun w h => qbehind_any (w0 := w0) (rb := rb) (sv := sv) (s := s) w st h (by omega))
  obtain ⟨c, hc⟩ : ∃ x, RX.nxt s st 0 = x := ⟨_, rfl⟩
  have HN := Lib.hid hc
  obtain ⟨R, hR⟩ : ∃ x, RX.atomM s alt st = x := ⟨_, rfl⟩
  have hRR : R = if c = 94 then ([RX.node 3 0 0 false false []], st.bump 1) else if c = 36 then ([RX.node 4 0 0 false false []], st.bump 1)
      else if c = 42 ∨ c = 43 ∨ c = 63 ∨ c = 123 then ([], st.fail 5 st.at_) else if c = 40 then RX.groupP s alt st else if c = 91 then RX.classP s (st.bump 1) else if c = 92 then RX.escaped s st
      else if c = 46 then ([RX.node 2 0 0 false true [10, 10]], st.bump 1) else ([RX.node 2 0 0 false false [c, c]], st.bump 1) := by
    rw [← hR, ← hc]; rfl
  rw [hR]
  have c1 := he.blk.c1
  have hb1 : (st.bump 1).at_ ≤ 100 := by show st.at_ + 1 ≤ 100; omega
  have hla : st.at_ + 1 ≤ N + 1 := by omega
  clear he hok hc hR HA hop
  go_enter Try.func140, Try.ntmps140
  go_wp2_with fail
  go_region_held3 (fun w' => w'.cell? ⟨rb, 1, none⟩ = some (.int .i64 (st.at_ : Int))) (first | go_keep | assumption)
    (first | (go_at_call 116; go_loud (refine (qnext_any _ st (HC1.out.ex (by first | exact (Ext.refl _).drewN _ | exact Ext.refl _ | exact (Ext.refl _).drew)).q).mono ?_); go_loud (rw [HN.out]; rintro e w2 ⟨rfl, hx⟩; have hx2 := Ext.trans (show Ext w1 _ from (by first | exact (Ext.refl _).drewN _ | exact Ext.refl _ | exact (Ext.refl _).drew)) hx; have HC2 := Lib.hid (HC1.out.ex hx2); have c1 := HC2.out.q.blk.c1; clear hx hx2)))
  clear c1
  by_cases h94 : c = 94
  · rw [if_pos h94] at hRR
    subst hRR
    have b94 : (c == 94) = true := by simpa using h94
    clear h94
    have c1 := HC2.out.q.blk.c1
    have f1 := HC2.out.q.blk.fr 1
    go_upto_region 4 with fail
    have HC3 := Lib.hid HC2.out.bump1
    generalize w2.setCell _ _ = w3 at HC3 ⊢
    clear c1 f1
    go_wp2_with fail
    go_ret
    exact ⟨_, _, _, rfl, (reQ_lit rfl HC3.out.only.size CR.mk0).sl, (HC3.out.ex ((Ext.refl _).alloc _)).q.blk, (HC3.out.ex ((Ext.refl _).alloc _)).only, QOut.one rfl rfl hla (show (0 : Int) ≤ D + 1 by omega)⟩
  by_cases h36 : c = 36
  · rw [if_neg h94, if_pos h36] at hRR
    subst hRR
    have b94 : (c == 94) = false := by simpa using h94
    have b36 : (c == 36) = true := by simpa using h36
    clear h94 h36
    have c1 := HC2.out.q.blk.c1
    have f1 := HC2.out.q.blk.fr 1
    go_upto_region 7 with fail
    have HC3 := Lib.hid HC2.out.bump1
    generalize w2.setCell _ _ = w3 at HC3 ⊢
    clear c1 f1
    go_wp2_with fail
    go_ret
    exact ⟨_, _, _, rfl, (reQ_lit rfl HC3.out.only.size CR.mk0).sl, (HC3.out.ex ((Ext.refl _).alloc _)).q.blk, (HC3.out.ex ((Ext.refl _).alloc _)).only, QOut.one rfl rfl hla (show (0 : Int) ≤ D + 1 by omega)⟩
  by_cases h46 : c = 46
  · rw [if_neg h94, if_neg h36, if_neg (by omega), if_neg (by omega), if_neg (by omega), if_neg (by omega), if_pos h46] at hRR
    subst hRR
    have b94 : (c == 94) = false := by simpa using h94
    have b36 : (c == 36) = false := by simpa using h36
    have b46 : (c == 46) = true := by simpa using h46
    clear h94 h36 h46
    have c1 := HC2.out.q.blk.c1
    have f1 := HC2.out.q.blk.fr 1
    go_upto_region 10 with fail
    have HC3 := Lib.hid HC2.out.bump1
    generalize w2.setCell _ _ = w3 at HC3 ⊢
    clear c1 f1
    go_wp2_with (go_at_call 146; go_loud (refine (qset_any w1.heap.size true _ _ _ (c_lit w3 [10, 10] _ _ rfl rfl HC3.out.only.size (by simp)) (by have := HC3.out.only.size; simp; omega)).mono ?_; rintro e wz ⟨vz, rfl, hvz, hxz⟩; have HVZ := Lib.hid hvz; have HCZ := Lib.hid (HC3.out.ex (((Ext.refl w3).alloc _).trans hxz)); clear hvz hxz))
    go_ret
    exact ⟨_, _, _, rfl, HVZ.out, HCZ.out.q.blk, HCZ.out.only, QOut.one rfl rfl hla (show (0 : Int) ≤ D + 1 by omega)⟩
  by_cases h40 : c = 40
  · rw [if_neg h94, if_neg h36, if_neg (by omega), if_pos h40] at hRR
    subst hRR
    have b94 : (c == 94) = false := by simpa using h94
    have b36 : (c == 36) = false := by simpa using h36
    have b46 : (c == 46) = false := by simpa using h46
    have b40 : (c == 40) = true := by simpa using h40
    clear h94 h36 h46 h40
    go_wp2_with (go_at_call 147; go_loud (refine (HGR.out _ HC2.out.q).mono ?_; rintro e w3 ⟨l5, v5, st5, rfl, hv, hq, ho, hout⟩; have HC3 := Lib.hid (HC2.out.call ho hq); have HV := Lib.hid (SlRe.weak hv HC2.out.only.size); have HO := Lib.hid hout; obtain ⟨Av, cv, rfl, -⟩ := hv.form; clear hv hq ho hout))
    go_ret
    exact ⟨_, _, _, rfl, HV.out, HC3.out.q.blk, HC3.out.only, HO.out⟩
  by_cases h91 : c = 91
  · rw [if_neg h94, if_neg h36, if_neg (by omega), if_neg h40, if_pos h91] at hRR
    subst hRR
    have b94 : (c == 94) = false := by simpa using h94
    have b36 : (c == 36) = false := by simpa using h36
    have b46 : (c == 46) = false := by simpa using h46
    have b40 : (c == 40) = false := by simpa using h40
    have b91 : (c == 91) = true := by simpa using h91
    clear h94 h36 h46 h40 h91
    go_wp2_with (go_at_call 148; go_loud (refine (HCL.out _ HC2.out.q).mono ?_; rintro e w3 ⟨l5, v5, st5, rfl, hv, hq, ho, hout⟩; have HC3 := Lib.hid (HC2.out.call ho hq); have HV := Lib.hid (SlRe.weak hv HC2.out.only.size); have HO := Lib.hid hout; obtain ⟨Av, cv, rfl, -⟩ := hv.form; clear hv hq ho hout))
    go_ret
    exact ⟨_, _, _, rfl, HV.out, HC3.out.q.blk, HC3.out.only, HO.out.mono (by omega) (by omega) (by omega)⟩
  by_cases h92 : c = 92
  · rw [if_neg h94, if_neg h36, if_neg (by omega), if_neg h40, if_neg h91, if_pos h92] at hRR
    obtain ⟨d, hd⟩ : ∃ x, RX.nxt s (st.bump 1) 0 = x := ⟨_, rfl⟩
    rw [RX.escaped_behind hd] at hRR
    rw [hd] at HBE
    obtain ⟨bm, hbm⟩ : ∃ x, RX.behindM d = x := ⟨_, rfl⟩
    rw [hbm] at hRR
    have HBM := Lib.hid hbm
    obtain ⟨l, b⟩ := bm
    have b94 : (c == 94) = false := by simpa using h94
    have b36 : (c == 36) = false := by simpa using h36
    have b46 : (c == 46) = false := by simpa using h46
    have b40 : (c == 40) = false := by simpa using h40
    have b91 : (c == 91) = false := by simpa using h91
    have b92 : (c == 92) = true := by simpa using h92
    clear h94 h36 h46 h40 h91 h92 hbm hd
    have hl2 : st.at_ + 2 ≤ N + 1 := by omega
    rcases b with _ | _
    · rw [if_neg (fun h => by cases h.1)] at hRR
      subst hRR
      go_wp2_with (first
        | (go_at_call 149; go_loud (refine (HBE.out _ HC2.out.q).mono ?_; rintro e w3 ⟨v, rfl, hv, hq, ho⟩; rw [HBM.out] at hv ⊢; have HC3 := Lib.hid (HC2.out.call ho hq); have HV3 := Lib.hid (SlB.weaken hv HC2.out.only.size); obtain ⟨Av, cv, rfl, -⟩ := hv.form; clear hv hq ho))
        | (go_at_call 146; go_loud (refine (qset_any w1.heap.size false _ _ _ HV3.out HC3.out.only.size).mono ?_; rintro e wz ⟨vz, rfl, hvz, hxz⟩; have HVZ := Lib.hid hvz; have HCZ := Lib.hid (HC3.out.ex hxz); clear hvz hxz)))
      go_ret
      exact ⟨_, _, _, rfl, HVZ.out, HCZ.out.q.blk, HCZ.out.only, QOut.one rfl rfl hl2 (show (0 : Int) ≤ D + 1 by omega)⟩
    rcases l with _ | ⟨x, r⟩
    · rw [if_pos ⟨rfl, rfl⟩] at hRR
      subst hRR
      go_wp2_with (first
        | (go_at_call 149; go_loud (refine (HBE.out _ HC2.out.q).mono ?_; rintro e w3 ⟨v, rfl, hv, hq, ho⟩; rw [HBM.out] at hv ⊢; have HC3 := Lib.hid (HC2.out.call ho hq); have HV3 := Lib.hid (SlB.weaken hv HC2.out.only.size); obtain ⟨Av, cv, rfl, -⟩ := hv.form; clear hv hq ho))
        | (go_at_call 89; go_loud (refine (qbad_any _ _ 5 ((st.at_ : Int) + 1) HC3.out.q).mono ?_; rintro e w4 ⟨rfl, hq, ho⟩; have HC4 := Lib.hid (HC3.out.call ho hq); have HV4 := Lib.hid (HV3.out.keepB (keepsB_c _) (KeepB.low ho hrb)); clear hq ho))
        | (go_at_call 146; go_loud (refine (qset_any w1.heap.size true _ _ _ HV4.out HC4.out.only.size).mono ?_; rintro e wz ⟨vz, rfl, hvz, hxz⟩; have HVZ := Lib.hid hvz; have HCZ := Lib.hid (HC4.out.ex hxz); clear hvz hxz)))
      go_ret
      have hf := RX.fail_eq (a := st.bump 2) (b := st.bump 1) (c := 5) (x := (st.at_ : Int) + 1) rfl rfl
      exact ⟨_, _, _, rfl, HVZ.out, HCZ.out.q.blk, HCZ.out.only, QOut.one_bad rfl (by rw [RX.failop]; rfl) (by rw [RX.failat]; exact hl2) (show (0 : Int) ≤ D + 1 by omega) (RX.St.fail_ok _ (by decide)) hf.1 hf.2⟩
    · rw [if_neg (fun h => by cases h.2)] at hRR
      have d0 : ((((x :: r).length : Nat) : Int) == 0) = false := by simp; omega
      generalize x :: r = l at HBM d0 hRR
      subst hRR
      go_wp2_with (first
        | (go_at_call 149; go_loud (refine (HBE.out _ HC2.out.q).mono ?_; rintro e w3 ⟨v, rfl, hv, hq, ho⟩; rw [HBM.out] at hv ⊢; have HC3 := Lib.hid (HC2.out.call ho hq); have HV3 := Lib.hid (SlB.weaken hv HC2.out.only.size); obtain ⟨Av, cv, rfl, -⟩ := hv.form; clear hv hq ho))
        | (go_at_call 146; go_loud (refine (qset_any w1.heap.size true _ _ _ HV3.out HC3.out.only.size).mono ?_; rintro e wz ⟨vz, rfl, hvz, hxz⟩; have HVZ := Lib.hid hvz; have HCZ := Lib.hid (HC3.out.ex hxz); clear hvz hxz)))
      go_ret
      exact ⟨_, _, _, rfl, HVZ.out, HCZ.out.q.blk, HCZ.out.only, QOut.one rfl rfl hl2 (show (0 : Int) ≤ D + 1 by omega)⟩
  have b94 : (c == 94) = false := by simpa using h94
  have b36 : (c == 36) = false := by simpa using h36
  have b46 : (c == 46) = false := by simpa using h46
  have b40 : (c == 40) = false := by simpa using h40
  have b91 : (c == 91) = false := by simpa using h91
  have b92 : (c == 92) = false := by simpa using h92
  by_cases hx : c = 42 ∨ c = 43 ∨ c = 63 ∨ c = 123
  · rw [if_neg h94, if_neg h36, if_pos hx] at hRR
    subst hRR
    have HX := Lib.hid (show decide (c = 42 ∨ c = 43 ∨ c = 63 ∨ c = 123) = true from decide_eq_true hx)
    clear h94 h36 h46 h40 h91 h92 hx
    go_upto_region 22 with (first
      | (go_at_call 75; go_loud (refine (hasq_any c _).mono ?_; rw [HX.out]; rintro e w3 ⟨rfl, hx⟩; have HC3 := Lib.hid (HC2.out.ex hx); clear hx))
      | (go_at_call 89; go_loud (refine (qbad_any _ _ 5 (st.at_ : Int) HC3.out.q).mono ?_; rintro e w4 ⟨rfl, hq, ho⟩; have HC4 := Lib.hid (HC3.out.call ho hq); clear hq ho)))
    have h7a : (st.fail 5 (st.at_ : Int)).at_ ≤ 100 := by rw [RX.failat]; omega
    have c1 := HC4.out.q.blk.c1
    have f1 := HC4.out.q.blk.fr 1
    go_upto_region 23 with fail
    have HC5 := Lib.hid HC4.out.bump1
    generalize w4.setCell _ _ = w5 at HC5 ⊢
    clear c1 f1
    go_wp2_with (go_at_call 146; go_loud (refine (qset_any w1.heap.size false _ _ _ (c_lit w5 [c, c] _ _ rfl rfl HC5.out.only.size (by simp)) (by have := HC5.out.only.size; simp; omega)).mono ?_; rintro e wz ⟨vz, rfl, hvz, hxz⟩; have HVZ := Lib.hid hvz; have HCZ := Lib.hid (HC5.out.ex (((Ext.refl w5).alloc _).trans hxz)); clear hvz hxz))
    go_ret
    exact ⟨_, _, _, rfl, HVZ.out, HCZ.out.q.blk, HCZ.out.only, QOut.one_bad rfl (RX.failop _ _ _) (by show (st.fail 5 (st.at_ : Int)).at_ + 1 ≤ N + 1; rw [RX.failat]; exact hla) (show (0 : Int) ≤ D + 1 by omega) (RX.St.fail_ok _ (by decide)) rfl rfl⟩
  rw [if_neg h94, if_neg h36, if_neg hx, if_neg h40, if_neg h91, if_neg h92, if_neg h46] at hRR
  subst hRR
  have HX := Lib.hid (show decide (c = 42 ∨ c = 43 ∨ c = 63 ∨ c = 123) = false from decide_eq_false hx)
  clear h94 h36 h46 h40 h91 h92 hx
  go_upto_region 22 with (go_at_call 75; go_loud (refine (hasq_any c _).mono ?_; rw [HX.out]; rintro e w3 ⟨rfl, hx⟩; have HC3 := Lib.hid (HC2.out.ex hx); clear hx))
  have c1 := HC3.out.q.blk.c1
  have f1 := HC3.out.q.blk.fr 1
  go_upto_region 23 with fail
  have HC5 := Lib.hid HC3.out.bump1
  generalize w3.setCell _ _ = w5 at HC5 ⊢
  clear c1 f1
  go_wp2_with (go_at_call 146; go_loud (refine (qset_any w1.heap.size false _ _ _ (c_lit w5 [c, c] _ _ rfl rfl HC5.out.only.size (by simp)) (by have := HC5.out.only.size; simp; omega)).mono ?_; rintro e wz ⟨vz, rfl, hvz, hxz⟩; have HVZ := Lib.hid hvz; have HCZ := Lib.hid (HC5.out.ex (((Ext.refl w5).alloc _).trans hxz)); clear hvz hxz))
  go_ret
  exact ⟨_, _, _, rfl, HVZ.out, HCZ.out.q.blk, HCZ.out.only, QOut.one rfl rfl hla (show (0 : Int) ≤ D + 1 by omega)⟩
end
end Go.Proofs.Ytfblkahjefdmaaa
