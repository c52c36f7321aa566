/- Walk: atom of the document's own reader. -/
import Derived.Test.YtfblkahjefdmaaaGreatQe
namespace Go.Proofs.YtfblkahjefdmaaaGreat
open Go.RowKit

namespace RX
/-- What the document's atom reads: the row's ends, too. -/
def atomM (s : List Int) (alt : St → List ReN × St) (st : St) : List ReN × St :=
  if nxt s st 0 = 94 then ([node 3 0 0 false false []], st.bump 1)
  else if nxt s st 0 = 36 then ([node 4 0 0 false false []], st.bump 1)
  else atomP s alt st
theorem sort_more {c : Int} {l : List Int} (h : sortR c = some l) : l ≠ [] := by
  unfold sortR at h
  split at h
  · injection h with h; rw [← h]; simp
  split at h
  · injection h with h; rw [← h]; simp
  split at h
  · injection h with h; rw [← h]; simp
  · cases h
theorem escaped_behind {s : List Int} {st : St} {d : Int} (hd : nxt s (st.bump 1) 0 = d) : escaped s st = if (behindM d).2 = true ∧ (behindM d).1 = [] then ([], (st.bump 1).fail 5 (st.bump 1).at_) else ([node 2 0 0 false (behindM d).2 (behindM d).1], st.bump 2) := by
  unfold escaped behindM
  simp only [hd]
  rcases h1 : sortR d with _ | l
  · simp only
    rcases h2 : sortR (lower d) with _ | l
    · simp only
      rcases h3 : signR d with _ | x
      · simp
      · simp; rfl
    · have := sort_more h2
      simp [this]; rfl
  · simp; rfl
end RX
theorem QOut.one {x : RX.ReN} {st st2 : RX.St} {K : Nat} {D : Int} {n : Nat} (hx : x.deep = 0) (hop : st2.op = st.op) (hhi : st2.at_ ≤ n) (hD : 0 ≤ D) : QOut ([x], st2) st (K + 1) D n [x] st2 :=
  ⟨by simp, fun y hy => by simp at hy; subst hy; rw [hx]; exact ⟨Int.le_refl _, hD⟩, hhi, hop, fun _ => ⟨rfl, rfl⟩, fun _ => ⟨rfl, rfl⟩⟩
/-- One node, behind a fault. -/
theorem QOut.one_bad {R : List RX.ReN × RX.St} {x : RX.ReN} {st st2 : RX.St} {K : Nat} {D : Int} {n : Nat} (hx : x.deep = 0) (hop : st2.op = st.op) (hhi : st2.at_ ≤ n) (hD : 0 ≤ D) (h0 : R.2.ok = false) (h1 : st2.code = R.2.code) (h2 : st2.bat = R.2.bat) : QOut R st (K + 1) D n [x] st2 :=
  ⟨by simp, fun y hy => by simp at hy; subst hy; rw [hx]; exact ⟨Int.le_refl _, hD⟩, hhi, hop, (fun h => by rw [h0] at h; cases h), fun _ => ⟨h1, h2⟩⟩
theorem QOut.mono {R : List RX.ReN × RX.St} {st st2 : RX.St} {K K' : Nat} {D D' : Int} {N N' : Nat} {l : List RX.ReN} (h : QOut R st K D N l st2) (hK : K ≤ K') (hD : D ≤ D') (hN : N ≤ N') : QOut R st K' D' N' l st2 :=
  ⟨Nat.le_trans h.len hK, fun x hx => ⟨(h.deep x hx).1, Int.le_trans (h.deep x hx).2 hD⟩, Nat.le_trans h.hi hN, h.op, h.good, h.bad⟩
section
variable {w0 : World} {rb : Nat} {sv : Value} {s : List Int}
set_option maxRecDepth 100000 in
set_option maxHeartbeats 3000000 in
theorem qatom_any (n : Nat) (alt : RX.St → List RX.ReN × RX.St) {K : Nat} {D : Int} {N : Nat} (HA : ∀ m, n = m + 1 → AltQ w0 rb sv s m alt K D N) (hK : K ≤ 10000) (hD : 0 ≤ D ∧ D ≤ 100) (hN : s.length + 4 ≤ N ∧ N ≤ 1000)
    (w1 : World) (st : RX.St) (he : Qn w0 rb sv s w1 st) (hok : st.ok = true) (ha : st.at_ < s.length) (h9 : st.caps ≤ 9) (hop : st.op + n = 12) :
    Calls Tryz.prog 82 #[.pointer (some ⟨rb, 0, none⟩)] w1 (QP rb sv w1 (RX.atomM s alt st) st (K + 1) (D + 1) (N + 1)) := by
  have hl60 := he.len
  have HC1 := Lib.hid (show Qb w0 rb sv s w1 st w1 from ⟨he, Only.refl _ _⟩)
  have hrb := he.rbl
  have HOK := Lib.hid hok
  have HGR := Lib.hid (fun w h => qgroup_any n alt HA hK hD hN w st h hok ha h9 hop)
  have HCL := Lib.hid (fun w h => qclass_any (w0 := w0) (rb := rb) (sv := sv) (s := s) w st h hok ha h9)
  have HBE := Lib.hid (fun w h => qbehind_any (w0 := w0) (rb := rb) (sv := sv) (s := s) w st h (by omega))
  obtain ⟨c, hc⟩ : ∃ x, RX.nxt s st 0 = x := ⟨_, rfl⟩
  have HN := Lib.hid hc
  obtain ⟨R, hR⟩ : ∃ x, RX.atomM s alt st = x := ⟨_, rfl⟩
  have hRR : R = if c = 94 then ([RX.node 3 0 0 false false []], st.bump 1) else if c = 36 then ([RX.node 4 0 0 false false []], st.bump 1)
      else if c = 42 ∨ c = 43 ∨ c = 63 ∨ c = 123 then ([], st.fail 5 st.at_) else if c = 40 then RX.groupP s alt st else if c = 91 then RX.classP s (st.bump 1) else if c = 92 then RX.escaped s st
      else if c = 46 then ([RX.node 2 0 0 false true [10, 10]], st.bump 1) else ([RX.node 2 0 0 false false [c, c]], st.bump 1) := by
    rw [← hR, ← hc]; rfl
  rw [hR]
  have c1 := he.blk.c1
  have hb1 : (st.bump 1).at_ ≤ 100 := by show st.at_ + 1 ≤ 100; omega
  have hla : st.at_ + 1 ≤ N + 1 := by omega
  clear he hok hc hR HA hop
  go_enter Tryz.func82, Tryz.ntmps82
  go_wp2_with fail
  go_region_held3 (fun w' => w'.cell? ⟨rb, 1, none⟩ = some (.int .i64 (st.at_ : Int))) (first | go_keep | assumption)
    (first | (go_at_call 63; go_loud (refine (qnext_any _ st (HC1.out.ex (by first | exact (Ext.refl _).drewN _ | exact Ext.refl _ | exact (Ext.refl _).drew)).q).mono ?_); go_loud (rw [HN.out]; rintro e w2 ⟨rfl, hx⟩; have hx2 := Ext.trans (show Ext w1 _ from (by first | exact (Ext.refl _).drewN _ | exact Ext.refl _ | exact (Ext.refl _).drew)) hx; have HC2 := Lib.hid (HC1.out.ex hx2); have c1 := HC2.out.q.blk.c1; clear hx hx2)))
  clear c1
  by_cases h94 : c = 94
  · rw [if_pos h94] at hRR
    subst hRR
    have b94 : (c == 94) = true := by simpa using h94
    clear h94
    have c1 := HC2.out.q.blk.c1
    have f1 := HC2.out.q.blk.fr 1
    go_upto_region 4 with fail
    have HC3 := Lib.hid HC2.out.bump1
    generalize w2.setCell _ _ = w3 at HC3 ⊢
    clear c1 f1
    go_wp2_with fail
    go_ret
    exact ⟨_, _, _, rfl, (reQ_lit rfl HC3.out.only.size CR.mk0).sl, (HC3.out.ex ((Ext.refl _).alloc _)).q.blk, (HC3.out.ex ((Ext.refl _).alloc _)).only, QOut.one rfl rfl hla (show (0 : Int) ≤ D + 1 by omega)⟩
  by_cases h36 : c = 36
  · rw [if_neg h94, if_pos h36] at hRR
    subst hRR
    have b94 : (c == 94) = false := by simpa using h94
    have b36 : (c == 36) = true := by simpa using h36
    clear h94 h36
    have c1 := HC2.out.q.blk.c1
    have f1 := HC2.out.q.blk.fr 1
    go_upto_region 7 with fail
    have HC3 := Lib.hid HC2.out.bump1
    generalize w2.setCell _ _ = w3 at HC3 ⊢
    clear c1 f1
    go_wp2_with fail
    go_ret
    exact ⟨_, _, _, rfl, (reQ_lit rfl HC3.out.only.size CR.mk0).sl, (HC3.out.ex ((Ext.refl _).alloc _)).q.blk, (HC3.out.ex ((Ext.refl _).alloc _)).only, QOut.one rfl rfl hla (show (0 : Int) ≤ D + 1 by omega)⟩
  by_cases h46 : c = 46
  · rw [if_neg h94, if_neg h36, if_neg (by omega), if_neg (by omega), if_neg (by omega), if_neg (by omega), if_pos h46] at hRR
    subst hRR
    have b94 : (c == 94) = false := by simpa using h94
    have b36 : (c == 36) = false := by simpa using h36
    have b46 : (c == 46) = true := by simpa using h46
    clear h94 h36 h46
    have c1 := HC2.out.q.blk.c1
    have f1 := HC2.out.q.blk.fr 1
    go_upto_region 10 with fail
    have HC3 := Lib.hid HC2.out.bump1
    generalize w2.setCell _ _ = w3 at HC3 ⊢
    clear c1 f1
    go_wp2_with (go_at_call 88; go_loud (refine (qset_any w1.heap.size true _ _ _ (c_lit w3 [10, 10] _ _ rfl rfl HC3.out.only.size (by simp)) (by have := HC3.out.only.size; simp; omega)).mono ?_; rintro e wz ⟨vz, rfl, hvz, hxz⟩; have HVZ := Lib.hid hvz; have HCZ := Lib.hid (HC3.out.ex (((Ext.refl w3).alloc _).trans hxz)); clear hvz hxz))
    go_ret
    exact ⟨_, _, _, rfl, HVZ.out, HCZ.out.q.blk, HCZ.out.only, QOut.one rfl rfl hla (show (0 : Int) ≤ D + 1 by omega)⟩
  by_cases h40 : c = 40
  · rw [if_neg h94, if_neg h36, if_neg (by omega), if_pos h40] at hRR
    subst hRR
    have b94 : (c == 94) = false := by simpa using h94
    have b36 : (c == 36) = false := by simpa using h36
    have b46 : (c == 46) = false := by simpa using h46
    have b40 : (c == 40) = true := by simpa using h40
    clear h94 h36 h46 h40
    go_wp2_with (go_at_call 89; go_loud (refine (HGR.out _ HC2.out.q).mono ?_; rintro e w3 ⟨l5, v5, st5, rfl, hv, hq, ho, hout⟩; have HC3 := Lib.hid (HC2.out.call ho hq); have HV := Lib.hid (SlRe.weak hv HC2.out.only.size); have HO := Lib.hid hout; obtain ⟨Av, cv, rfl, -⟩ := hv.form; clear hv hq ho hout))
    go_ret
    exact ⟨_, _, _, rfl, HV.out, HC3.out.q.blk, HC3.out.only, HO.out⟩
  by_cases h91 : c = 91
  · rw [if_neg h94, if_neg h36, if_neg (by omega), if_neg h40, if_pos h91] at hRR
    subst hRR
    have b94 : (c == 94) = false := by simpa using h94
    have b36 : (c == 36) = false := by simpa using h36
    have b46 : (c == 46) = false := by simpa using h46
    have b40 : (c == 40) = false := by simpa using h40
    have b91 : (c == 91) = true := by simpa using h91
    clear h94 h36 h46 h40 h91
    go_wp2_with (go_at_call 90; go_loud (refine (HCL.out _ HC2.out.q).mono ?_; rintro e w3 ⟨l5, v5, st5, rfl, hv, hq, ho, hout⟩; have HC3 := Lib.hid (HC2.out.call ho hq); have HV := Lib.hid (SlRe.weak hv HC2.out.only.size); have HO := Lib.hid hout; obtain ⟨Av, cv, rfl, -⟩ := hv.form; clear hv hq ho hout))
    go_ret
    exact ⟨_, _, _, rfl, HV.out, HC3.out.q.blk, HC3.out.only, HO.out.mono (by omega) (by omega) (by omega)⟩
  by_cases h92 : c = 92
  · rw [if_neg h94, if_neg h36, if_neg (by omega), if_neg h40, if_neg h91, if_pos h92] at hRR
    obtain ⟨d, hd⟩ : ∃ x, RX.nxt s (st.bump 1) 0 = x := ⟨_, rfl⟩
    rw [RX.escaped_behind hd] at hRR
    rw [hd] at HBE
    obtain ⟨bm, hbm⟩ : ∃ x, RX.behindM d = x := ⟨_, rfl⟩
    rw [hbm] at hRR
    have HBM := Lib.hid hbm
    obtain ⟨l, b⟩ := bm
    have b94 : (c == 94) = false := by simpa using h94
    have b36 : (c == 36) = false := by simpa using h36
    have b46 : (c == 46) = false := by simpa using h46
    have b40 : (c == 40) = false := by simpa using h40
    have b91 : (c == 91) = false := by simpa using h91
    have b92 : (c == 92) = true := by simpa using h92
    clear h94 h36 h46 h40 h91 h92 hbm hd
    have hl2 : st.at_ + 2 ≤ N + 1 := by omega
    rcases b with _ | _
    · rw [if_neg (fun h => by cases h.1)] at hRR
      subst hRR
      go_wp2_with (first
        | (go_at_call 91; go_loud (refine (HBE.out _ HC2.out.q).mono ?_; rintro e w3 ⟨v, rfl, hv, hq, ho⟩; rw [HBM.out] at hv ⊢; have HC3 := Lib.hid (HC2.out.call ho hq); have HV3 := Lib.hid (SlB.weaken hv HC2.out.only.size); obtain ⟨Av, cv, rfl, -⟩ := hv.form; clear hv hq ho))
        | (go_at_call 88; go_loud (refine (qset_any w1.heap.size false _ _ _ HV3.out HC3.out.only.size).mono ?_; rintro e wz ⟨vz, rfl, hvz, hxz⟩; have HVZ := Lib.hid hvz; have HCZ := Lib.hid (HC3.out.ex hxz); clear hvz hxz)))
      go_ret
      exact ⟨_, _, _, rfl, HVZ.out, HCZ.out.q.blk, HCZ.out.only, QOut.one rfl rfl hl2 (show (0 : Int) ≤ D + 1 by omega)⟩
    rcases l with _ | ⟨x, r⟩
    · rw [if_pos ⟨rfl, rfl⟩] at hRR
      subst hRR
      go_wp2_with (first
        | (go_at_call 91; go_loud (refine (HBE.out _ HC2.out.q).mono ?_; rintro e w3 ⟨v, rfl, hv, hq, ho⟩; rw [HBM.out] at hv ⊢; have HC3 := Lib.hid (HC2.out.call ho hq); have HV3 := Lib.hid (SlB.weaken hv HC2.out.only.size); obtain ⟨Av, cv, rfl, -⟩ := hv.form; clear hv hq ho))
        | (go_at_call 44; go_loud (refine (qbad_any _ _ 5 ((st.at_ : Int) + 1) HC3.out.q).mono ?_; rintro e w4 ⟨rfl, hq, ho⟩; have HC4 := Lib.hid (HC3.out.call ho hq); have HV4 := Lib.hid (HV3.out.keepB (keepsB_c _) (KeepB.low ho hrb)); clear hq ho))
        | (go_at_call 88; go_loud (refine (qset_any w1.heap.size true _ _ _ HV4.out HC4.out.only.size).mono ?_; rintro e wz ⟨vz, rfl, hvz, hxz⟩; have HVZ := Lib.hid hvz; have HCZ := Lib.hid (HC4.out.ex hxz); clear hvz hxz)))
      go_ret
      have hf := RX.fail_eq (a := st.bump 2) (b := st.bump 1) (c := 5) (x := (st.at_ : Int) + 1) rfl rfl
      exact ⟨_, _, _, rfl, HVZ.out, HCZ.out.q.blk, HCZ.out.only, QOut.one_bad rfl (by rw [RX.failop]; rfl) (by rw [RX.failat]; exact hl2) (show (0 : Int) ≤ D + 1 by omega) (RX.St.fail_ok _ (by decide)) hf.1 hf.2⟩
    · rw [if_neg (fun h => by cases h.2)] at hRR
      have d0 : ((((x :: r).length : Nat) : Int) == 0) = false := by simp; omega
      generalize x :: r = l at HBM d0 hRR
      subst hRR
      go_wp2_with (first
        | (go_at_call 91; go_loud (refine (HBE.out _ HC2.out.q).mono ?_; rintro e w3 ⟨v, rfl, hv, hq, ho⟩; rw [HBM.out] at hv ⊢; have HC3 := Lib.hid (HC2.out.call ho hq); have HV3 := Lib.hid (SlB.weaken hv HC2.out.only.size); obtain ⟨Av, cv, rfl, -⟩ := hv.form; clear hv hq ho))
        | (go_at_call 88; go_loud (refine (qset_any w1.heap.size true _ _ _ HV3.out HC3.out.only.size).mono ?_; rintro e wz ⟨vz, rfl, hvz, hxz⟩; have HVZ := Lib.hid hvz; have HCZ := Lib.hid (HC3.out.ex hxz); clear hvz hxz)))
      go_ret
      exact ⟨_, _, _, rfl, HVZ.out, HCZ.out.q.blk, HCZ.out.only, QOut.one rfl rfl hl2 (show (0 : Int) ≤ D + 1 by omega)⟩
  have b94 : (c == 94) = false := by simpa using h94
  have b36 : (c == 36) = false := by simpa using h36
  have b46 : (c == 46) = false := by simpa using h46
  have b40 : (c == 40) = false := by simpa using h40
  have b91 : (c == 91) = false := by simpa using h91
  have b92 : (c == 92) = false := by simpa using h92
  by_cases hx : c = 42 ∨ c = 43 ∨ c = 63 ∨ c = 123
  · rw [if_neg h94, if_neg h36, if_pos hx] at hRR
    subst hRR
    have HX := Lib.hid (show decide (c = 42 ∨ c = 43 ∨ c = 63 ∨ c = 123) = true from decide_eq_true hx)
    clear h94 h36 h46 h40 h91 h92 hx
    go_upto_region 22 with (first
      | (go_at_call 92; go_loud (refine (hasq_any c _).mono ?_; rw [HX.out]; rintro e w3 ⟨rfl, hx⟩; have HC3 := Lib.hid (HC2.out.ex hx); clear hx))
      | (go_at_call 44; go_loud (refine (qbad_any _ _ 5 (st.at_ : Int) HC3.out.q).mono ?_; rintro e w4 ⟨rfl, hq, ho⟩; have HC4 := Lib.hid (HC3.out.call ho hq); clear hq ho)))
    have h7a : (st.fail 5 (st.at_ : Int)).at_ ≤ 100 := by rw [RX.failat]; omega
    have c1 := HC4.out.q.blk.c1
    have f1 := HC4.out.q.blk.fr 1
    go_upto_region 23 with fail
    have HC5 := Lib.hid HC4.out.bump1
    generalize w4.setCell _ _ = w5 at HC5 ⊢
    clear c1 f1
    go_wp2_with (go_at_call 88; go_loud (refine (qset_any w1.heap.size false _ _ _ (c_lit w5 [c, c] _ _ rfl rfl HC5.out.only.size (by simp)) (by have := HC5.out.only.size; simp; omega)).mono ?_; rintro e wz ⟨vz, rfl, hvz, hxz⟩; have HVZ := Lib.hid hvz; have HCZ := Lib.hid (HC5.out.ex (((Ext.refl w5).alloc _).trans hxz)); clear hvz hxz))
    go_ret
    exact ⟨_, _, _, rfl, HVZ.out, HCZ.out.q.blk, HCZ.out.only, QOut.one_bad rfl (RX.failop _ _ _) (by show (st.fail 5 (st.at_ : Int)).at_ + 1 ≤ N + 1; rw [RX.failat]; exact hla) (show (0 : Int) ≤ D + 1 by omega) (RX.St.fail_ok _ (by decide)) rfl rfl⟩
  rw [if_neg h94, if_neg h36, if_neg hx, if_neg h40, if_neg h91, if_neg h92, if_neg h46] at hRR
  subst hRR
  have HX := Lib.hid (show decide (c = 42 ∨ c = 43 ∨ c = 63 ∨ c = 123) = false from decide_eq_false hx)
  clear h94 h36 h46 h40 h91 h92 hx
  go_upto_region 22 with (go_at_call 92; go_loud (refine (hasq_any c _).mono ?_; rw [HX.out]; rintro e w3 ⟨rfl, hx⟩; have HC3 := Lib.hid (HC2.out.ex hx); clear hx))
  have c1 := HC3.out.q.blk.c1
  have f1 := HC3.out.q.blk.fr 1
  go_upto_region 23 with fail
  have HC5 := Lib.hid HC3.out.bump1
  generalize w3.setCell _ _ = w5 at HC5 ⊢
  clear c1 f1
  go_wp2_with (go_at_call 88; go_loud (refine (qset_any w1.heap.size false _ _ _ (c_lit w5 [c, c] _ _ rfl rfl HC5.out.only.size (by simp)) (by have := HC5.out.only.size; simp; omega)).mono ?_; rintro e wz ⟨vz, rfl, hvz, hxz⟩; have HVZ := Lib.hid hvz; have HCZ := Lib.hid (HC5.out.ex (((Ext.refl w5).alloc _).trans hxz)); clear hvz hxz))
  go_ret
  exact ⟨_, _, _, rfl, HVZ.out, HCZ.out.q.blk, HCZ.out.only, QOut.one rfl rfl hla (show (0 : Int) ≤ D + 1 by omega)⟩
end
end Go.Proofs.YtfblkahjefdmaaaGreat

/- Walk: item of the document's own reader. -/
namespace Go.Proofs.YtfblkahjefdmaaaGreat
open Go.RowKit

namespace RX
section
variable {s : List Int} {alt : St → List ReN × St} {st : St}
theorem groupP_head (h : (groupP s alt st).2.ok = true) : ∃ k r, (groupP s alt st).1 = node 5 k 0 false false [] :: r := by
  unfold groupP at h ⊢
  split at h
  · rw [St.fail_ok _ (by decide)] at h; cases h
  rename_i h1
  rw [if_neg h1]
  split at h
  · rename_i h2; rw [if_pos h2]; exact ⟨_, _, rfl⟩
  rename_i h2
  rw [if_neg h2]
  split at h
  · rw [St.fail_ok _ (by decide)] at h; cases h
  rename_i h3
  rw [if_neg h3]
  split at h
  · rw [St.fail_ok _ (by decide)] at h; cases h
  rename_i h4
  rw [if_neg h4]
  exact ⟨_, _, rfl⟩
theorem atomP_head (h : (atomP s alt st).2.ok = true) : ∃ x r, (atomP s alt st).1 = x :: r ∧ x.kind ≠ 3 ∧ x.kind ≠ 4 := by
  unfold atomP at h ⊢
  simp only at h ⊢
  split at h
  · rw [St.fail_ok _ (by decide)] at h; cases h
  rename_i h1
  rw [if_neg h1]
  split at h
  · rename_i h2
    rw [if_pos h2]
    obtain ⟨k, r, e⟩ := groupP_head h
    exact ⟨_, r, e, by show (5 : Int) ≠ 3; decide, by show (5 : Int) ≠ 4; decide⟩
  rename_i h2
  rw [if_neg h2]
  split at h
  · rename_i h3; rw [if_pos h3]; exact ⟨_, _, rfl, by show (2 : Int) ≠ 3; decide, by show (2 : Int) ≠ 4; decide⟩
  rename_i h3
  rw [if_neg h3]
  split at h
  · rename_i h4
    rw [if_pos h4]
    rw [escaped_behind rfl] at h ⊢
    split at h
    · rw [St.fail_ok _ (by decide)] at h; cases h
    · rename_i h5; rw [if_neg h5]; exact ⟨_, _, rfl, by show (2 : Int) ≠ 3; decide, by show (2 : Int) ≠ 4; decide⟩
  rename_i h4
  rw [if_neg h4]
  split at h
  · rename_i h5; rw [if_pos h5]; exact ⟨_, _, rfl, by show (2 : Int) ≠ 3; decide, by show (2 : Int) ≠ 4; decide⟩
  · rename_i h5; rw [if_neg h5]; exact ⟨_, _, rfl, by show (2 : Int) ≠ 3; decide, by show (2 : Int) ≠ 4; decide⟩
theorem item_bad (hok : st.ok = true) (h : (atomM s alt st).2.ok = false) : itemP s alt st = ([], (atomM s alt st).2) := by
  unfold atomM at h ⊢
  unfold itemP
  simp only
  split at h
  · have h : st.ok = false := h; rw [hok] at h; cases h
  rename_i h1
  split at h
  · have h : st.ok = false := h; rw [hok] at h; cases h
  rename_i h2
  simp only [if_neg h1, if_neg h2]
  rw [if_neg (by rw [h]; simp)]
theorem item_good (h : (atomM s alt st).2.ok = true) : ∃ x r, (atomM s alt st).1 = x :: r ∧ (((x.kind = 3 ∨ x.kind = 4) ∧ itemP s alt st = atomM s alt st) ∨ (x.kind ≠ 3 ∧ x.kind ≠ 4 ∧ itemP s alt st = repeatP s (atomM s alt st).1 (atomM s alt st).2)) := by
  unfold atomM at h ⊢
  unfold itemP
  simp only
  split at h
  · rename_i h1; simp only [if_pos h1]; exact ⟨_, _, rfl, .inl ⟨.inl rfl, trivial⟩⟩
  rename_i h1
  split at h
  · rename_i h2; simp only [if_neg h1, if_pos h2]; exact ⟨_, _, rfl, .inl ⟨.inr rfl, trivial⟩⟩
  rename_i h2
  simp only [if_neg h1, if_neg h2]
  obtain ⟨x, r, e, h3, h4⟩ := atomP_head h
  exact ⟨x, r, e, .inr ⟨h3, h4, by rw [if_pos h]⟩⟩
end
end RX
/-- Behind a repeat. -/
theorem QOut.rep {s : List Int} {st stA st1 stT : RX.St} {lo hi : Int} {lA : List RX.ReN} {K : Nat} {D : Int} {N : Nat} (hr : RX.repTop s stA = some (lo, hi, st1)) (hlen : lA.length ≤ K) (hdeep : ∀ x ∈ lA, 0 ≤ x.deep ∧ x.deep ≤ D) (hD : 0 ≤ D) (hop : stT.op = st.op) (hat : stT.at_ + 1 ≤ N)
    (h1 : st1.ok = true → stT = st1) (h2 : st1.ok = false → stT.code = st1.code ∧ stT.bat = st1.bat) {lz : Bool} (hlz : decide (RX.nxt s stT 0 = 63) = lz) :
    QOut (RX.repeatP s lA stA) st (K + 1) (D + 1) N (RX.node 6 lo hi lz false [] :: lA.map RX.ReN.down) (if lz = true then stT.bump 1 else stT) := by
  have e : RX.repeatP s lA stA = (RX.under (RX.node 6 lo hi (st1.ok && decide (RX.nxt s st1 0 = 63)) false []) [lA], if (st1.ok && decide (RX.nxt s st1 0 = 63)) then st1.bump 1 else st1) := by unfold RX.repeatP; rw [hr]
  rw [e]
  refine ⟨by simp; exact hlen, ?_, ?_, ?_, ?_, ?_⟩
  · intro x hx
    rcases List.mem_cons.1 hx with rfl | hx
    · exact ⟨Int.le_refl _, by show (0 : Int) ≤ D + 1; omega⟩
    · obtain ⟨y, hy, rfl⟩ := List.mem_map.1 hx
      have := hdeep y hy
      exact ⟨by show 0 ≤ y.deep + 1; omega, by show y.deep + 1 ≤ D + 1; omega⟩
  · split
    · exact hat
    · omega
  · split <;> exact hop
  · intro hk
    have hk1 : st1.ok = true := by
      rcases hs : st1.ok with _ | _
      · simp only [hs, Bool.false_and, if_neg Bool.false_ne_true] at hk
        cases hk
      · rfl
    have := h1 hk1
    subst this
    rw [hk1, Bool.true_and, hlz, RX.under_one]
    exact ⟨rfl, rfl⟩
  · intro hk
    have hk1 : st1.ok = false := by
      rcases hs : st1.ok with _ | _
      · rfl
      · exfalso
        revert hk
        dsimp only
        split
        · intro hk; have hk : st1.ok = false := hk; rw [hs] at hk; cases hk
        · intro hk; rw [hs] at hk; cases hk
    obtain ⟨h3, h4⟩ := h2 hk1
    rw [hk1]
    simp only [Bool.false_and, if_neg Bool.false_ne_true]
    split
    · exact ⟨h3, h4⟩
    · exact ⟨h3, h4⟩
section
variable {w0 : World} {rb : Nat} {sv : Value} {s : List Int}
set_option maxRecDepth 100000 in
set_option maxHeartbeats 4000000 in
theorem qitem_any (n : Nat) (alt : RX.St → List RX.ReN × RX.St) {K : Nat} {D : Int} {N : Nat} (HA : ∀ m, n = m + 1 → AltQ w0 rb sv s m alt K D N) (hK : K ≤ 10000) (hD : 0 ≤ D ∧ D ≤ 100) (hN : s.length + 4 ≤ N ∧ N ≤ 400)
    (w1 : World) (st : RX.St) (he : Qn w0 rb sv s w1 st) (hok : st.ok = true) (ha : st.at_ < s.length) (h9 : st.caps ≤ 9) (hop : st.op + n = 12) :
    Calls Tryz.prog 76 #[.pointer (some ⟨rb, 0, none⟩)] w1 (QP rb sv w1 (RX.itemP s alt st) st (K + 2) (D + 2) (N + 8)) := by
  have HC1 := Lib.hid (show Qb w0 rb sv s w1 st w1 from ⟨he, Only.refl _ _⟩)
  have hrb := he.rbl
  have HOK := Lib.hid hok
  have HAT := Lib.hid (fun w h => qatom_any n alt HA hK hD ⟨hN.1, by omega⟩ w st h hok ha h9 hop)
  obtain ⟨R, hR⟩ : ∃ x, RX.itemP s alt st = x := ⟨_, rfl⟩
  have HR := Lib.hid hR
  rw [hR]
  clear he hok hR HA hop
  go_enter Tryz.func76, Tryz.ntmps76
  go_upto_region 2 with (go_at_call 82; go_loud (refine (HAT.out _ HC1.out.q).mono ?_; rintro e w3 ⟨lA, vA, stA, rfl, hv, hq, ho, hout⟩; have HC3 := Lib.hid (HC1.out.call ho hq); have HD3 := Lib.hid (show Qb w0 rb sv s w3 stA w3 from ⟨HC3.out.q, Only.refl _ _⟩); have HV3 := Lib.hid hv; have HO3 := Lib.hid hout; obtain ⟨AA, cA, rfl, -⟩ := hv.form; clear hv hq ho hout))
  have haA : stA.at_ ≤ N + 1 := HO3.out.hi
  have hnn : RX.atomM s alt st = RX.atomM s alt st := rfl
  rcases hkA : stA.ok with _ | _
  · have HKA := Lib.hid hkA
    have hb : (RX.atomM s alt st).2.ok = false := by rw [← HO3.out.ok]; exact hkA
    have he := HR.out.symm.trans (RX.item_bad HOK.out hb)
    have hcb := HO3.out.bad hb
    have HQ := Lib.hid (show QOut R st (K + 2) (D + 2) (N + 8) lA stA from by
      rw [he]
      exact ⟨Nat.le_succ_of_le HO3.out.len, fun x hx => ⟨(HO3.out.deep x hx).1, by have := (HO3.out.deep x hx).2; omega⟩, by omega, HO3.out.op, (fun h => by rw [hb] at h; cases h), fun _ => hcb⟩)
    clear hb he hcb hkA hnn
    go_wp2_with (go_at_call 43; go_loud (refine (qok_any _ _ HD3.out.q).mono ?_; rw [HKA.out]; rintro e w4 ⟨rfl, hx⟩; have HD4 := Lib.hid (HD3.out.ex hx); clear hx))
    go_ret
    exact ⟨_, _, _, rfl, (SlRe.weak HV3.out HC1.out.only.size |>.keepB (keepsB_re _) (KeepB.low HD4.out.only hrb)), HD4.out.q.blk, HC3.out.only.trans HD4.out.only, HQ.out⟩
  have HKA := Lib.hid hkA
  have hb : (RX.atomM s alt st).2.ok = true := by rw [← HO3.out.ok]; exact hkA
  obtain ⟨e1, e2⟩ := HO3.out.good hb
  obtain ⟨x, r, hx, hw⟩ := RX.item_good hb
  have hx2 : lA = x :: r := e1.trans hx
  have HLEN := Lib.hid HO3.out.len
  have HDEEP := Lib.hid HO3.out.deep
  have HOP := Lib.hid HO3.out.op
  rw [← e1, ← e2, HR.out] at hw
  have h0 : 0 < lA.length := by rw [hx2]; exact Nat.succ_pos _
  have h0i : (0 : Int) < (lA.length : Int) := by omega
  obtain ⟨g, oo, cs, rfl, hcr0, hcell0⟩ := HV3.out.at_ h0
  have hy : lA[0] = x := by simp [hx2]
  rw [hy] at hcr0
  obtain ⟨Ax, cx, rfl⟩ := hcr0.cells
  have c0 := hcell0 0 _ rfl
  rw [Nat.add_zero] at c0
  have HRR := Lib.hid (show lA = (RX.atomM s alt st).1 ∧ stA = (RX.atomM s alt st).2 from ⟨e1, e2⟩)
  clear hb hkA hnn e1 hx hx2 hy hcr0 hcell0
  rcases hw with ⟨hk, hw⟩ | ⟨hk3, hk4, hw⟩
  · have HQ := Lib.hid (show QOut R st (K + 2) (D + 2) (N + 8) lA stA from by
      rw [hw]
      exact HO3.out.mono (by omega) (by omega) (by omega))
    clear hw e2 HO3
    rcases hk with hk | hk
    · have b3 : (x.kind == 3) = true := by rw [hk]; rfl
      clear hk
      go_wp2_with (go_at_call 43; go_loud (refine (qok_any _ _ HD3.out.q).mono ?_; rw [HKA.out]; rintro e w4 ⟨rfl, hx⟩; have HD4 := Lib.hid (HD3.out.ex hx); replace c0 := hx.cell c0; clear hx))
      go_ret
      exact ⟨_, _, _, rfl, (SlRe.weak HV3.out HC1.out.only.size |>.keepB (keepsB_re _) (KeepB.low HD4.out.only hrb)), HD4.out.q.blk, HC3.out.only.trans HD4.out.only, HQ.out⟩
    · have b3 : (x.kind == 3) = false := by rw [hk]; rfl
      have b4 : (x.kind == 4) = true := by rw [hk]; rfl
      clear hk
      go_wp2_with (go_at_call 43; go_loud (refine (qok_any _ _ HD3.out.q).mono ?_; rw [HKA.out]; rintro e w4 ⟨rfl, hx⟩; have HD4 := Lib.hid (HD3.out.ex hx); replace c0 := hx.cell c0; clear hx))
      go_ret
      exact ⟨_, _, _, rfl, (SlRe.weak HV3.out HC1.out.only.size |>.keepB (keepsB_re _) (KeepB.low HD4.out.only hrb)), HD4.out.q.blk, HC3.out.only.trans HD4.out.only, HQ.out⟩
  have b3 : (x.kind == 3) = false := by simpa using hk3
  have b4 : (x.kind == 4) = false := by simpa using hk4
  have HW := Lib.hid hw
  clear hk3 hk4 hw e2 HO3
  go_upto_region 5 with (go_at_call 43; go_loud (refine (qok_any _ _ HD3.out.q).mono ?_; rw [HKA.out]; rintro e w4 ⟨rfl, hx⟩; have HD4 := Lib.hid (HD3.out.ex hx); replace c0 := hx.cell c0; clear hx))
  have HC5 := Lib.hid (Qg.start (k := 6) HD4.out HC3.out.q.rbl)
  generalize w4.heap.size = gb at HC5 ⊢
  generalize w4.alloc _ = w5 at HC5 ⊢
  clear c0 b3 b4 h0 h0i
  obtain ⟨cn, hcn⟩ : ∃ x, RX.nxt s stA 0 = x := ⟨_, rfl⟩
  have HN := Lib.hid hcn
  have hgA : stA.at_ ≤ 401 := by omega
  by_cases h42 : cn = 42
  · have hrt : RX.repTop s stA = some (0, (-1), stA.bump 1) := by unfold RX.repTop; simp only [hcn]; simp only [h42]; rfl
    have hTa : (stA.bump 1).at_ ≤ 402 := by show stA.at_ + 1 ≤ 402; omega
    have HREP := Lib.hid (fun (lz : Bool) hlz => QOut.rep (lz := lz) (K := K + 1) (D := D + 1) (N := N + 8) hrt HLEN.out HDEEP.out (by omega) (show (stA.bump 1).op = st.op from HOP.out) (show stA.at_ + 2 ≤ N + 8 by omega) (fun _ => rfl) (fun _ => ⟨rfl, rfl⟩) hlz)
    have b42 : (cn == 42) = true := by simpa using h42
    clear hcn h42
    clear hrt
    go_upto_region 8 with (go_at_call 63; go_loud (refine (qnext_any _ _ HC5.out.b.q).mono ?_; rw [HN.out]; rintro e w6 ⟨rfl, hx⟩; have HC6 := Lib.hid (HC5.out.ex hx); clear hx))
    have fg3 := HC6.out.g.fr 3
    have cg3 := HC6.out.g.c 3 _ rfl
    go_upto_region 9 with fail
    have HC7 := Lib.hid (HC6.out.set (HC6.out.g.hi_ (hi' := (-1))))
    generalize w6.setCell _ _ = w7 at HC7 ⊢
    clear fg3 cg3
    have c1 := HC7.out.b.q.blk.c1
    have f1 := HC7.out.b.q.blk.fr 1
    go_upto_region 18 with fail
    have HC8 := Lib.hid HC7.out.bump1
    generalize w7.setCell _ _ = w8 at HC8 ⊢
    clear c1 f1
    obtain ⟨cz, hcz⟩ : ∃ x, RX.nxt s (stA.bump 1) 0 = x := ⟨_, rfl⟩
    have HNZ := Lib.hid hcz
    by_cases h63z : cz = 63
    · have bz : (cz == 63) = true := by simpa using h63z
      have HQ := Lib.hid (HREP.out true (show decide (RX.nxt s (stA.bump 1) 0 = 63) = true from decide_eq_true (hcz.trans h63z)))
      rw [if_pos rfl] at HQ
      clear hcz h63z
      go_upto_region 19 with (go_at_call 63; go_loud (refine (qnext_any _ _ HC8.out.b.q).mono ?_; rw [HNZ.out]; rintro e wX ⟨rfl, hx⟩; have HCX := Lib.hid (HC8.out.ex hx); clear hx))
      have fg := HCX.out.g.fr 4
      have cg := HCX.out.g.c 4 _ rfl
      go_upto_region 20 with fail
      have HCY := Lib.hid (HCX.out.set HCX.out.g.lz_)
      generalize wX.setCell _ _ = wY at HCY ⊢
      clear fg cg
      have c1 := HCY.out.b.q.blk.c1
      have f1 := HCY.out.b.q.blk.fr 1
      go_upto_region 21 with fail
      have HCF := Lib.hid HCY.out.bump1
      generalize wY.setCell _ _ = wF at HCF ⊢
      clear c1 f1
      have g0 := HCF.out.g.c 0 _ rfl
      have g1 := HCF.out.g.c 1 _ rfl
      have g2 := HCF.out.g.c 2 _ rfl
      have g3 := HCF.out.g.c 3 _ rfl
      have g4 := HCF.out.g.c 4 _ rfl
      have g5 := HCF.out.g.c 5 _ rfl
      have g6 := HCF.out.g.c 6 _ rfl
      have hbz : w1.heap.size ≤ wF.heap.size := Nat.le_trans HC3.out.only.size HCF.out.b.only.size
      have HVF := Lib.hid ((SlRe.weak HV3.out HC1.out.only.size).keepB (keepsB_re _) (KeepB.low HCF.out.b.only hrb))
      go_wp2_with (go_at_call 64; go_loud (refine (qunder_any (B := w1.heap.size) _ (RX.node 6 0 (-1) true false []) _ lA _ CR.mk0 HVF.out hbz (by have := HLEN.out; omega) (fun y hy => by have := HDEEP.out y hy; omega)).mono ?_; rintro e wz ⟨vz, rfl, hvz, hxz⟩; have HVZ := Lib.hid hvz.sl; have HCZ := Lib.hid (HCF.out.ex hxz); clear hvz hxz))
      go_ret
      exact ⟨_, _, _, rfl, HVZ.out, HCZ.out.b.q.blk, HC3.out.only.trans HCZ.out.b.only, by rw [HW.out]; exact HQ.out.mono (Nat.le_refl _) (show D + 1 + 1 ≤ D + 2 by omega) (Nat.le_refl _)⟩
    · have bz : (cz == 63) = false := by simpa using h63z
      have HQ := Lib.hid (HREP.out false (show decide (RX.nxt s (stA.bump 1) 0 = 63) = false from decide_eq_false (fun h => h63z (hcz.symm.trans h))))
      rw [if_neg Bool.false_ne_true] at HQ
      clear hcz h63z
      go_upto_region 21 with (go_at_call 63; go_loud (refine (qnext_any _ _ HC8.out.b.q).mono ?_; rw [HNZ.out]; rintro e wF ⟨rfl, hx⟩; have HCF := Lib.hid (HC8.out.ex hx); clear hx))
      have g0 := HCF.out.g.c 0 _ rfl
      have g1 := HCF.out.g.c 1 _ rfl
      have g2 := HCF.out.g.c 2 _ rfl
      have g3 := HCF.out.g.c 3 _ rfl
      have g4 := HCF.out.g.c 4 _ rfl
      have g5 := HCF.out.g.c 5 _ rfl
      have g6 := HCF.out.g.c 6 _ rfl
      have hbz : w1.heap.size ≤ wF.heap.size := Nat.le_trans HC3.out.only.size HCF.out.b.only.size
      have HVF := Lib.hid ((SlRe.weak HV3.out HC1.out.only.size).keepB (keepsB_re _) (KeepB.low HCF.out.b.only hrb))
      go_wp2_with (go_at_call 64; go_loud (refine (qunder_any (B := w1.heap.size) _ (RX.node 6 0 (-1) false false []) _ lA _ CR.mk0 HVF.out hbz (by have := HLEN.out; omega) (fun y hy => by have := HDEEP.out y hy; omega)).mono ?_; rintro e wz ⟨vz, rfl, hvz, hxz⟩; have HVZ := Lib.hid hvz.sl; have HCZ := Lib.hid (HCF.out.ex hxz); clear hvz hxz))
      go_ret
      exact ⟨_, _, _, rfl, HVZ.out, HCZ.out.b.q.blk, HC3.out.only.trans HCZ.out.b.only, by rw [HW.out]; exact HQ.out.mono (Nat.le_refl _) (show D + 1 + 1 ≤ D + 2 by omega) (Nat.le_refl _)⟩
  by_cases h43 : cn = 43
  · have hrt : RX.repTop s stA = some (1, (-1), stA.bump 1) := by unfold RX.repTop; simp only [hcn]; simp only [h43]; rfl
    have hTa : (stA.bump 1).at_ ≤ 402 := by show stA.at_ + 1 ≤ 402; omega
    have HREP := Lib.hid (fun (lz : Bool) hlz => QOut.rep (lz := lz) (K := K + 1) (D := D + 1) (N := N + 8) hrt HLEN.out HDEEP.out (by omega) (show (stA.bump 1).op = st.op from HOP.out) (show stA.at_ + 2 ≤ N + 8 by omega) (fun _ => rfl) (fun _ => ⟨rfl, rfl⟩) hlz)
    have b42 : (cn == 42) = false := by simpa using h42
    have b43 : (cn == 43) = true := by simpa using h43
    clear hcn h42 h43
    clear hrt
    go_upto_region 11 with (go_at_call 63; go_loud (refine (qnext_any _ _ HC5.out.b.q).mono ?_; rw [HN.out]; rintro e w6 ⟨rfl, hx⟩; have HC6 := Lib.hid (HC5.out.ex hx); clear hx))
    have fg2 := HC6.out.g.fr 2
    have cg2 := HC6.out.g.c 2 _ rfl
    have fg3 := HC6.out.g.fr 3
    have cg3 := HC6.out.g.c 3 _ rfl
    go_upto_region 12 with fail
    have HC7a := Lib.hid (HC6.out.set (HC6.out.g.lo_ (lo' := 1)))
    have HC7 := Lib.hid (HC7a.out.set (HC7a.out.g.hi_ (hi' := (-1))))
    clear HC7a
    generalize (w6.setCell _ _).setCell _ _ = w7 at HC7 ⊢
    clear fg2 cg2 fg3 cg3
    have c1 := HC7.out.b.q.blk.c1
    have f1 := HC7.out.b.q.blk.fr 1
    go_upto_region 18 with fail
    have HC8 := Lib.hid HC7.out.bump1
    generalize w7.setCell _ _ = w8 at HC8 ⊢
    clear c1 f1
    obtain ⟨cz, hcz⟩ : ∃ x, RX.nxt s (stA.bump 1) 0 = x := ⟨_, rfl⟩
    have HNZ := Lib.hid hcz
    by_cases h63z : cz = 63
    · have bz : (cz == 63) = true := by simpa using h63z
      have HQ := Lib.hid (HREP.out true (show decide (RX.nxt s (stA.bump 1) 0 = 63) = true from decide_eq_true (hcz.trans h63z)))
      rw [if_pos rfl] at HQ
      clear hcz h63z
      go_upto_region 19 with (go_at_call 63; go_loud (refine (qnext_any _ _ HC8.out.b.q).mono ?_; rw [HNZ.out]; rintro e wX ⟨rfl, hx⟩; have HCX := Lib.hid (HC8.out.ex hx); clear hx))
      have fg := HCX.out.g.fr 4
      have cg := HCX.out.g.c 4 _ rfl
      go_upto_region 20 with fail
      have HCY := Lib.hid (HCX.out.set HCX.out.g.lz_)
      generalize wX.setCell _ _ = wY at HCY ⊢
      clear fg cg
      have c1 := HCY.out.b.q.blk.c1
      have f1 := HCY.out.b.q.blk.fr 1
      go_upto_region 21 with fail
      have HCF := Lib.hid HCY.out.bump1
      generalize wY.setCell _ _ = wF at HCF ⊢
      clear c1 f1
      have g0 := HCF.out.g.c 0 _ rfl
      have g1 := HCF.out.g.c 1 _ rfl
      have g2 := HCF.out.g.c 2 _ rfl
      have g3 := HCF.out.g.c 3 _ rfl
      have g4 := HCF.out.g.c 4 _ rfl
      have g5 := HCF.out.g.c 5 _ rfl
      have g6 := HCF.out.g.c 6 _ rfl
      have hbz : w1.heap.size ≤ wF.heap.size := Nat.le_trans HC3.out.only.size HCF.out.b.only.size
      have HVF := Lib.hid ((SlRe.weak HV3.out HC1.out.only.size).keepB (keepsB_re _) (KeepB.low HCF.out.b.only hrb))
      go_wp2_with (go_at_call 64; go_loud (refine (qunder_any (B := w1.heap.size) _ (RX.node 6 1 (-1) true false []) _ lA _ CR.mk0 HVF.out hbz (by have := HLEN.out; omega) (fun y hy => by have := HDEEP.out y hy; omega)).mono ?_; rintro e wz ⟨vz, rfl, hvz, hxz⟩; have HVZ := Lib.hid hvz.sl; have HCZ := Lib.hid (HCF.out.ex hxz); clear hvz hxz))
      go_ret
      exact ⟨_, _, _, rfl, HVZ.out, HCZ.out.b.q.blk, HC3.out.only.trans HCZ.out.b.only, by rw [HW.out]; exact HQ.out.mono (Nat.le_refl _) (show D + 1 + 1 ≤ D + 2 by omega) (Nat.le_refl _)⟩
    · have bz : (cz == 63) = false := by simpa using h63z
      have HQ := Lib.hid (HREP.out false (show decide (RX.nxt s (stA.bump 1) 0 = 63) = false from decide_eq_false (fun h => h63z (hcz.symm.trans h))))
      rw [if_neg Bool.false_ne_true] at HQ
      clear hcz h63z
      go_upto_region 21 with (go_at_call 63; go_loud (refine (qnext_any _ _ HC8.out.b.q).mono ?_; rw [HNZ.out]; rintro e wF ⟨rfl, hx⟩; have HCF := Lib.hid (HC8.out.ex hx); clear hx))
      have g0 := HCF.out.g.c 0 _ rfl
      have g1 := HCF.out.g.c 1 _ rfl
      have g2 := HCF.out.g.c 2 _ rfl
      have g3 := HCF.out.g.c 3 _ rfl
      have g4 := HCF.out.g.c 4 _ rfl
      have g5 := HCF.out.g.c 5 _ rfl
      have g6 := HCF.out.g.c 6 _ rfl
      have hbz : w1.heap.size ≤ wF.heap.size := Nat.le_trans HC3.out.only.size HCF.out.b.only.size
      have HVF := Lib.hid ((SlRe.weak HV3.out HC1.out.only.size).keepB (keepsB_re _) (KeepB.low HCF.out.b.only hrb))
      go_wp2_with (go_at_call 64; go_loud (refine (qunder_any (B := w1.heap.size) _ (RX.node 6 1 (-1) false false []) _ lA _ CR.mk0 HVF.out hbz (by have := HLEN.out; omega) (fun y hy => by have := HDEEP.out y hy; omega)).mono ?_; rintro e wz ⟨vz, rfl, hvz, hxz⟩; have HVZ := Lib.hid hvz.sl; have HCZ := Lib.hid (HCF.out.ex hxz); clear hvz hxz))
      go_ret
      exact ⟨_, _, _, rfl, HVZ.out, HCZ.out.b.q.blk, HC3.out.only.trans HCZ.out.b.only, by rw [HW.out]; exact HQ.out.mono (Nat.le_refl _) (show D + 1 + 1 ≤ D + 2 by omega) (Nat.le_refl _)⟩
  by_cases h63 : cn = 63
  · have hrt : RX.repTop s stA = some (0, 1, stA.bump 1) := by unfold RX.repTop; simp only [hcn]; simp only [h63]; rfl
    have hTa : (stA.bump 1).at_ ≤ 402 := by show stA.at_ + 1 ≤ 402; omega
    have HREP := Lib.hid (fun (lz : Bool) hlz => QOut.rep (lz := lz) (K := K + 1) (D := D + 1) (N := N + 8) hrt HLEN.out HDEEP.out (by omega) (show (stA.bump 1).op = st.op from HOP.out) (show stA.at_ + 2 ≤ N + 8 by omega) (fun _ => rfl) (fun _ => ⟨rfl, rfl⟩) hlz)
    have b42 : (cn == 42) = false := by simpa using h42
    have b43 : (cn == 43) = false := by simpa using h43
    have b63 : (cn == 63) = true := by simpa using h63
    clear hcn h42 h43 h63
    clear hrt
    go_upto_region 14 with (go_at_call 63; go_loud (refine (qnext_any _ _ HC5.out.b.q).mono ?_; rw [HN.out]; rintro e w6 ⟨rfl, hx⟩; have HC6 := Lib.hid (HC5.out.ex hx); clear hx))
    have fg3 := HC6.out.g.fr 3
    have cg3 := HC6.out.g.c 3 _ rfl
    go_upto_region 15 with fail
    have HC7 := Lib.hid (HC6.out.set (HC6.out.g.hi_ (hi' := 1)))
    generalize w6.setCell _ _ = w7 at HC7 ⊢
    clear fg3 cg3
    have c1 := HC7.out.b.q.blk.c1
    have f1 := HC7.out.b.q.blk.fr 1
    go_upto_region 18 with fail
    have HC8 := Lib.hid HC7.out.bump1
    generalize w7.setCell _ _ = w8 at HC8 ⊢
    clear c1 f1
    obtain ⟨cz, hcz⟩ : ∃ x, RX.nxt s (stA.bump 1) 0 = x := ⟨_, rfl⟩
    have HNZ := Lib.hid hcz
    by_cases h63z : cz = 63
    · have bz : (cz == 63) = true := by simpa using h63z
      have HQ := Lib.hid (HREP.out true (show decide (RX.nxt s (stA.bump 1) 0 = 63) = true from decide_eq_true (hcz.trans h63z)))
      rw [if_pos rfl] at HQ
      clear hcz h63z
      go_upto_region 19 with (go_at_call 63; go_loud (refine (qnext_any _ _ HC8.out.b.q).mono ?_; rw [HNZ.out]; rintro e wX ⟨rfl, hx⟩; have HCX := Lib.hid (HC8.out.ex hx); clear hx))
      have fg := HCX.out.g.fr 4
      have cg := HCX.out.g.c 4 _ rfl
      go_upto_region 20 with fail
      have HCY := Lib.hid (HCX.out.set HCX.out.g.lz_)
      generalize wX.setCell _ _ = wY at HCY ⊢
      clear fg cg
      have c1 := HCY.out.b.q.blk.c1
      have f1 := HCY.out.b.q.blk.fr 1
      go_upto_region 21 with fail
      have HCF := Lib.hid HCY.out.bump1
      generalize wY.setCell _ _ = wF at HCF ⊢
      clear c1 f1
      have g0 := HCF.out.g.c 0 _ rfl
      have g1 := HCF.out.g.c 1 _ rfl
      have g2 := HCF.out.g.c 2 _ rfl
      have g3 := HCF.out.g.c 3 _ rfl
      have g4 := HCF.out.g.c 4 _ rfl
      have g5 := HCF.out.g.c 5 _ rfl
      have g6 := HCF.out.g.c 6 _ rfl
      have hbz : w1.heap.size ≤ wF.heap.size := Nat.le_trans HC3.out.only.size HCF.out.b.only.size
      have HVF := Lib.hid ((SlRe.weak HV3.out HC1.out.only.size).keepB (keepsB_re _) (KeepB.low HCF.out.b.only hrb))
      go_wp2_with (go_at_call 64; go_loud (refine (qunder_any (B := w1.heap.size) _ (RX.node 6 0 1 true false []) _ lA _ CR.mk0 HVF.out hbz (by have := HLEN.out; omega) (fun y hy => by have := HDEEP.out y hy; omega)).mono ?_; rintro e wz ⟨vz, rfl, hvz, hxz⟩; have HVZ := Lib.hid hvz.sl; have HCZ := Lib.hid (HCF.out.ex hxz); clear hvz hxz))
      go_ret
      exact ⟨_, _, _, rfl, HVZ.out, HCZ.out.b.q.blk, HC3.out.only.trans HCZ.out.b.only, by rw [HW.out]; exact HQ.out.mono (Nat.le_refl _) (show D + 1 + 1 ≤ D + 2 by omega) (Nat.le_refl _)⟩
    · have bz : (cz == 63) = false := by simpa using h63z
      have HQ := Lib.hid (HREP.out false (show decide (RX.nxt s (stA.bump 1) 0 = 63) = false from decide_eq_false (fun h => h63z (hcz.symm.trans h))))
      rw [if_neg Bool.false_ne_true] at HQ
      clear hcz h63z
      go_upto_region 21 with (go_at_call 63; go_loud (refine (qnext_any _ _ HC8.out.b.q).mono ?_; rw [HNZ.out]; rintro e wF ⟨rfl, hx⟩; have HCF := Lib.hid (HC8.out.ex hx); clear hx))
      have g0 := HCF.out.g.c 0 _ rfl
      have g1 := HCF.out.g.c 1 _ rfl
      have g2 := HCF.out.g.c 2 _ rfl
      have g3 := HCF.out.g.c 3 _ rfl
      have g4 := HCF.out.g.c 4 _ rfl
      have g5 := HCF.out.g.c 5 _ rfl
      have g6 := HCF.out.g.c 6 _ rfl
      have hbz : w1.heap.size ≤ wF.heap.size := Nat.le_trans HC3.out.only.size HCF.out.b.only.size
      have HVF := Lib.hid ((SlRe.weak HV3.out HC1.out.only.size).keepB (keepsB_re _) (KeepB.low HCF.out.b.only hrb))
      go_wp2_with (go_at_call 64; go_loud (refine (qunder_any (B := w1.heap.size) _ (RX.node 6 0 1 false false []) _ lA _ CR.mk0 HVF.out hbz (by have := HLEN.out; omega) (fun y hy => by have := HDEEP.out y hy; omega)).mono ?_; rintro e wz ⟨vz, rfl, hvz, hxz⟩; have HVZ := Lib.hid hvz.sl; have HCZ := Lib.hid (HCF.out.ex hxz); clear hvz hxz))
      go_ret
      exact ⟨_, _, _, rfl, HVZ.out, HCZ.out.b.q.blk, HC3.out.only.trans HCZ.out.b.only, by rw [HW.out]; exact HQ.out.mono (Nat.le_refl _) (show D + 1 + 1 ≤ D + 2 by omega) (Nat.le_refl _)⟩
  by_cases h123 : cn = 123
  · obtain ⟨bo, hbo⟩ : ∃ x, RX.bounds s stA = x := ⟨_, rfl⟩
    have hrt : RX.repTop s stA = some (bo.1, bo.2.1, bo.2.2) := by unfold RX.repTop; simp only [hcn]; simp only [h123, hbo]; rfl
    have hta := RX.times_at s stA
    have htb := RX.times_bounds s stA
    rw [hbo] at htb
    obtain ⟨lo, hi, st1⟩ := bo
    have HBO := Lib.hid (show (RX.bounds s stA).1 = lo ∧ (RX.bounds s stA).2.1 = hi by rw [hbo]; exact ⟨rfl, rfl⟩)
    have HREP := Lib.hid (fun (lz : Bool) hlz => QOut.rep (lz := lz) (K := K + 1) (D := D + 1) (N := N + 8) hrt HLEN.out HDEEP.out (by omega) (hta.2.trans HOP.out) (by omega) htb.1 htb.2 hlz)
    have hTa : (RX.timesS s stA).at_ ≤ 410 := by omega
    have b42 : (cn == 42) = false := by simpa using h42
    have b43 : (cn == 43) = false := by simpa using h43
    have b63 : (cn == 63) = false := by simpa using h63
    have b123 : (cn == 123) = true := by simpa using h123
    clear hcn h42 h43 h63 h123
    clear hrt hbo hta htb
    go_upto_region 18 with (first
      | (go_at_call 63; go_loud (refine (qnext_any _ _ HC5.out.b.q).mono ?_; rw [HN.out]; rintro e w6 ⟨rfl, hx⟩; have HC6 := Lib.hid (HC5.out.ex hx); clear hx))
      | (go_at_call 83; go_loud (refine (qtimes_any _ _ HC6.out.b.q (by omega)).mono ?_; rw [HBO.out.1, HBO.out.2]; rintro e w7 ⟨rfl, hq, ho⟩; have HC7 := Lib.hid (HC6.out.call ho hq); have fg2 := HC7.out.g.fr 2; have cg2 := HC7.out.g.c 2 _ rfl; have fg3 := HC7.out.g.fr 3; have cg3 := HC7.out.g.c 3 _ rfl; clear hq ho)))
    have HC8a := Lib.hid (HC7.out.set (HC7.out.g.lo_ (lo' := lo)))
    have HC8 := Lib.hid (HC8a.out.set (HC8a.out.g.hi_ (hi' := hi)))
    clear HC8a
    generalize (w7.setCell _ _).setCell _ _ = w8 at HC8 ⊢
    generalize RX.timesS s stA = stT at HC8 HREP hTa
    clear fg2 cg2 fg3 cg3
    obtain ⟨cz, hcz⟩ : ∃ x, RX.nxt s stT 0 = x := ⟨_, rfl⟩
    have HNZ := Lib.hid hcz
    by_cases h63z : cz = 63
    · have bz : (cz == 63) = true := by simpa using h63z
      have HQ := Lib.hid (HREP.out true (show decide (RX.nxt s stT 0 = 63) = true from decide_eq_true (hcz.trans h63z)))
      rw [if_pos rfl] at HQ
      clear hcz h63z
      go_upto_region 19 with (go_at_call 63; go_loud (refine (qnext_any _ _ HC8.out.b.q).mono ?_; rw [HNZ.out]; rintro e wX ⟨rfl, hx⟩; have HCX := Lib.hid (HC8.out.ex hx); clear hx))
      have fg := HCX.out.g.fr 4
      have cg := HCX.out.g.c 4 _ rfl
      go_upto_region 20 with fail
      have HCY := Lib.hid (HCX.out.set HCX.out.g.lz_)
      generalize wX.setCell _ _ = wY at HCY ⊢
      clear fg cg
      have c1 := HCY.out.b.q.blk.c1
      have f1 := HCY.out.b.q.blk.fr 1
      go_upto_region 21 with fail
      have HCF := Lib.hid HCY.out.bump1
      generalize wY.setCell _ _ = wF at HCF ⊢
      clear c1 f1
      have g0 := HCF.out.g.c 0 _ rfl
      have g1 := HCF.out.g.c 1 _ rfl
      have g2 := HCF.out.g.c 2 _ rfl
      have g3 := HCF.out.g.c 3 _ rfl
      have g4 := HCF.out.g.c 4 _ rfl
      have g5 := HCF.out.g.c 5 _ rfl
      have g6 := HCF.out.g.c 6 _ rfl
      have hbz : w1.heap.size ≤ wF.heap.size := Nat.le_trans HC3.out.only.size HCF.out.b.only.size
      have HVF := Lib.hid ((SlRe.weak HV3.out HC1.out.only.size).keepB (keepsB_re _) (KeepB.low HCF.out.b.only hrb))
      go_wp2_with (go_at_call 64; go_loud (refine (qunder_any (B := w1.heap.size) _ (RX.node 6 lo hi true false []) _ lA _ CR.mk0 HVF.out hbz (by have := HLEN.out; omega) (fun y hy => by have := HDEEP.out y hy; omega)).mono ?_; rintro e wz ⟨vz, rfl, hvz, hxz⟩; have HVZ := Lib.hid hvz.sl; have HCZ := Lib.hid (HCF.out.ex hxz); clear hvz hxz))
      go_ret
      exact ⟨_, _, _, rfl, HVZ.out, HCZ.out.b.q.blk, HC3.out.only.trans HCZ.out.b.only, by rw [HW.out]; exact HQ.out.mono (Nat.le_refl _) (show D + 1 + 1 ≤ D + 2 by omega) (Nat.le_refl _)⟩
    · have bz : (cz == 63) = false := by simpa using h63z
      have HQ := Lib.hid (HREP.out false (show decide (RX.nxt s stT 0 = 63) = false from decide_eq_false (fun h => h63z (hcz.symm.trans h))))
      rw [if_neg Bool.false_ne_true] at HQ
      clear hcz h63z
      go_upto_region 21 with (go_at_call 63; go_loud (refine (qnext_any _ _ HC8.out.b.q).mono ?_; rw [HNZ.out]; rintro e wF ⟨rfl, hx⟩; have HCF := Lib.hid (HC8.out.ex hx); clear hx))
      have g0 := HCF.out.g.c 0 _ rfl
      have g1 := HCF.out.g.c 1 _ rfl
      have g2 := HCF.out.g.c 2 _ rfl
      have g3 := HCF.out.g.c 3 _ rfl
      have g4 := HCF.out.g.c 4 _ rfl
      have g5 := HCF.out.g.c 5 _ rfl
      have g6 := HCF.out.g.c 6 _ rfl
      have hbz : w1.heap.size ≤ wF.heap.size := Nat.le_trans HC3.out.only.size HCF.out.b.only.size
      have HVF := Lib.hid ((SlRe.weak HV3.out HC1.out.only.size).keepB (keepsB_re _) (KeepB.low HCF.out.b.only hrb))
      go_wp2_with (go_at_call 64; go_loud (refine (qunder_any (B := w1.heap.size) _ (RX.node 6 lo hi false false []) _ lA _ CR.mk0 HVF.out hbz (by have := HLEN.out; omega) (fun y hy => by have := HDEEP.out y hy; omega)).mono ?_; rintro e wz ⟨vz, rfl, hvz, hxz⟩; have HVZ := Lib.hid hvz.sl; have HCZ := Lib.hid (HCF.out.ex hxz); clear hvz hxz))
      go_ret
      exact ⟨_, _, _, rfl, HVZ.out, HCZ.out.b.q.blk, HC3.out.only.trans HCZ.out.b.only, by rw [HW.out]; exact HQ.out.mono (Nat.le_refl _) (show D + 1 + 1 ≤ D + 2 by omega) (Nat.le_refl _)⟩
  have hrt : RX.repTop s stA = none := by unfold RX.repTop; simp only [hcn]; simp only [if_neg h42, if_neg h43, if_neg h63, if_neg h123]
  have hrp : RX.repeatP s lA stA = (lA, stA) := by unfold RX.repeatP; rw [hrt]
  have HQ := Lib.hid (show QOut R st (K + 2) (D + 2) (N + 8) lA stA from by
    rw [HW.out, hrp]
    exact ⟨Nat.le_succ_of_le HLEN.out, fun x hx => ⟨(HDEEP.out x hx).1, by have := (HDEEP.out x hx).2; omega⟩, by omega, HOP.out, fun _ => ⟨rfl, rfl⟩, fun _ => ⟨rfl, rfl⟩⟩)
  have b42 : (cn == 42) = false := by simpa using h42
  have b43 : (cn == 43) = false := by simpa using h43
  have b63 : (cn == 63) = false := by simpa using h63
  have b123 : (cn == 123) = false := by simpa using h123
  clear hcn h42 h43 h63 h123
  clear hrt hrp
  go_wp2_with (go_at_call 63; go_loud (refine (qnext_any _ _ HC5.out.b.q).mono ?_; rw [HN.out]; rintro e w6 ⟨rfl, hx⟩; have HC6 := Lib.hid (HC5.out.ex hx); clear hx))
  go_ret
  exact ⟨_, _, _, rfl, (SlRe.weak HV3.out HC1.out.only.size |>.keepB (keepsB_re _) (KeepB.low HC6.out.b.only hrb)), HC6.out.b.q.blk, HC3.out.only.trans HC6.out.b.only, HQ.out⟩
end
end Go.Proofs.YtfblkahjefdmaaaGreat
