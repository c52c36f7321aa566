/- For ResynMadeS: what the texts XRfI XRfJ XRfK XRfL XRfM XRfN of wip/tpl say. -/
import Derived.Test.YtpcdknfmgacggaaN
set_option maxRecDepth 100000
set_option maxHeartbeats 4000000
namespace Go.Proofs.Ytpcdknfmgacggaa
open Go.RowKit
namespace RX
/-- What the document's atom reads: the row's ends, too. -/
def atomM (s : List Int) (alt : St → List ReN × St) (st : St) : List ReN × St :=
  if nxt s st 0 = 94 then ([node 3 0 0 false false []], st.bump 1)
  else if nxt s st 0 = 36 then ([node 4 0 0 false false []], st.bump 1)
  else atomP s alt st
theorem sort_more {c : Int} {l : List Int} (h : sortR c = some l) : l ≠ [] := by
  unfold sortR at h
  split at h
  · injection h with h; rw [← h]; simp
  split at h
  · injection h with h; rw [← h]; simp
  split at h
  · injection h with h; rw [← h]; simp
  · cases h
theorem escaped_behind {s : List Int} {st : St} {d : Int} (hd : nxt s (st.bump 1) 0 = d) : escaped s st = if (behindM d).2 = true ∧ (behindM d).1 = [] then ([], (st.bump 1).fail 5 (st.bump 1).at_) else ([node 2 0 0 false (behindM d).2 (behindM d).1], st.bump 2) := by
  unfold escaped behindM
  simp only [hd]
  rcases h1 : sortR d with _ | l
  · simp only
    rcases h2 : sortR (lower d) with _ | l
    · simp only
      rcases h3 : signR d with _ | x
      · simp
      · simp; rfl
    · have := sort_more h2
      simp [this]; rfl
  · simp; rfl
end RX
theorem QOut.one {x : RX.ReN} {st st2 : RX.St} {K : Nat} {D : Int} {n : Nat} (hx : x.deep = 0) (hop : st2.op = st.op) (hhi : st2.at_ ≤ n) (hD : 0 ≤ D) : QOut ([x], st2) st (K + 1) D n [x] st2 :=
  ⟨by simp, fun y hy => by simp at hy; subst hy; rw [hx]; exact ⟨Int.le_refl _, hD⟩, hhi, hop, fun _ => ⟨rfl, rfl⟩, fun _ => ⟨rfl, rfl⟩⟩
/-- One node, behind a fault. -/
theorem QOut.one_bad {R : List RX.ReN × RX.St} {x : RX.ReN} {st st2 : RX.St} {K : Nat} {D : Int} {n : Nat} (hx : x.deep = 0) (hop : st2.op = st.op) (hhi : st2.at_ ≤ n) (hD : 0 ≤ D) (h0 : R.2.ok = false) (h1 : st2.code = R.2.code) (h2 : st2.bat = R.2.bat) : QOut R st (K + 1) D n [x] st2 :=
  ⟨by simp, fun y hy => by simp at hy; subst hy; rw [hx]; exact ⟨Int.le_refl _, hD⟩, hhi, hop, (fun h => by rw [h0] at h; cases h), fun _ => ⟨h1, h2⟩⟩
theorem QOut.mono {R : List RX.ReN × RX.St} {st st2 : RX.St} {K K' : Nat} {D D' : Int} {N N' : Nat} {l : List RX.ReN} (h : QOut R st K D N l st2) (hK : K ≤ K') (hD : D ≤ D') (hN : N ≤ N') : QOut R st K' D' N' l st2 :=
  ⟨Nat.le_trans h.len hK, fun x hx => ⟨(h.deep x hx).1, Int.le_trans (h.deep x hx).2 hD⟩, Nat.le_trans h.hi hN, h.op, h.good, h.bad⟩
section
variable {w0 : World} {rb : Nat} {sv : Value} {s : List Int}
theorem qatom_any (n : Nat) (alt : RX.St → List RX.ReN × RX.St) {K : Nat} {D : Int} {N : Nat} (HA : ∀ m, n = m + 1 → AltQ w0 rb sv s m alt K D N) (hK : K ≤ 10000) (hD : 0 ≤ D ∧ D ≤ 100) (hN : s.length + 4 ≤ N ∧ N ≤ 1000)
    (w1 : World) (st : RX.St) (he : Qn w0 rb sv s w1 st) (hok : st.ok = true) (ha : st.at_ < s.length) (h9 : st.caps ≤ 9) (hop : st.op + n = 12) :
    Calls Try.prog 44 #[.pointer (some ⟨rb, 0, none⟩)] w1 (QP rb sv w1 (RX.atomM s alt st) st (K + 1) (D + 1) (N + 1)) := by
  have hl60 := he.len
  have HC1 := Lib.hid (show Qb w0 rb sv s w1 st w1 from ⟨he, Only.refl _ _⟩)
  have hrb := he.rbl
  have HOK := Lib.hid hok
  have HGR := Lib.hid (fun w h => qgroup_any n alt HA hK hD hN w st h hok ha h9 hop)
  have HCL := Lib.hid (fun w h => qclass_any (w0 := w0) (rb := rb) (sv := sv) (s := s) w st h hok ha h9)
  have HBE := Lib.hid (fun w h => qbehind_any (w0 := w0) (rb := rb) (sv := sv) (s := s) w st h (by omega))
  obtain ⟨c, hc⟩ : ∃ x, RX.nxt s st 0 = x := ⟨_, rfl⟩
  have HN := Lib.hid hc
  obtain ⟨R, hR⟩ : ∃ x, RX.atomM s alt st = x := ⟨_, rfl⟩
  have hRR : R = if c = 94 then ([RX.node 3 0 0 false false []], st.bump 1) else if c = 36 then ([RX.node 4 0 0 false false []], st.bump 1)
      else if c = 42 ∨ c = 43 ∨ c = 63 ∨ c = 123 then ([], st.fail 5 st.at_) else if c = 40 then RX.groupP s alt st else if c = 91 then RX.classP s (st.bump 1) else if c = 92 then RX.escaped s st
      else if c = 46 then ([RX.node 2 0 0 false true [10, 10]], st.bump 1) else ([RX.node 2 0 0 false false [c, c]], st.bump 1) := by
    rw [← hR, ← hc]; rfl
  rw [hR]
  have c1 := he.blk.c1
  have hb1 : (st.bump 1).at_ ≤ 100 := by show st.at_ + 1 ≤ 100; omega
  have hla : st.at_ + 1 ≤ N + 1 := by omega
  clear he hok hc hR HA hop
  go_enter Try.func44, Try.ntmps44
  go_wp2_with fail
  go_region_held3 (fun w' => w'.cell? ⟨rb, 1, none⟩ = some (.int .i64 (st.at_ : Int))) (first | go_keep | assumption)
    (first | (go_at_call 37; go_loud (refine (qnext_any _ st (HC1.out.ex (by first | exact (Ext.refl _).drewN _ | exact Ext.refl _ | exact (Ext.refl _).drew)).q).mono ?_); go_loud (rw [HN.out]; rintro e w2 ⟨rfl, hx⟩; have hx2 := Ext.trans (show Ext w1 _ from (by first | exact (Ext.refl _).drewN _ | exact Ext.refl _ | exact (Ext.refl _).drew)) hx; have HC2 := Lib.hid (HC1.out.ex hx2); have c1 := HC2.out.q.blk.c1; clear hx hx2)))
  clear c1
  by_cases h94 : c = 94
  · rw [if_pos h94] at hRR
    subst hRR
    have b94 : (c == 94) = true := by simpa using h94
    clear h94
    have c1 := HC2.out.q.blk.c1
    have f1 := HC2.out.q.blk.fr 1
    go_upto_region 4 with fail
    have HC3 := Lib.hid HC2.out.bump1
    generalize w2.setCell _ _ = w3 at HC3 ⊢
    clear c1 f1
    go_wp2_with fail
    go_ret
    exact ⟨_, _, _, rfl, (reQ_lit rfl HC3.out.only.size CR.mk0).sl, (HC3.out.ex ((Ext.refl _).alloc _)).q.blk, (HC3.out.ex ((Ext.refl _).alloc _)).only, QOut.one rfl rfl hla (show (0 : Int) ≤ D + 1 by omega)⟩
  by_cases h36 : c = 36
  · rw [if_neg h94, if_pos h36] at hRR
    subst hRR
    have b94 : (c == 94) = false := by simpa using h94
    have b36 : (c == 36) = true := by simpa using h36
    clear h94 h36
    have c1 := HC2.out.q.blk.c1
    have f1 := HC2.out.q.blk.fr 1
    go_upto_region 7 with fail
    have HC3 := Lib.hid HC2.out.bump1
    generalize w2.setCell _ _ = w3 at HC3 ⊢
    clear c1 f1
    go_wp2_with fail
    go_ret
    exact ⟨_, _, _, rfl, (reQ_lit rfl HC3.out.only.size CR.mk0).sl, (HC3.out.ex ((Ext.refl _).alloc _)).q.blk, (HC3.out.ex ((Ext.refl _).alloc _)).only, QOut.one rfl rfl hla (show (0 : Int) ≤ D + 1 by omega)⟩
  by_cases h46 : c = 46
  · rw [if_neg h94, if_neg h36, if_neg (by omega), if_neg (by omega), if_neg (by omega), if_neg (by omega), if_pos h46] at hRR
    subst hRR
    have b94 : (c == 94) = false := by simpa using h94
    have b36 : (c == 36) = false := by simpa using h36
    have b46 : (c == 46) = true := by simpa using h46
    clear h94 h36 h46
    have c1 := HC2.out.q.blk.c1
    have f1 := HC2.out.q.blk.fr 1
    go_upto_region 10 with fail
    have HC3 := Lib.hid HC2.out.bump1
    generalize w2.setCell _ _ = w3 at HC3 ⊢
    clear c1 f1
    go_wp2_with (go_at_call 50; go_loud (refine (qset_any w1.heap.size true _ _ _ (c_lit w3 [10, 10] _ _ rfl rfl HC3.out.only.size (by simp)) (by have := HC3.out.only.size; simp; omega)).mono ?_; rintro e wz ⟨vz, rfl, hvz, hxz⟩; have HVZ := Lib.hid hvz; have HCZ := Lib.hid (HC3.out.ex (((Ext.refl w3).alloc _).trans hxz)); clear hvz hxz))
    go_ret
    exact ⟨_, _, _, rfl, HVZ.out, HCZ.out.q.blk, HCZ.out.only, QOut.one rfl rfl hla (show (0 : Int) ≤ D + 1 by omega)⟩
  by_cases h40 : c = 40
  · rw [if_neg h94, if_neg h36, if_neg (by omega), if_pos h40] at hRR
    subst hRR
    have b94 : (c == 94) = false := by simpa using h94
    have b36 : (c == 36) = false := by simpa using h36
    have b46 : (c == 46) = false := by simpa using h46
    have b40 : (c == 40) = true := by simpa using h40
    clear h94 h36 h46 h40
    go_wp2_with (go_at_call 51; go_loud (refine (HGR.out _ HC2.out.q).mono ?_; rintro e w3 ⟨l5, v5, st5, rfl, hv, hq, ho, hout⟩; have HC3 := Lib.hid (HC2.out.call ho hq); have HV := Lib.hid (SlRe.weak hv HC2.out.only.size); have HO := Lib.hid hout; obtain ⟨Av, cv, rfl, -⟩ := hv.form; clear hv hq ho hout))
    go_ret
    exact ⟨_, _, _, rfl, HV.out, HC3.out.q.blk, HC3.out.only, HO.out⟩
  by_cases h91 : c = 91
  · rw [if_neg h94, if_neg h36, if_neg (by omega), if_neg h40, if_pos h91] at hRR
    subst hRR
    have b94 : (c == 94) = false := by simpa using h94
    have b36 : (c == 36) = false := by simpa using h36
    have b46 : (c == 46) = false := by simpa using h46
    have b40 : (c == 40) = false := by simpa using h40
    have b91 : (c == 91) = true := by simpa using h91
    clear h94 h36 h46 h40 h91
    go_wp2_with (go_at_call 52; go_loud (refine (HCL.out _ HC2.out.q).mono ?_; rintro e w3 ⟨l5, v5, st5, rfl, hv, hq, ho, hout⟩; have HC3 := Lib.hid (HC2.out.call ho hq); have HV := Lib.hid (SlRe.weak hv HC2.out.only.size); have HO := Lib.hid hout; obtain ⟨Av, cv, rfl, -⟩ := hv.form; clear hv hq ho hout))
    go_ret
    exact ⟨_, _, _, rfl, HV.out, HC3.out.q.blk, HC3.out.only, HO.out.mono (by omega) (by omega) (by omega)⟩
  by_cases h92 : c = 92
  · rw [if_neg h94, if_neg h36, if_neg (by omega), if_neg h40, if_neg h91, if_pos h92] at hRR
    obtain ⟨d, hd⟩ : ∃ x, RX.nxt s (st.bump 1) 0 = x := ⟨_, rfl⟩
    rw [RX.escaped_behind hd] at hRR
    rw [hd] at HBE
    obtain ⟨bm, hbm⟩ : ∃ x, RX.behindM d = x := ⟨_, rfl⟩
    rw [hbm] at hRR
    have HBM := Lib.hid hbm
    obtain ⟨l, b⟩ := bm
    have b94 : (c == 94) = false := by simpa using h94
    have b36 : (c == 36) = false := by simpa using h36
    have b46 : (c == 46) = false := by simpa using h46
    have b40 : (c == 40) = false := by simpa using h40
    have b91 : (c == 91) = false := by simpa using h91
    have b92 : (c == 92) = true := by simpa using h92
    clear h94 h36 h46 h40 h91 h92 hbm hd
    have hl2 : st.at_ + 2 ≤ N + 1 := by omega
    rcases b with _ | _
    · rw [if_neg (fun h => by cases h.1)] at hRR
      subst hRR
      go_wp2_with (first
        | (go_at_call 53; go_loud (refine (HBE.out _ HC2.out.q).mono ?_; rintro e w3 ⟨v, rfl, hv, hq, ho⟩; rw [HBM.out] at hv ⊢; have HC3 := Lib.hid (HC2.out.call ho hq); have HV3 := Lib.hid (SlB.weaken hv HC2.out.only.size); obtain ⟨Av, cv, rfl, -⟩ := hv.form; clear hv hq ho))
        | (go_at_call 50; go_loud (refine (qset_any w1.heap.size false _ _ _ HV3.out HC3.out.only.size).mono ?_; rintro e wz ⟨vz, rfl, hvz, hxz⟩; have HVZ := Lib.hid hvz; have HCZ := Lib.hid (HC3.out.ex hxz); clear hvz hxz)))
      go_ret
      exact ⟨_, _, _, rfl, HVZ.out, HCZ.out.q.blk, HCZ.out.only, QOut.one rfl rfl hl2 (show (0 : Int) ≤ D + 1 by omega)⟩
    rcases l with _ | ⟨x, r⟩
    · rw [if_pos ⟨rfl, rfl⟩] at hRR
      subst hRR
      go_wp2_with (first
        | (go_at_call 53; go_loud (refine (HBE.out _ HC2.out.q).mono ?_; rintro e w3 ⟨v, rfl, hv, hq, ho⟩; rw [HBM.out] at hv ⊢; have HC3 := Lib.hid (HC2.out.call ho hq); have HV3 := Lib.hid (SlB.weaken hv HC2.out.only.size); obtain ⟨Av, cv, rfl, -⟩ := hv.form; clear hv hq ho))
        | (go_at_call 29; go_loud (refine (qbad_any _ _ 5 ((st.at_ : Int) + 1) HC3.out.q).mono ?_; rintro e w4 ⟨rfl, hq, ho⟩; have HC4 := Lib.hid (HC3.out.call ho hq); have HV4 := Lib.hid (HV3.out.keepB (keepsB_c _) (KeepB.low ho hrb)); clear hq ho))
        | (go_at_call 50; go_loud (refine (qset_any w1.heap.size true _ _ _ HV4.out HC4.out.only.size).mono ?_; rintro e wz ⟨vz, rfl, hvz, hxz⟩; have HVZ := Lib.hid hvz; have HCZ := Lib.hid (HC4.out.ex hxz); clear hvz hxz)))
      go_ret
      have hf := RX.fail_eq (a := st.bump 2) (b := st.bump 1) (c := 5) (x := (st.at_ : Int) + 1) rfl rfl
      exact ⟨_, _, _, rfl, HVZ.out, HCZ.out.q.blk, HCZ.out.only, QOut.one_bad rfl (by rw [RX.failop]; rfl) (by rw [RX.failat]; exact hl2) (show (0 : Int) ≤ D + 1 by omega) (RX.St.fail_ok _ (by decide)) hf.1 hf.2⟩
    · rw [if_neg (fun h => by cases h.2)] at hRR
      have d0 : ((((x :: r).length : Nat) : Int) == 0) = false := by simp; omega
      generalize x :: r = l at HBM d0 hRR
      subst hRR
      go_wp2_with (first
        | (go_at_call 53; go_loud (refine (HBE.out _ HC2.out.q).mono ?_; rintro e w3 ⟨v, rfl, hv, hq, ho⟩; rw [HBM.out] at hv ⊢; have HC3 := Lib.hid (HC2.out.call ho hq); have HV3 := Lib.hid (SlB.weaken hv HC2.out.only.size); obtain ⟨Av, cv, rfl, -⟩ := hv.form; clear hv hq ho))
        | (go_at_call 50; go_loud (refine (qset_any w1.heap.size true _ _ _ HV3.out HC3.out.only.size).mono ?_; rintro e wz ⟨vz, rfl, hvz, hxz⟩; have HVZ := Lib.hid hvz; have HCZ := Lib.hid (HC3.out.ex hxz); clear hvz hxz)))
      go_ret
      exact ⟨_, _, _, rfl, HVZ.out, HCZ.out.q.blk, HCZ.out.only, QOut.one rfl rfl hl2 (show (0 : Int) ≤ D + 1 by omega)⟩
  have b94 : (c == 94) = false := by simpa using h94
  have b36 : (c == 36) = false := by simpa using h36
  have b46 : (c == 46) = false := by simpa using h46
  have b40 : (c == 40) = false := by simpa using h40
  have b91 : (c == 91) = false := by simpa using h91
  have b92 : (c == 92) = false := by simpa using h92
  by_cases hx : c = 42 ∨ c = 43 ∨ c = 63 ∨ c = 123
  · rw [if_neg h94, if_neg h36, if_pos hx] at hRR
    subst hRR
    have HX := Lib.hid (show decide (c = 42 ∨ c = 43 ∨ c = 63 ∨ c = 123) = true from decide_eq_true hx)
    clear h94 h36 h46 h40 h91 h92 hx
    go_upto_region 22 with (first
      | (go_at_call 54; go_loud (refine (hasq_any c _).mono ?_; rw [HX.out]; rintro e w3 ⟨rfl, hx⟩; have HC3 := Lib.hid (HC2.out.ex hx); clear hx))
      | (go_at_call 29; go_loud (refine (qbad_any _ _ 5 (st.at_ : Int) HC3.out.q).mono ?_; rintro e w4 ⟨rfl, hq, ho⟩; have HC4 := Lib.hid (HC3.out.call ho hq); clear hq ho)))
    have h7a : (st.fail 5 (st.at_ : Int)).at_ ≤ 100 := by rw [RX.failat]; omega
    have c1 := HC4.out.q.blk.c1
    have f1 := HC4.out.q.blk.fr 1
    go_upto_region 23 with fail
    have HC5 := Lib.hid HC4.out.bump1
    generalize w4.setCell _ _ = w5 at HC5 ⊢
    clear c1 f1
    go_wp2_with (go_at_call 50; go_loud (refine (qset_any w1.heap.size false _ _ _ (c_lit w5 [c, c] _ _ rfl rfl HC5.out.only.size (by simp)) (by have := HC5.out.only.size; simp; omega)).mono ?_; rintro e wz ⟨vz, rfl, hvz, hxz⟩; have HVZ := Lib.hid hvz; have HCZ := Lib.hid (HC5.out.ex (((Ext.refl w5).alloc _).trans hxz)); clear hvz hxz))
    go_ret
    exact ⟨_, _, _, rfl, HVZ.out, HCZ.out.q.blk, HCZ.out.only, QOut.one_bad rfl (RX.failop _ _ _) (by show (st.fail 5 (st.at_ : Int)).at_ + 1 ≤ N + 1; rw [RX.failat]; exact hla) (show (0 : Int) ≤ D + 1 by omega) (RX.St.fail_ok _ (by decide)) rfl rfl⟩
  rw [if_neg h94, if_neg h36, if_neg hx, if_neg h40, if_neg h91, if_neg h92, if_neg h46] at hRR
  subst hRR
  have HX := Lib.hid (show decide (c = 42 ∨ c = 43 ∨ c = 63 ∨ c = 123) = false from decide_eq_false hx)
  clear h94 h36 h46 h40 h91 h92 hx
  go_upto_region 22 with (go_at_call 54; go_loud (refine (hasq_any c _).mono ?_; rw [HX.out]; rintro e w3 ⟨rfl, hx⟩; have HC3 := Lib.hid (HC2.out.ex hx); clear hx))
  have c1 := HC3.out.q.blk.c1
  have f1 := HC3.out.q.blk.fr 1
  go_upto_region 23 with fail
  have HC5 := Lib.hid HC3.out.bump1
  generalize w3.setCell _ _ = w5 at HC5 ⊢
  clear c1 f1
  go_wp2_with (go_at_call 50; go_loud (refine (qset_any w1.heap.size false _ _ _ (c_lit w5 [c, c] _ _ rfl rfl HC5.out.only.size (by simp)) (by have := HC5.out.only.size; simp; omega)).mono ?_; rintro e wz ⟨vz, rfl, hvz, hxz⟩; have HVZ := Lib.hid hvz; have HCZ := Lib.hid (HC5.out.ex (((Ext.refl w5).alloc _).trans hxz)); clear hvz hxz))
  go_ret
  exact ⟨_, _, _, rfl, HVZ.out, HCZ.out.q.blk, HCZ.out.only, QOut.one rfl rfl hla (show (0 : Int) ≤ D + 1 by omega)⟩
end
namespace RX
section
variable {s : List Int} {alt : St → List ReN × St} {st : St}
theorem groupP_head (h : (groupP s alt st).2.ok = true) : ∃ k r, (groupP s alt st).1 = node 5 k 0 false false [] :: r := by
  unfold groupP at h ⊢
  split at h
  · rw [St.fail_ok _ (by decide)] at h; cases h
  rename_i h1
  rw [if_neg h1]
  split at h
  · rename_i h2; rw [if_pos h2]; exact ⟨_, _, rfl⟩
  rename_i h2
  rw [if_neg h2]
  split at h
  · rw [St.fail_ok _ (by decide)] at h; cases h
  rename_i h3
  rw [if_neg h3]
  split at h
  · rw [St.fail_ok _ (by decide)] at h; cases h
  rename_i h4
  rw [if_neg h4]
  exact ⟨_, _, rfl⟩
theorem atomP_head (h : (atomP s alt st).2.ok = true) : ∃ x r, (atomP s alt st).1 = x :: r ∧ x.kind ≠ 3 ∧ x.kind ≠ 4 := by
  unfold atomP at h ⊢
  simp only at h ⊢
  split at h
  · rw [St.fail_ok _ (by decide)] at h; cases h
  rename_i h1
  rw [if_neg h1]
  split at h
  · rename_i h2
    rw [if_pos h2]
    obtain ⟨k, r, e⟩ := groupP_head h
    exact ⟨_, r, e, by show (5 : Int) ≠ 3; decide, by show (5 : Int) ≠ 4; decide⟩
  rename_i h2
  rw [if_neg h2]
  split at h
  · rename_i h3; rw [if_pos h3]; exact ⟨_, _, rfl, by show (2 : Int) ≠ 3; decide, by show (2 : Int) ≠ 4; decide⟩
  rename_i h3
  rw [if_neg h3]
  split at h
  · rename_i h4
    rw [if_pos h4]
    rw [escaped_behind rfl] at h ⊢
    split at h
    · rw [St.fail_ok _ (by decide)] at h; cases h
    · rename_i h5; rw [if_neg h5]; exact ⟨_, _, rfl, by show (2 : Int) ≠ 3; decide, by show (2 : Int) ≠ 4; decide⟩
  rename_i h4
  rw [if_neg h4]
  split at h
  · rename_i h5; rw [if_pos h5]; exact ⟨_, _, rfl, by show (2 : Int) ≠ 3; decide, by show (2 : Int) ≠ 4; decide⟩
  · rename_i h5; rw [if_neg h5]; exact ⟨_, _, rfl, by show (2 : Int) ≠ 3; decide, by show (2 : Int) ≠ 4; decide⟩
theorem item_bad (hok : st.ok = true) (h : (atomM s alt st).2.ok = false) : itemP s alt st = ([], (atomM s alt st).2) := by
  unfold atomM at h ⊢
  unfold itemP
  simp only
  split at h
  · have h : st.ok = false := h; rw [hok] at h; cases h
  rename_i h1
  split at h
  · have h : st.ok = false := h; rw [hok] at h; cases h
  rename_i h2
  simp only [if_neg h1, if_neg h2]
  rw [if_neg (by rw [h]; simp)]
theorem item_good (h : (atomM s alt st).2.ok = true) : ∃ x r, (atomM s alt st).1 = x :: r ∧ (((x.kind = 3 ∨ x.kind = 4) ∧ itemP s alt st = atomM s alt st) ∨ (x.kind ≠ 3 ∧ x.kind ≠ 4 ∧ itemP s alt st = repeatP s (atomM s alt st).1 (atomM s alt st).2)) := by
  unfold atomM at h ⊢
  unfold itemP
  simp only
  split at h
  · rename_i h1; simp only [if_pos h1]; exact ⟨_, _, rfl, .inl ⟨.inl rfl, trivial⟩⟩
  rename_i h1
  split at h
  · rename_i h2; simp only [if_neg h1, if_pos h2]; exact ⟨_, _, rfl, .inl ⟨.inr rfl, trivial⟩⟩
  rename_i h2
  simp only [if_neg h1, if_neg h2]
  obtain ⟨x, r, e, h3, h4⟩ := atomP_head h
  exact ⟨x, r, e, .inr ⟨h3, h4, by rw [if_pos h]⟩⟩
end
end RX
/-- Behind a repeat. -/
theorem QOut.rep {s : List Int} {st stA st1 stT : RX.St} {lo hi : Int} {lA : List RX.ReN} {K : Nat} {D : Int} {N : Nat} (hr : RX.repTop s stA = some (lo, hi, st1)) (hlen : lA.length ≤ K) (hdeep : ∀ x ∈ lA, 0 ≤ x.deep ∧ x.deep ≤ D) (hD : 0 ≤ D) (hop : stT.op = st.op) (hat : stT.at_ + 1 ≤ N)
    (h1 : st1.ok = true → stT = st1) (h2 : st1.ok = false → stT.code = st1.code ∧ stT.bat = st1.bat) {lz : Bool} (hlz : decide (RX.nxt s stT 0 = 63) = lz) :
    QOut (RX.repeatP s lA stA) st (K + 1) (D + 1) N (RX.node 6 lo hi lz false [] :: lA.map RX.ReN.down) (if lz = true then stT.bump 1 else stT) := by
  have e : RX.repeatP s lA stA = (RX.under (RX.node 6 lo hi (st1.ok && decide (RX.nxt s st1 0 = 63)) false []) [lA], if (st1.ok && decide (RX.nxt s st1 0 = 63)) then st1.bump 1 else st1) := by unfold RX.repeatP; rw [hr]
  rw [e]
  refine ⟨by simp; exact hlen, ?_, ?_, ?_, ?_, ?_⟩
  · intro x hx
    rcases List.mem_cons.1 hx with rfl | hx
    · exact ⟨Int.le_refl _, by show (0 : Int) ≤ D + 1; omega⟩
    · obtain ⟨y, hy, rfl⟩ := List.mem_map.1 hx
      have := hdeep y hy
      exact ⟨by show 0 ≤ y.deep + 1; omega, by show y.deep + 1 ≤ D + 1; omega⟩
  · split
    · exact hat
    · omega
  · split <;> exact hop
  · intro hk
    have hk1 : st1.ok = true := by
      rcases hs : st1.ok with _ | _
      · simp only [hs, Bool.false_and, if_neg Bool.false_ne_true] at hk
        cases hk
      · rfl
    have := h1 hk1
    subst this
    rw [hk1, Bool.true_and, hlz, RX.under_one]
    exact ⟨rfl, rfl⟩
  · intro hk
    have hk1 : st1.ok = false := by
      rcases hs : st1.ok with _ | _
      · rfl
      · exfalso
        revert hk
        dsimp only
        split
        · intro hk; have hk : st1.ok = false := hk; rw [hs] at hk; cases hk
        · intro hk; rw [hs] at hk; cases hk
    obtain ⟨h3, h4⟩ := h2 hk1
    rw [hk1]
    simp only [Bool.false_and, if_neg Bool.false_ne_true]
    split
    · exact ⟨h3, h4⟩
    · exact ⟨h3, h4⟩
section
variable {w0 : World} {rb : Nat} {sv : Value} {s : List Int}
theorem qitem_any (n : Nat) (alt : RX.St → List RX.ReN × RX.St) {K : Nat} {D : Int} {N : Nat} (HA : ∀ m, n = m + 1 → AltQ w0 rb sv s m alt K D N) (hK : K ≤ 10000) (hD : 0 ≤ D ∧ D ≤ 100) (hN : s.length + 4 ≤ N ∧ N ≤ 400)
    (w1 : World) (st : RX.St) (he : Qn w0 rb sv s w1 st) (hok : st.ok = true) (ha : st.at_ < s.length) (h9 : st.caps ≤ 9) (hop : st.op + n = 12) :
    Calls Try.prog 41 #[.pointer (some ⟨rb, 0, none⟩)] w1 (QP rb sv w1 (RX.itemP s alt st) st (K + 2) (D + 2) (N + 8)) := by
  have HC1 := Lib.hid (show Qb w0 rb sv s w1 st w1 from ⟨he, Only.refl _ _⟩)
  have hrb := he.rbl
  have HOK := Lib.hid hok
  have HAT := Lib.hid (fun w h => qatom_any n alt HA hK hD ⟨hN.1, by omega⟩ w st h hok ha h9 hop)
  obtain ⟨R, hR⟩ : ∃ x, RX.itemP s alt st = x := ⟨_, rfl⟩
  have HR := Lib.hid hR
  rw [hR]
  clear he hok hR HA hop
  go_enter Try.func41, Try.ntmps41
  go_upto_region 2 with (go_at_call 44; go_loud (refine (HAT.out _ HC1.out.q).mono ?_; rintro e w3 ⟨lA, vA, stA, rfl, hv, hq, ho, hout⟩; have HC3 := Lib.hid (HC1.out.call ho hq); have HD3 := Lib.hid (show Qb w0 rb sv s w3 stA w3 from ⟨HC3.out.q, Only.refl _ _⟩); have HV3 := Lib.hid hv; have HO3 := Lib.hid hout; obtain ⟨AA, cA, rfl, -⟩ := hv.form; clear hv hq ho hout))
  have haA : stA.at_ ≤ N + 1 := HO3.out.hi
  have hnn : RX.atomM s alt st = RX.atomM s alt st := rfl
  rcases hkA : stA.ok with _ | _
  · have HKA := Lib.hid hkA
    have hb : (RX.atomM s alt st).2.ok = false := by rw [← HO3.out.ok]; exact hkA
    have he := HR.out.symm.trans (RX.item_bad HOK.out hb)
    have hcb := HO3.out.bad hb
    have HQ := Lib.hid (show QOut R st (K + 2) (D + 2) (N + 8) lA stA from by
      rw [he]
      exact ⟨Nat.le_succ_of_le HO3.out.len, fun x hx => ⟨(HO3.out.deep x hx).1, by have := (HO3.out.deep x hx).2; omega⟩, by omega, HO3.out.op, (fun h => by rw [hb] at h; cases h), fun _ => hcb⟩)
    clear hb he hcb hkA hnn
    go_wp2_with (go_at_call 28; go_loud (refine (qok_any _ _ HD3.out.q).mono ?_; rw [HKA.out]; rintro e w4 ⟨rfl, hx⟩; have HD4 := Lib.hid (HD3.out.ex hx); clear hx))
    go_ret
    exact ⟨_, _, _, rfl, (SlRe.weak HV3.out HC1.out.only.size |>.keepB (keepsB_re _) (KeepB.low HD4.out.only hrb)), HD4.out.q.blk, HC3.out.only.trans HD4.out.only, HQ.out⟩
  have HKA := Lib.hid hkA
  have hb : (RX.atomM s alt st).2.ok = true := by rw [← HO3.out.ok]; exact hkA
  obtain ⟨e1, e2⟩ := HO3.out.good hb
  obtain ⟨x, r, hx, hw⟩ := RX.item_good hb
  have hx2 : lA = x :: r := e1.trans hx
  have HLEN := Lib.hid HO3.out.len
  have HDEEP := Lib.hid HO3.out.deep
  have HOP := Lib.hid HO3.out.op
  rw [← e1, ← e2, HR.out] at hw
  have h0 : 0 < lA.length := by rw [hx2]; exact Nat.succ_pos _
  have h0i : (0 : Int) < (lA.length : Int) := by omega
  obtain ⟨g, oo, cs, rfl, hcr0, hcell0⟩ := HV3.out.at_ h0
  have hy : lA[0] = x := by simp [hx2]
  rw [hy] at hcr0
  obtain ⟨Ax, cx, rfl⟩ := hcr0.cells
  have c0 := hcell0 0 _ rfl
  rw [Nat.add_zero] at c0
  have HRR := Lib.hid (show lA = (RX.atomM s alt st).1 ∧ stA = (RX.atomM s alt st).2 from ⟨e1, e2⟩)
  clear hb hkA hnn e1 hx hx2 hy hcr0 hcell0
  rcases hw with ⟨hk, hw⟩ | ⟨hk3, hk4, hw⟩
  · have HQ := Lib.hid (show QOut R st (K + 2) (D + 2) (N + 8) lA stA from by
      rw [hw]
      exact HO3.out.mono (by omega) (by omega) (by omega))
    clear hw e2 HO3
    rcases hk with hk | hk
    · have b3 : (x.kind == 3) = true := by rw [hk]; rfl
      clear hk
      go_wp2_with (go_at_call 28; go_loud (refine (qok_any _ _ HD3.out.q).mono ?_; rw [HKA.out]; rintro e w4 ⟨rfl, hx⟩; have HD4 := Lib.hid (HD3.out.ex hx); replace c0 := hx.cell c0; clear hx))
      go_ret
      exact ⟨_, _, _, rfl, (SlRe.weak HV3.out HC1.out.only.size |>.keepB (keepsB_re _) (KeepB.low HD4.out.only hrb)), HD4.out.q.blk, HC3.out.only.trans HD4.out.only, HQ.out⟩
    · have b3 : (x.kind == 3) = false := by rw [hk]; rfl
      have b4 : (x.kind == 4) = true := by rw [hk]; rfl
      clear hk
      go_wp2_with (go_at_call 28; go_loud (refine (qok_any _ _ HD3.out.q).mono ?_; rw [HKA.out]; rintro e w4 ⟨rfl, hx⟩; have HD4 := Lib.hid (HD3.out.ex hx); replace c0 := hx.cell c0; clear hx))
      go_ret
      exact ⟨_, _, _, rfl, (SlRe.weak HV3.out HC1.out.only.size |>.keepB (keepsB_re _) (KeepB.low HD4.out.only hrb)), HD4.out.q.blk, HC3.out.only.trans HD4.out.only, HQ.out⟩
  have b3 : (x.kind == 3) = false := by simpa using hk3
  have b4 : (x.kind == 4) = false := by simpa using hk4
  have HW := Lib.hid hw
  clear hk3 hk4 hw e2 HO3
  go_upto_region 5 with (go_at_call 28; go_loud (refine (qok_any _ _ HD3.out.q).mono ?_; rw [HKA.out]; rintro e w4 ⟨rfl, hx⟩; have HD4 := Lib.hid (HD3.out.ex hx); replace c0 := hx.cell c0; clear hx))
  have HC5 := Lib.hid (Qg.start (k := 6) HD4.out HC3.out.q.rbl)
  generalize w4.heap.size = gb at HC5 ⊢
  generalize w4.alloc _ = w5 at HC5 ⊢
  clear c0 b3 b4 h0 h0i
  obtain ⟨cn, hcn⟩ : ∃ x, RX.nxt s stA 0 = x := ⟨_, rfl⟩
  have HN := Lib.hid hcn
  have hgA : stA.at_ ≤ 401 := by omega
  by_cases h42 : cn = 42
  · have hrt : RX.repTop s stA = some (0, (-1), stA.bump 1) := by unfold RX.repTop; simp only [hcn]; simp only [h42]; rfl
    have hTa : (stA.bump 1).at_ ≤ 402 := by show stA.at_ + 1 ≤ 402; omega
    have HREP := Lib.hid (fun (lz : Bool) hlz => QOut.rep (lz := lz) (K := K + 1) (D := D + 1) (N := N + 8) hrt HLEN.out HDEEP.out (by omega) (show (stA.bump 1).op = st.op from HOP.out) (show stA.at_ + 2 ≤ N + 8 by omega) (fun _ => rfl) (fun _ => ⟨rfl, rfl⟩) hlz)
    have b42 : (cn == 42) = true := by simpa using h42
    clear hcn h42
    clear hrt
    go_upto_region 8 with (go_at_call 37; go_loud (refine (qnext_any _ _ HC5.out.b.q).mono ?_; rw [HN.out]; rintro e w6 ⟨rfl, hx⟩; have HC6 := Lib.hid (HC5.out.ex hx); clear hx))
    have fg3 := HC6.out.g.fr 3
    have cg3 := HC6.out.g.c 3 _ rfl
    go_upto_region 9 with fail
    have HC7 := Lib.hid (HC6.out.set (HC6.out.g.hi_ (hi' := (-1))))
    generalize w6.setCell _ _ = w7 at HC7 ⊢
    clear fg3 cg3
    have c1 := HC7.out.b.q.blk.c1
    have f1 := HC7.out.b.q.blk.fr 1
    go_upto_region 18 with fail
    have HC8 := Lib.hid HC7.out.bump1
    generalize w7.setCell _ _ = w8 at HC8 ⊢
    clear c1 f1
    obtain ⟨cz, hcz⟩ : ∃ x, RX.nxt s (stA.bump 1) 0 = x := ⟨_, rfl⟩
    have HNZ := Lib.hid hcz
    by_cases h63z : cz = 63
    · have bz : (cz == 63) = true := by simpa using h63z
      have HQ := Lib.hid (HREP.out true (show decide (RX.nxt s (stA.bump 1) 0 = 63) = true from decide_eq_true (hcz.trans h63z)))
      rw [if_pos rfl] at HQ
      clear hcz h63z
      go_upto_region 19 with (go_at_call 37; go_loud (refine (qnext_any _ _ HC8.out.b.q).mono ?_; rw [HNZ.out]; rintro e wX ⟨rfl, hx⟩; have HCX := Lib.hid (HC8.out.ex hx); clear hx))
      have fg := HCX.out.g.fr 4
      have cg := HCX.out.g.c 4 _ rfl
      go_upto_region 20 with fail
      have HCY := Lib.hid (HCX.out.set HCX.out.g.lz_)
      generalize wX.setCell _ _ = wY at HCY ⊢
      clear fg cg
      have c1 := HCY.out.b.q.blk.c1
      have f1 := HCY.out.b.q.blk.fr 1
      go_upto_region 21 with fail
      have HCF := Lib.hid HCY.out.bump1
      generalize wY.setCell _ _ = wF at HCF ⊢
      clear c1 f1
      have g0 := HCF.out.g.c 0 _ rfl
      have g1 := HCF.out.g.c 1 _ rfl
      have g2 := HCF.out.g.c 2 _ rfl
      have g3 := HCF.out.g.c 3 _ rfl
      have g4 := HCF.out.g.c 4 _ rfl
      have g5 := HCF.out.g.c 5 _ rfl
      have g6 := HCF.out.g.c 6 _ rfl
      have hbz : w1.heap.size ≤ wF.heap.size := Nat.le_trans HC3.out.only.size HCF.out.b.only.size
      have HVF := Lib.hid ((SlRe.weak HV3.out HC1.out.only.size).keepB (keepsB_re _) (KeepB.low HCF.out.b.only hrb))
      go_wp2_with (go_at_call 38; go_loud (refine (qunder_any (B := w1.heap.size) _ (RX.node 6 0 (-1) true false []) _ lA _ CR.mk0 HVF.out hbz (by have := HLEN.out; omega) (fun y hy => by have := HDEEP.out y hy; omega)).mono ?_; rintro e wz ⟨vz, rfl, hvz, hxz⟩; have HVZ := Lib.hid hvz.sl; have HCZ := Lib.hid (HCF.out.ex hxz); clear hvz hxz))
      go_ret
      exact ⟨_, _, _, rfl, HVZ.out, HCZ.out.b.q.blk, HC3.out.only.trans HCZ.out.b.only, by rw [HW.out]; exact HQ.out.mono (Nat.le_refl _) (show D + 1 + 1 ≤ D + 2 by omega) (Nat.le_refl _)⟩
    · have bz : (cz == 63) = false := by simpa using h63z
      have HQ := Lib.hid (HREP.out false (show decide (RX.nxt s (stA.bump 1) 0 = 63) = false from decide_eq_false (fun h => h63z (hcz.symm.trans h))))
      rw [if_neg Bool.false_ne_true] at HQ
      clear hcz h63z
      go_upto_region 21 with (go_at_call 37; go_loud (refine (qnext_any _ _ HC8.out.b.q).mono ?_; rw [HNZ.out]; rintro e wF ⟨rfl, hx⟩; have HCF := Lib.hid (HC8.out.ex hx); clear hx))
      have g0 := HCF.out.g.c 0 _ rfl
      have g1 := HCF.out.g.c 1 _ rfl
      have g2 := HCF.out.g.c 2 _ rfl
      have g3 := HCF.out.g.c 3 _ rfl
      have g4 := HCF.out.g.c 4 _ rfl
      have g5 := HCF.out.g.c 5 _ rfl
      have g6 := HCF.out.g.c 6 _ rfl
      have hbz : w1.heap.size ≤ wF.heap.size := Nat.le_trans HC3.out.only.size HCF.out.b.only.size
      have HVF := Lib.hid ((SlRe.weak HV3.out HC1.out.only.size).keepB (keepsB_re _) (KeepB.low HCF.out.b.only hrb))
      go_wp2_with (go_at_call 38; go_loud (refine (qunder_any (B := w1.heap.size) _ (RX.node 6 0 (-1) false false []) _ lA _ CR.mk0 HVF.out hbz (by have := HLEN.out; omega) (fun y hy => by have := HDEEP.out y hy; omega)).mono ?_; rintro e wz ⟨vz, rfl, hvz, hxz⟩; have HVZ := Lib.hid hvz.sl; have HCZ := Lib.hid (HCF.out.ex hxz); clear hvz hxz))
      go_ret
      exact ⟨_, _, _, rfl, HVZ.out, HCZ.out.b.q.blk, HC3.out.only.trans HCZ.out.b.only, by rw [HW.out]; exact HQ.out.mono (Nat.le_refl _) (show D + 1 + 1 ≤ D + 2 by omega) (Nat.le_refl _)⟩
  by_cases h43 : cn = 43
  · have hrt : RX.repTop s stA = some (1, (-1), stA.bump 1) := by unfold RX.repTop; simp only [hcn]; simp only [h43]; rfl
    have hTa : (stA.bump 1).at_ ≤ 402 := by show stA.at_ + 1 ≤ 402; omega
    have HREP := Lib.hid (fun (lz : Bool) hlz => QOut.rep (lz := lz) (K := K + 1) (D := D + 1) (N := N + 8) hrt HLEN.out HDEEP.out (by omega) (show (stA.bump 1).op = st.op from HOP.out) (show stA.at_ + 2 ≤ N + 8 by omega) (fun _ => rfl) (fun _ => ⟨rfl, rfl⟩) hlz)
    have b42 : (cn == 42) = false := by simpa using h42
    have b43 : (cn == 43) = true := by simpa using h43
    clear hcn h42 h43
    clear hrt
    go_upto_region 11 with (go_at_call 37; go_loud (refine (qnext_any _ _ HC5.out.b.q).mono ?_; rw [HN.out]; rintro e w6 ⟨rfl, hx⟩; have HC6 := Lib.hid (HC5.out.ex hx); clear hx))
    have fg2 := HC6.out.g.fr 2
    have cg2 := HC6.out.g.c 2 _ rfl
    have fg3 := HC6.out.g.fr 3
    have cg3 := HC6.out.g.c 3 _ rfl
    go_upto_region 12 with fail
    have HC7a := Lib.hid (HC6.out.set (HC6.out.g.lo_ (lo' := 1)))
    have HC7 := Lib.hid (HC7a.out.set (HC7a.out.g.hi_ (hi' := (-1))))
    clear HC7a
    generalize (w6.setCell _ _).setCell _ _ = w7 at HC7 ⊢
    clear fg2 cg2 fg3 cg3
    have c1 := HC7.out.b.q.blk.c1
    have f1 := HC7.out.b.q.blk.fr 1
    go_upto_region 18 with fail
    have HC8 := Lib.hid HC7.out.bump1
    generalize w7.setCell _ _ = w8 at HC8 ⊢
    clear c1 f1
    obtain ⟨cz, hcz⟩ : ∃ x, RX.nxt s (stA.bump 1) 0 = x := ⟨_, rfl⟩
    have HNZ := Lib.hid hcz
    by_cases h63z : cz = 63
    · have bz : (cz == 63) = true := by simpa using h63z
      have HQ := Lib.hid (HREP.out true (show decide (RX.nxt s (stA.bump 1) 0 = 63) = true from decide_eq_true (hcz.trans h63z)))
      rw [if_pos rfl] at HQ
      clear hcz h63z
      go_upto_region 19 with (go_at_call 37; go_loud (refine (qnext_any _ _ HC8.out.b.q).mono ?_; rw [HNZ.out]; rintro e wX ⟨rfl, hx⟩; have HCX := Lib.hid (HC8.out.ex hx); clear hx))
      have fg := HCX.out.g.fr 4
      have cg := HCX.out.g.c 4 _ rfl
      go_upto_region 20 with fail
      have HCY := Lib.hid (HCX.out.set HCX.out.g.lz_)
      generalize wX.setCell _ _ = wY at HCY ⊢
      clear fg cg
      have c1 := HCY.out.b.q.blk.c1
      have f1 := HCY.out.b.q.blk.fr 1
      go_upto_region 21 with fail
      have HCF := Lib.hid HCY.out.bump1
      generalize wY.setCell _ _ = wF at HCF ⊢
      clear c1 f1
      have g0 := HCF.out.g.c 0 _ rfl
      have g1 := HCF.out.g.c 1 _ rfl
      have g2 := HCF.out.g.c 2 _ rfl
      have g3 := HCF.out.g.c 3 _ rfl
      have g4 := HCF.out.g.c 4 _ rfl
      have g5 := HCF.out.g.c 5 _ rfl
      have g6 := HCF.out.g.c 6 _ rfl
      have hbz : w1.heap.size ≤ wF.heap.size := Nat.le_trans HC3.out.only.size HCF.out.b.only.size
      have HVF := Lib.hid ((SlRe.weak HV3.out HC1.out.only.size).keepB (keepsB_re _) (KeepB.low HCF.out.b.only hrb))
      go_wp2_with (go_at_call 38; go_loud (refine (qunder_any (B := w1.heap.size) _ (RX.node 6 1 (-1) true false []) _ lA _ CR.mk0 HVF.out hbz (by have := HLEN.out; omega) (fun y hy => by have := HDEEP.out y hy; omega)).mono ?_; rintro e wz ⟨vz, rfl, hvz, hxz⟩; have HVZ := Lib.hid hvz.sl; have HCZ := Lib.hid (HCF.out.ex hxz); clear hvz hxz))
      go_ret
      exact ⟨_, _, _, rfl, HVZ.out, HCZ.out.b.q.blk, HC3.out.only.trans HCZ.out.b.only, by rw [HW.out]; exact HQ.out.mono (Nat.le_refl _) (show D + 1 + 1 ≤ D + 2 by omega) (Nat.le_refl _)⟩
    · have bz : (cz == 63) = false := by simpa using h63z
      have HQ := Lib.hid (HREP.out false (show decide (RX.nxt s (stA.bump 1) 0 = 63) = false from decide_eq_false (fun h => h63z (hcz.symm.trans h))))
      rw [if_neg Bool.false_ne_true] at HQ
      clear hcz h63z
      go_upto_region 21 with (go_at_call 37; go_loud (refine (qnext_any _ _ HC8.out.b.q).mono ?_; rw [HNZ.out]; rintro e wF ⟨rfl, hx⟩; have HCF := Lib.hid (HC8.out.ex hx); clear hx))
      have g0 := HCF.out.g.c 0 _ rfl
      have g1 := HCF.out.g.c 1 _ rfl
      have g2 := HCF.out.g.c 2 _ rfl
      have g3 := HCF.out.g.c 3 _ rfl
      have g4 := HCF.out.g.c 4 _ rfl
      have g5 := HCF.out.g.c 5 _ rfl
      have g6 := HCF.out.g.c 6 _ rfl
      have hbz : w1.heap.size ≤ wF.heap.size := Nat.le_trans HC3.out.only.size HCF.out.b.only.size
      have HVF := Lib.hid ((SlRe.weak HV3.out HC1.out.only.size).keepB (keepsB_re _) (KeepB.low HCF.out.b.only hrb))
      go_wp2_with (go_at_call 38; go_loud (refine (qunder_any (B := w1.heap.size) _ (RX.node 6 1 (-1) false false []) _ lA _ CR.mk0 HVF.out hbz (by have := HLEN.out; omega) (fun y hy => by have := HDEEP.out y hy; omega)).mono ?_; rintro e wz ⟨vz, rfl, hvz, hxz⟩; have HVZ := Lib.hid hvz.sl; have HCZ := Lib.hid (HCF.out.ex hxz); clear hvz hxz))
      go_ret
      exact ⟨_, _, _, rfl, HVZ.out, HCZ.out.b.q.blk, HC3.out.only.trans HCZ.out.b.only, by rw [HW.out]; exact HQ.out.mono (Nat.le_refl _) (show D + 1 + 1 ≤ D + 2 by omega) (Nat.le_refl _)⟩
  by_cases h63 : cn = 63
  · have hrt : RX.repTop s stA = some (0, 1, stA.bump 1) := by unfold RX.repTop; simp only [hcn]; simp only [h63]; rfl
    have hTa : (stA.bump 1).at_ ≤ 402 := by show stA.at_ + 1 ≤ 402; omega
    have HREP := Lib.hid (fun (lz : Bool) hlz => QOut.rep (lz := lz) (K := K + 1) (D := D + 1) (N := N + 8) hrt HLEN.out HDEEP.out (by omega) (show (stA.bump 1).op = st.op from HOP.out) (show stA.at_ + 2 ≤ N + 8 by omega) (fun _ => rfl) (fun _ => ⟨rfl, rfl⟩) hlz)
    have b42 : (cn == 42) = false := by simpa using h42
    have b43 : (cn == 43) = false := by simpa using h43
    have b63 : (cn == 63) = true := by simpa using h63
    clear hcn h42 h43 h63
    clear hrt
    go_upto_region 14 with (go_at_call 37; go_loud (refine (qnext_any _ _ HC5.out.b.q).mono ?_; rw [HN.out]; rintro e w6 ⟨rfl, hx⟩; have HC6 := Lib.hid (HC5.out.ex hx); clear hx))
    have fg3 := HC6.out.g.fr 3
    have cg3 := HC6.out.g.c 3 _ rfl
    go_upto_region 15 with fail
    have HC7 := Lib.hid (HC6.out.set (HC6.out.g.hi_ (hi' := 1)))
    generalize w6.setCell _ _ = w7 at HC7 ⊢
    clear fg3 cg3
    have c1 := HC7.out.b.q.blk.c1
    have f1 := HC7.out.b.q.blk.fr 1
    go_upto_region 18 with fail
    have HC8 := Lib.hid HC7.out.bump1
    generalize w7.setCell _ _ = w8 at HC8 ⊢
    clear c1 f1
    obtain ⟨cz, hcz⟩ : ∃ x, RX.nxt s (stA.bump 1) 0 = x := ⟨_, rfl⟩
    have HNZ := Lib.hid hcz
    by_cases h63z : cz = 63
    · have bz : (cz == 63) = true := by simpa using h63z
      have HQ := Lib.hid (HREP.out true (show decide (RX.nxt s (stA.bump 1) 0 = 63) = true from decide_eq_true (hcz.trans h63z)))
      rw [if_pos rfl] at HQ
      clear hcz h63z
      go_upto_region 19 with (go_at_call 37; go_loud (refine (qnext_any _ _ HC8.out.b.q).mono ?_; rw [HNZ.out]; rintro e wX ⟨rfl, hx⟩; have HCX := Lib.hid (HC8.out.ex hx); clear hx))
      have fg := HCX.out.g.fr 4
      have cg := HCX.out.g.c 4 _ rfl
      go_upto_region 20 with fail
      have HCY := Lib.hid (HCX.out.set HCX.out.g.lz_)
      generalize wX.setCell _ _ = wY at HCY ⊢
      clear fg cg
      have c1 := HCY.out.b.q.blk.c1
      have f1 := HCY.out.b.q.blk.fr 1
      go_upto_region 21 with fail
      have HCF := Lib.hid HCY.out.bump1
      generalize wY.setCell _ _ = wF at HCF ⊢
      clear c1 f1
      have g0 := HCF.out.g.c 0 _ rfl
      have g1 := HCF.out.g.c 1 _ rfl
      have g2 := HCF.out.g.c 2 _ rfl
      have g3 := HCF.out.g.c 3 _ rfl
      have g4 := HCF.out.g.c 4 _ rfl
      have g5 := HCF.out.g.c 5 _ rfl
      have g6 := HCF.out.g.c 6 _ rfl
      have hbz : w1.heap.size ≤ wF.heap.size := Nat.le_trans HC3.out.only.size HCF.out.b.only.size
      have HVF := Lib.hid ((SlRe.weak HV3.out HC1.out.only.size).keepB (keepsB_re _) (KeepB.low HCF.out.b.only hrb))
      go_wp2_with (go_at_call 38; go_loud (refine (qunder_any (B := w1.heap.size) _ (RX.node 6 0 1 true false []) _ lA _ CR.mk0 HVF.out hbz (by have := HLEN.out; omega) (fun y hy => by have := HDEEP.out y hy; omega)).mono ?_; rintro e wz ⟨vz, rfl, hvz, hxz⟩; have HVZ := Lib.hid hvz.sl; have HCZ := Lib.hid (HCF.out.ex hxz); clear hvz hxz))
      go_ret
      exact ⟨_, _, _, rfl, HVZ.out, HCZ.out.b.q.blk, HC3.out.only.trans HCZ.out.b.only, by rw [HW.out]; exact HQ.out.mono (Nat.le_refl _) (show D + 1 + 1 ≤ D + 2 by omega) (Nat.le_refl _)⟩
    · have bz : (cz == 63) = false := by simpa using h63z
      have HQ := Lib.hid (HREP.out false (show decide (RX.nxt s (stA.bump 1) 0 = 63) = false from decide_eq_false (fun h => h63z (hcz.symm.trans h))))
      rw [if_neg Bool.false_ne_true] at HQ
      clear hcz h63z
      go_upto_region 21 with (go_at_call 37; go_loud (refine (qnext_any _ _ HC8.out.b.q).mono ?_; rw [HNZ.out]; rintro e wF ⟨rfl, hx⟩; have HCF := Lib.hid (HC8.out.ex hx); clear hx))
      have g0 := HCF.out.g.c 0 _ rfl
      have g1 := HCF.out.g.c 1 _ rfl
      have g2 := HCF.out.g.c 2 _ rfl
      have g3 := HCF.out.g.c 3 _ rfl
      have g4 := HCF.out.g.c 4 _ rfl
      have g5 := HCF.out.g.c 5 _ rfl
      have g6 := HCF.out.g.c 6 _ rfl
      have hbz : w1.heap.size ≤ wF.heap.size := Nat.le_trans HC3.out.only.size HCF.out.b.only.size
      have HVF := Lib.hid ((SlRe.weak HV3.out HC1.out.only.size).keepB (keepsB_re _) (KeepB.low HCF.out.b.only hrb))
      go_wp2_with (go_at_call 38; go_loud (refine (qunder_any (B := w1.heap.size) _ (RX.node 6 0 1 false false []) _ lA _ CR.mk0 HVF.out hbz (by have := HLEN.out; omega) (fun y hy => by have := HDEEP.out y hy; omega)).mono ?_; rintro e wz ⟨vz, rfl, hvz, hxz⟩; have HVZ := Lib.hid hvz.sl; have HCZ := Lib.hid (HCF.out.ex hxz); clear hvz hxz))
      go_ret
      exact ⟨_, _, _, rfl, HVZ.out, HCZ.out.b.q.blk, HC3.out.only.trans HCZ.out.b.only, by rw [HW.out]; exact HQ.out.mono (Nat.le_refl _) (show D + 1 + 1 ≤ D + 2 by omega) (Nat.le_refl _)⟩
  by_cases h123 : cn = 123
  · obtain ⟨bo, hbo⟩ : ∃ x, RX.bounds s stA = x := ⟨_, rfl⟩
    have hrt : RX.repTop s stA = some (bo.1, bo.2.1, bo.2.2) := by unfold RX.repTop; simp only [hcn]; simp only [h123, hbo]; rfl
    have hta := RX.times_at s stA
    have htb := RX.times_bounds s stA
    rw [hbo] at htb
    obtain ⟨lo, hi, st1⟩ := bo
    have HBO := Lib.hid (show (RX.bounds s stA).1 = lo ∧ (RX.bounds s stA).2.1 = hi by rw [hbo]; exact ⟨rfl, rfl⟩)
    have HREP := Lib.hid (fun (lz : Bool) hlz => QOut.rep (lz := lz) (K := K + 1) (D := D + 1) (N := N + 8) hrt HLEN.out HDEEP.out (by omega) (hta.2.trans HOP.out) (by omega) htb.1 htb.2 hlz)
    have hTa : (RX.timesS s stA).at_ ≤ 410 := by omega
    have b42 : (cn == 42) = false := by simpa using h42
    have b43 : (cn == 43) = false := by simpa using h43
    have b63 : (cn == 63) = false := by simpa using h63
    have b123 : (cn == 123) = true := by simpa using h123
    clear hcn h42 h43 h63 h123
    clear hrt hbo hta htb
    go_upto_region 18 with (first
      | (go_at_call 37; go_loud (refine (qnext_any _ _ HC5.out.b.q).mono ?_; rw [HN.out]; rintro e w6 ⟨rfl, hx⟩; have HC6 := Lib.hid (HC5.out.ex hx); clear hx))
      | (go_at_call 45; go_loud (refine (qtimes_any _ _ HC6.out.b.q (by omega)).mono ?_; rw [HBO.out.1, HBO.out.2]; rintro e w7 ⟨rfl, hq, ho⟩; have HC7 := Lib.hid (HC6.out.call ho hq); have fg2 := HC7.out.g.fr 2; have cg2 := HC7.out.g.c 2 _ rfl; have fg3 := HC7.out.g.fr 3; have cg3 := HC7.out.g.c 3 _ rfl; clear hq ho)))
    have HC8a := Lib.hid (HC7.out.set (HC7.out.g.lo_ (lo' := lo)))
    have HC8 := Lib.hid (HC8a.out.set (HC8a.out.g.hi_ (hi' := hi)))
    clear HC8a
    generalize (w7.setCell _ _).setCell _ _ = w8 at HC8 ⊢
    generalize RX.timesS s stA = stT at HC8 HREP hTa
    clear fg2 cg2 fg3 cg3
    obtain ⟨cz, hcz⟩ : ∃ x, RX.nxt s stT 0 = x := ⟨_, rfl⟩
    have HNZ := Lib.hid hcz
    by_cases h63z : cz = 63
    · have bz : (cz == 63) = true := by simpa using h63z
      have HQ := Lib.hid (HREP.out true (show decide (RX.nxt s stT 0 = 63) = true from decide_eq_true (hcz.trans h63z)))
      rw [if_pos rfl] at HQ
      clear hcz h63z
      go_upto_region 19 with (go_at_call 37; go_loud (refine (qnext_any _ _ HC8.out.b.q).mono ?_; rw [HNZ.out]; rintro e wX ⟨rfl, hx⟩; have HCX := Lib.hid (HC8.out.ex hx); clear hx))
      have fg := HCX.out.g.fr 4
      have cg := HCX.out.g.c 4 _ rfl
      go_upto_region 20 with fail
      have HCY := Lib.hid (HCX.out.set HCX.out.g.lz_)
      generalize wX.setCell _ _ = wY at HCY ⊢
      clear fg cg
      have c1 := HCY.out.b.q.blk.c1
      have f1 := HCY.out.b.q.blk.fr 1
      go_upto_region 21 with fail
      have HCF := Lib.hid HCY.out.bump1
      generalize wY.setCell _ _ = wF at HCF ⊢
      clear c1 f1
      have g0 := HCF.out.g.c 0 _ rfl
      have g1 := HCF.out.g.c 1 _ rfl
      have g2 := HCF.out.g.c 2 _ rfl
      have g3 := HCF.out.g.c 3 _ rfl
      have g4 := HCF.out.g.c 4 _ rfl
      have g5 := HCF.out.g.c 5 _ rfl
      have g6 := HCF.out.g.c 6 _ rfl
      have hbz : w1.heap.size ≤ wF.heap.size := Nat.le_trans HC3.out.only.size HCF.out.b.only.size
      have HVF := Lib.hid ((SlRe.weak HV3.out HC1.out.only.size).keepB (keepsB_re _) (KeepB.low HCF.out.b.only hrb))
      go_wp2_with (go_at_call 38; go_loud (refine (qunder_any (B := w1.heap.size) _ (RX.node 6 lo hi true false []) _ lA _ CR.mk0 HVF.out hbz (by have := HLEN.out; omega) (fun y hy => by have := HDEEP.out y hy; omega)).mono ?_; rintro e wz ⟨vz, rfl, hvz, hxz⟩; have HVZ := Lib.hid hvz.sl; have HCZ := Lib.hid (HCF.out.ex hxz); clear hvz hxz))
      go_ret
      exact ⟨_, _, _, rfl, HVZ.out, HCZ.out.b.q.blk, HC3.out.only.trans HCZ.out.b.only, by rw [HW.out]; exact HQ.out.mono (Nat.le_refl _) (show D + 1 + 1 ≤ D + 2 by omega) (Nat.le_refl _)⟩
    · have bz : (cz == 63) = false := by simpa using h63z
      have HQ := Lib.hid (HREP.out false (show decide (RX.nxt s stT 0 = 63) = false from decide_eq_false (fun h => h63z (hcz.symm.trans h))))
      rw [if_neg Bool.false_ne_true] at HQ
      clear hcz h63z
      go_upto_region 21 with (go_at_call 37; go_loud (refine (qnext_any _ _ HC8.out.b.q).mono ?_; rw [HNZ.out]; rintro e wF ⟨rfl, hx⟩; have HCF := Lib.hid (HC8.out.ex hx); clear hx))
      have g0 := HCF.out.g.c 0 _ rfl
      have g1 := HCF.out.g.c 1 _ rfl
      have g2 := HCF.out.g.c 2 _ rfl
      have g3 := HCF.out.g.c 3 _ rfl
      have g4 := HCF.out.g.c 4 _ rfl
      have g5 := HCF.out.g.c 5 _ rfl
      have g6 := HCF.out.g.c 6 _ rfl
      have hbz : w1.heap.size ≤ wF.heap.size := Nat.le_trans HC3.out.only.size HCF.out.b.only.size
      have HVF := Lib.hid ((SlRe.weak HV3.out HC1.out.only.size).keepB (keepsB_re _) (KeepB.low HCF.out.b.only hrb))
      go_wp2_with (go_at_call 38; go_loud (refine (qunder_any (B := w1.heap.size) _ (RX.node 6 lo hi false false []) _ lA _ CR.mk0 HVF.out hbz (by have := HLEN.out; omega) (fun y hy => by have := HDEEP.out y hy; omega)).mono ?_; rintro e wz ⟨vz, rfl, hvz, hxz⟩; have HVZ := Lib.hid hvz.sl; have HCZ := Lib.hid (HCF.out.ex hxz); clear hvz hxz))
      go_ret
      exact ⟨_, _, _, rfl, HVZ.out, HCZ.out.b.q.blk, HC3.out.only.trans HCZ.out.b.only, by rw [HW.out]; exact HQ.out.mono (Nat.le_refl _) (show D + 1 + 1 ≤ D + 2 by omega) (Nat.le_refl _)⟩
  have hrt : RX.repTop s stA = none := by unfold RX.repTop; simp only [hcn]; simp only [if_neg h42, if_neg h43, if_neg h63, if_neg h123]
  have hrp : RX.repeatP s lA stA = (lA, stA) := by unfold RX.repeatP; rw [hrt]
  have HQ := Lib.hid (show QOut R st (K + 2) (D + 2) (N + 8) lA stA from by
    rw [HW.out, hrp]
    exact ⟨Nat.le_succ_of_le HLEN.out, fun x hx => ⟨(HDEEP.out x hx).1, by have := (HDEEP.out x hx).2; omega⟩, by omega, HOP.out, fun _ => ⟨rfl, rfl⟩, fun _ => ⟨rfl, rfl⟩⟩)
  have b42 : (cn == 42) = false := by simpa using h42
  have b43 : (cn == 43) = false := by simpa using h43
  have b63 : (cn == 63) = false := by simpa using h63
  have b123 : (cn == 123) = false := by simpa using h123
  clear hcn h42 h43 h63 h123
  clear hrt hrp
  go_wp2_with (go_at_call 37; go_loud (refine (qnext_any _ _ HC5.out.b.q).mono ?_; rw [HN.out]; rintro e w6 ⟨rfl, hx⟩; have HC6 := Lib.hid (HC5.out.ex hx); clear hx))
  go_ret
  exact ⟨_, _, _, rfl, (SlRe.weak HV3.out HC1.out.only.size |>.keepB (keepsB_re _) (KeepB.low HC6.out.b.only hrb)), HC6.out.b.q.blk, HC3.out.only.trans HC6.out.b.only, HQ.out⟩
end
namespace RX
theorem under_snoc (x : ReN) (items : List (List ReN)) (l : List ReN) : under x (items ++ [l]) = under x items ++ l.map ReN.down := by simp [under]
/-- The rounds of a row: in step with the elder reader; or something is wrong, and known. -/
inductive RowI (s : List Int) (alt : St → List ReN × St) (c : Nat) (R : List ReN × St) (st : St) (K : Nat) (D : Int) (N : Nat) (k : Nat) : St → List ReN → Prop
  | sync (st' : St) (items : List (List ReN)) : st'.ok = true → rowLoop s alt k st' items = R → s.length + 1 ≤ k + st'.at_ → Fwd s (c + 1) st st' → (∀ l ∈ items, ∀ x ∈ l, 0 ≤ x.deep ∧ x.deep ≤ D + 2) → items.flatten.length ≤ 2 * (st'.at_ - st.at_) → RowI s alt c R st K D N k st' (under (node 0 0 0 false false []) items)
  | fail (st' : St) (l : List ReN) : st'.ok = false → st'.code = R.2.code → st'.bat = R.2.bat → R.2.ok = false → st'.op = st.op → st'.at_ ≤ N + 8 → l.length ≤ K + 125 → (∀ x ∈ l, 0 ≤ x.deep ∧ x.deep ≤ D + 3) → RowI s alt c R st K D N k st' l
section
variable {s : List Int} {alt : St → List ReN × St} {c : Nat} {R : List ReN × St} {st st' : St} {K : Nat} {D : Int} {N k : Nat} {l : List ReN}
theorem RowI.start (hok : st.ok = true) (ha : st.at_ ≤ s.length) (h9 : st.caps ≤ 9) (hR : rowLoop s alt k st [] = R) (hk : s.length + 1 ≤ k + st.at_) : RowI s alt c R st K D N k st [node 0 0 0 false false []] :=
  .sync st [] hok hR hk (Fwd.refl _ ha h9) (by simp) (by simp)
theorem RowI.shape (h : RowI s alt c R st K D N k st' l) (hl : s.length ≤ 60) (hD : 0 ≤ D) : l.length ≤ K + 125 ∧ (∀ x ∈ l, 0 ≤ x.deep ∧ x.deep ≤ D + 3) ∧ st'.op = st.op := by
  cases h with
  | sync items h1 h2 h3 h4 h5 h6 =>
    have := under_tr (top := node 0 0 0 false false []) rfl (show 0 ≤ D + 2 by omega) h5
    have h7 := h4.okl h1
    refine ⟨Nat.le_trans this.1 (by omega), fun x hx => ⟨(this.2 x hx).1, by have := (this.2 x hx).2; omega⟩, h4.op⟩
  | fail _ _ _ _ _ h5 _ h7 h8 => exact ⟨h7, h8, h5⟩
theorem RowI.out (h : RowI s alt c R st K D N k st' l) (hok : st'.ok = false) : QOut R st (K + 125) (D + 3) (N + 8) l st' := by
  cases h with
  | sync _ h1 => rw [hok] at h1; cases h1
  | fail _ _ h2 h3 h4 h5 h6 h7 h8 => exact ⟨h7, h8, h6, h5, (fun h => by rw [h4] at h; cases h), fun _ => ⟨h2, h3⟩⟩
theorem RowI.live (h : RowI s alt c R st K D N k st' l) (hok : st'.ok = true) : st'.at_ ≤ s.length ∧ st'.caps ≤ 9 ∧ s.length + 1 ≤ k + st'.at_ ∧ 0 < l.length := by
  cases h with
  | sync _ h1 h2 h3 h4 => exact ⟨h4.okl h1, h4.caps9, h3, Nat.succ_pos _⟩
  | fail _ h1 => rw [hok] at h1; cases h1
theorem RowI.stop (h : RowI s alt c R st K D N (k + 1) st' l) (hok : st'.ok = true) (he : rowEnds (nxt s st' 0) = true) (hl : s.length ≤ 60) (hD : 0 ≤ D) (hN : s.length ≤ N) : QOut R st (K + 125) (D + 3) (N + 8) l st' := by
  have hsh := h.shape hl hD
  have hlv := h.live hok
  cases h with
  | sync items h1 h2 h3 h4 h5 h6 =>
    unfold rowLoop at h2
    rw [if_pos h1, if_pos he] at h2
    subst h2
    exact ⟨hsh.1, hsh.2.1, by omega, h4.op, fun _ => ⟨rfl, rfl⟩, fun _ => ⟨rfl, rfl⟩⟩
  | fail _ h1 => rw [hok] at h1; cases h1
theorem RowI.next (halt : AltOk s c D alt) (h : RowI s alt c R st K D N (k + 1) st' l) (hok : st'.ok = true) (he : rowEnds (nxt s st' 0) = false) (hlt : st'.at_ < s.length) (hl : s.length ≤ 60) (hD : 0 ≤ D) {li : List ReN} {sti : St}
    (hi : QOut (itemP s alt st') st' (K + 2) (D + 2) (N + 8) li sti) : RowI s alt c R st K D N k sti (l ++ li.map ReN.down) := by
  have hlv := h.live hok
  cases h with
  | sync items h1 h2 h3 h4 h5 h6 =>
    unfold rowLoop at h2
    rw [if_pos h1, if_neg (by rw [he]; simp)] at h2
    have hf := itemP_fwd halt hD hok hlt h4.caps9
    rw [← under_snoc]
    rcases hk : (itemP s alt st').2.ok with _ | _
    · obtain ⟨e1, e2⟩ := hi.bad hk
      have hR : R = ([], (itemP s alt st').2) := by
        rw [← h2]
        cases k with
        | zero => rfl
        | succ k => unfold rowLoop; rw [if_neg (by rw [hk]; simp)]
      have hu := under_tr (top := node 0 0 0 false false []) (parts := items ++ [li]) rfl (show 0 ≤ D + 2 by omega) (by
        intro l hl x hx
        rcases List.mem_append.1 hl with hl | hl
        · exact h5 l hl x hx
        · simp at hl; subst hl; exact hi.deep x hx)
      have hlen : (items ++ [li]).flatten.length ≤ 2 * (st'.at_ - st.at_) + (K + 2) := by
        rw [List.flatten_append, List.length_append, List.flatten_singleton]
        have := hi.len
        omega
      refine .fail sti _ (by rw [hi.ok]; exact hk) (by rw [hR]; exact e1) (by rw [hR]; exact e2) (by rw [hR]; exact hk) (hi.op.trans h4.op) hi.hi (Nat.le_trans hu.1 (by omega)) (fun x hx => ⟨(hu.2 x hx).1, by have := (hu.2 x hx).2; omega⟩)
    · obtain ⟨rfl, rfl⟩ := hi.good hk
      have h7 := hf.2.2 hk
      have h8 := hf.2.1.1
      have h9 := h4.mono
      refine .sync _ _ hk h2 (by omega) (h4.trans hf.1) ?_ ?_
      · intro l hl x hx
        rcases List.mem_append.1 hl with hl | hl
        · exact h5 l hl x hx
        · simp at hl; subst hl; exact hi.deep x hx
      · rw [List.flatten_append, List.length_append, List.flatten_singleton]
        omega
  | fail _ h1 => rw [hok] at h1; cases h1
end
end RX
/-- Inside of a method that grows a row of nodes: the reader, the row. -/
structure Qr (w0 : World) (rb : Nat) (sv : Value) (s : List Int) (w1 : World) (st : RX.St) (v : Value) (l : List RX.ReN) (wr : World) : Prop where
  q : Qn w0 rb sv s wr st
  only : Only w1 wr rb
  own : OwnRe w1.heap.size w1.heap.size wr v l
  lt : rb < w1.heap.size
section
variable {w0 w1 wr w' : World} {rb : Nat} {sv v v' : Value} {s : List Int} {st st' : RX.St} {l l' : List RX.ReN}
theorem Qr.call (h : Qr w0 rb sv s w1 st v l wr) (ho : Only wr w' rb) (hq : QS rb sv w' st') : Qr w0 rb sv s w1 st' v l w' := ⟨h.q.step ho hq, h.only.trans ho, h.own.keepB (keepsB_re _) (KeepB.low ho h.lt), h.lt⟩
theorem Qr.ex (h : Qr w0 rb sv s w1 st v l wr) (hx : Ext wr w') : Qr w0 rb sv s w1 st v l w' := h.call (Only.of_ext hx rb) (hx.heap h.q.blk)
theorem Qr.bump1 (h : Qr w0 rb sv s w1 st v l wr) : Qr w0 rb sv s w1 (st.bump 1) v l (wr.setCell ⟨rb, 1, none⟩ (.int .i64 ((st.at_ : Int) + 1))) := h.call ((Only.refl _ rb).set _) h.q.bump1.blk
theorem Qr.app (h : Qr w0 rb sv s w1 st v l wr) (h1 : OwnRe w1.heap.size w1.heap.size w' v' l') (h2 : wr.grownBy w' v.ownBlock) : Qr w0 rb sv s w1 st v' l' w' := by
  have hg : ∀ k, v.ownBlock = some k → w1.heap.size ≤ k := fun k hk => (h.own.lt k hk).1
  refine ⟨⟨h.q.sl, h.q.lo, h.q.len, h.q.pos, h.q.ext.grown h2 (fun k hk => by have := hg k hk; have := h.lt; have := h.q.lo; omega), ?_⟩, Only.own (nb := w1.heap.size) h.only h2 hg (Nat.le_refl _), h1, h.lt⟩
  exact (h2.block rb h.q.rbl (by intro e; have := hg rb e.symm; have := h.lt; omega)).trans h.q.blk
/-- Two rows of nodes, of which one was held ahead of the other. -/
theorem re_apart {B b : Nat} {w w2 : World} {v vm : Value} {l more : List RX.ReN} (h : OwnRe B b w v l) (hm : SlRe w.heap.size w.heap.size w2 vm more) : ∀ g o n c, vm = .slice (some ⟨g, o, none⟩) n c → v.ownBlock ≠ some g := by
  intro g o n c hv hg
  obtain ⟨A, c', e, -, -, -, hA⟩ := hm
  rw [hv] at e
  injection e with e1 _ _
  obtain ⟨_, _, _, e2, e3, -⟩ := hA _ e1.symm
  injection e2 with e2 _ _
  have := (h.lt _ hg).2
  omega
end
section
variable {w0 : World} {rb : Nat} {sv : Value} {s : List Int}
theorem qrow_any (n : Nat) (alt : RX.St → List RX.ReN × RX.St) {c K : Nat} {D : Int} {N : Nat} (halt : RX.AltOk s c D alt) (HA : ∀ m, n = m + 1 → AltQ w0 rb sv s m alt K D N) (hK : K ≤ 10000) (hD : 0 ≤ D ∧ D ≤ 100) (hN : s.length + 4 ≤ N ∧ N ≤ 400)
    (w1 : World) (st : RX.St) (he : Qn w0 rb sv s w1 st) (hok : st.ok = true) (ha : st.at_ ≤ s.length) (h9 : st.caps ≤ 9) (hop : st.op + n = 12) :
    Calls Try.prog 36 #[.pointer (some ⟨rb, 0, none⟩)] w1 (QP rb sv w1 (RX.rowP s alt st) st (K + 125) (D + 3) (N + 8)) := by
  have hl60 := he.len
  have hrb := he.rbl
  have HPOS := Lib.hid he.pos
  have HC1 := Lib.hid (show Qb w0 rb sv s w1 st w1 from ⟨he, Only.refl _ _⟩)
  obtain ⟨R, hR⟩ : ∃ x, RX.rowP s alt st = x := ⟨_, rfl⟩
  rw [hR]
  have HS := Lib.hid (RX.RowI.start (c := c) (K := K) (D := D) (N := N) hok ha h9 (show RX.rowLoop s alt (s.length + 2 - st.at_) st [] = R from hR) (by omega))
  have HOPN := Lib.hid hop
  have HIT := Lib.hid (fun w st' h h1 h2 h3 h4 => qitem_any n alt HA hK hD hN w st' h h1 h2 h3 h4)
  have HALT := Lib.hid halt
  clear he hok hR HA hop halt
  go_enter Try.func36, Try.ntmps36
  go_upto_region 2 with fail
  have HC2 := Lib.hid (show Qr w0 rb sv s w1 st (.slice (some ⟨w1.heap.size, 0, none⟩) 1 1) [RX.node 0 0 0 false false []] _ from ⟨(HC1.out.ex ((Ext.refl w1).alloc (.cells #[.int .i64 0, .int .i64 0, .int .i64 0, .int .i64 0, .bool false, .bool false, .slice none 0 0] 47))).q, Only.of_ext ((Ext.refl w1).alloc _) rb, reQ_lit rfl (Nat.le_refl _) CR.mk0, hrb⟩)
  generalize w1.alloc _ = w2 at HC2 ⊢
  go_wp2_with fail
  go_loopg [3] (s.length + 2 - st.at_) (fun k v wr => ∃ (st' : RX.St) (l : List RX.ReN), Qr w0 rb sv s w1 st' v l wr ∧ RX.RowI s alt c R st K D N k st' l)
  case atStart => exact ⟨st, _, HC2.out, HS.out⟩
  case round =>
    obtain ⟨st', l, hcc, hrow⟩ := hrel
    have HC3 := Lib.hid hcc
    have HRW := Lib.hid hrow
    obtain ⟨Al, cl, rfl, -⟩ := hcc.own.form
    have hsh := hrow.shape hl60 hD.1
    have HSH := Lib.hid hsh
    have hln := hsh.1
    have HK0 := Lib.hid hcc.own.lt
    clear hcc hsh
    rcases hk' : st'.ok with _ | _
    · have HK := Lib.hid hk'
      have HQ := Lib.hid (hrow.out hk')
      clear hk' hrow
      go_wp2_with (go_at_call 28; go_loud (refine (qok_any _ _ HC3.out.q).mono ?_; rw [HK.out]; rintro e w4 ⟨rfl, hx⟩; have HC4 := Lib.hid (HC3.out.ex hx); clear hx))
      go_ret
      exact ⟨_, _, _, rfl, HC4.out.own.sl, HC4.out.q.blk, HC4.out.only, HQ.out⟩
    have HK := Lib.hid hk'
    have hlv := hrow.live hk'
    have HLV := Lib.hid hlv
    have hlp := hlv.2.2.2
    obtain ⟨k, rfl⟩ : ∃ k, gk = k + 1 := ⟨gk - 1, by have := hlv.2.2.1; have := hlv.1; omega⟩
    obtain ⟨cn, hcn⟩ : ∃ x, RX.nxt s st' 0 = x := ⟨_, rfl⟩
    have HN := Lib.hid hcn
    have hc0 : cn = -1 ∨ 0 ≤ cn := by
      rw [← hcn]
      unfold RX.nxt
      rcases hx : s[st'.at_ + 0]? with _ | x
      · exact .inl rfl
      · exact .inr (HPOS.out x (List.mem_of_getElem? hx))
    rcases hend : RX.rowEnds cn with _ | _
    rotate_left
    · have HQ := Lib.hid (hrow.stop hk' (by rw [hcn]; exact hend) hl60 hD.1 (by omega))
      have h3 : cn = -1 ∨ cn = 124 ∨ cn = 41 := by unfold RX.rowEnds at hend; simp at hend; omega
      clear hk' hrow hlv hcn hend
      by_cases h1 : cn = -1
      · have d0 : decide ((0 : Int) ≤ cn) = false := by simp; omega
        clear h1 h3 hc0
        go_wp2_with (first
          | (go_at_call 28; go_loud (refine (qok_any _ _ HC3.out.q).mono ?_; rw [HK.out]; rintro e w4 ⟨rfl, hx⟩; have HC4 := Lib.hid (HC3.out.ex hx); clear hx))
          | (go_at_call 37; go_loud (refine (qnext_any _ _ HC4.out.q).mono ?_; rw [HN.out]; rintro e w5 ⟨rfl, hx⟩; have HC5 := Lib.hid (HC4.out.ex hx); clear hx)))
        go_ret
        exact ⟨_, _, _, rfl, HC5.out.own.sl, HC5.out.q.blk, HC5.out.only, HQ.out⟩
      have d0 : decide ((0 : Int) ≤ cn) = true := by simp; omega
      by_cases h2 : cn = 124
      · have b1 : (cn != 124) = false := by simpa using h2
        clear h1 h2 h3 hc0
        go_wp2_with (first
          | (go_at_call 28; go_loud (refine (qok_any _ _ HC3.out.q).mono ?_; rw [HK.out]; rintro e w4 ⟨rfl, hx⟩; have HC4 := Lib.hid (HC3.out.ex hx); clear hx))
          | (go_at_call 37; go_loud (refine (qnext_any _ _ HC4.out.q).mono ?_; rw [HN.out]; rintro e w5 ⟨rfl, hx⟩; have HC5 := Lib.hid (HC4.out.ex hx); clear hx))
          | (go_at_call 37; go_loud (refine (qnext_any _ _ HC5.out.q).mono ?_; rw [HN.out]; rintro e w6 ⟨rfl, hx⟩; have HC6 := Lib.hid (HC5.out.ex hx); clear hx)))
        go_ret
        exact ⟨_, _, _, rfl, HC6.out.own.sl, HC6.out.q.blk, HC6.out.only, HQ.out⟩
      · have b1 : (cn != 124) = true := by simpa using h2
        have b2 : (cn != 41) = false := by have : cn = 41 := by omega
                                           simpa using this
        clear h1 h2 h3 hc0
        go_wp2_with (first
          | (go_at_call 28; go_loud (refine (qok_any _ _ HC3.out.q).mono ?_; rw [HK.out]; rintro e w4 ⟨rfl, hx⟩; have HC4 := Lib.hid (HC3.out.ex hx); clear hx))
          | (go_at_call 37; go_loud (refine (qnext_any _ _ HC4.out.q).mono ?_; rw [HN.out]; rintro e w5 ⟨rfl, hx⟩; have HC5 := Lib.hid (HC4.out.ex hx); clear hx))
          | (go_at_call 37; go_loud (refine (qnext_any _ _ HC5.out.q).mono ?_; rw [HN.out]; rintro e w6 ⟨rfl, hx⟩; have HC6 := Lib.hid (HC5.out.ex hx); clear hx))
          | (go_at_call 37; go_loud (refine (qnext_any _ _ HC6.out.q).mono ?_; rw [HN.out]; rintro e w7 ⟨rfl, hx⟩; have HC7 := Lib.hid (HC6.out.ex hx); clear hx)))
        go_ret
        exact ⟨_, _, _, rfl, HC7.out.own.sl, HC7.out.q.blk, HC7.out.only, HQ.out⟩
    have h3 : cn ≠ -1 ∧ cn ≠ 124 ∧ cn ≠ 41 := by unfold RX.rowEnds at hend; simp at hend; omega
    have d0 : decide ((0 : Int) ≤ cn) = true := by simp; omega
    have b1 : (cn != 124) = true := by simpa using h3.2.1
    have b2 : (cn != 41) = true := by simpa using h3.2.2
    have hlt : st'.at_ < s.length := RX.nxt_in (s := s) (k := 0) (st := st') (by rw [hcn]; exact h3.1)
    have HEND := Lib.hid (show RX.rowEnds (RX.nxt s st' 0) = false by rw [hcn]; exact hend)
    clear hk' hrow hlv hcn hend h3 hc0
    go_wp2_with (first
      | (go_at_call 28; go_loud (refine (qok_any _ _ HC3.out.q).mono ?_; rw [HK.out]; rintro e w4 ⟨rfl, hx⟩; have HC4 := Lib.hid (HC3.out.ex hx); clear hx))
      | (go_at_call 37; go_loud (refine (qnext_any _ _ HC4.out.q).mono ?_; rw [HN.out]; rintro e w5 ⟨rfl, hx⟩; have HC5 := Lib.hid (HC4.out.ex hx); clear hx))
      | (go_at_call 37; go_loud (refine (qnext_any _ _ HC5.out.q).mono ?_; rw [HN.out]; rintro e w6 ⟨rfl, hx⟩; have HC6 := Lib.hid (HC5.out.ex hx); clear hx))
      | (go_at_call 37; go_loud (refine (qnext_any _ _ HC6.out.q).mono ?_; rw [HN.out]; rintro e w7 ⟨rfl, hx⟩; have HC7 := Lib.hid (HC6.out.ex hx); clear hx))
      | (go_at_call 41; go_loud (refine (HIT.out _ _ HC7.out.q HK.out hlt HLV.out.2.1 (by rw [HSH.out.2.2]; exact HOPN.out)).mono ?_; rintro e w8 ⟨li, vi, sti, rfl, hv, hq, ho, hout⟩; have HC8 := Lib.hid (HC7.out.call ho hq); have HAP := Lib.hid (re_apart HC7.out.own hv); have HVI := Lib.hid (SlRe.weak hv HC7.out.only.size); have HOI := Lib.hid hout; obtain ⟨Ai, ci, rfl, -⟩ := hv.form; clear hv hq ho hout))
      | (go_at_call 38; go_loud (refine (qlower_any w1.heap.size w1.heap.size w1.heap.size l li _ _ _ HC8.out.own HVI.out hlp HAP.out HC8.out.only.size (by have := HOI.out.len; omega) (fun y hy => by have := HOI.out.deep y hy; omega)).mono ?_; rintro e w9 ⟨v9, rfl, hw9, hg9⟩; generalize hl2 : l ++ li.map RX.ReN.down = l2 at hw9; have HC9 := Lib.hid (HC8.out.app hw9 hg9); have HL2 := Lib.hid hl2; obtain ⟨A9, c9, rfl, -⟩ := hw9.form; clear hw9 hg9 hl2)))
    go_roundg k
    case measure => omega
    case rel => exact ⟨sti, l2, HC9.out, by rw [← HL2.out]; exact HRW.out.next HALT.out HK.out HEND.out hlt hl60 hD.1 HOI.out⟩
end
namespace RX
/-- The rounds of the alternatives: in step with the elder reader; or something is wrong, and known. -/
inductive AltI (s : List Int) (alt : St → List ReN × St) (c : Nat) (Q : List (List ReN) × St) (st : St) (K : Nat) (D : Int) (N : Nat) (k : Nat) : St → List ReN → Prop
  | sync (st' : St) (rows : List (List ReN)) : st'.ok = true → altLoop s alt k st' rows = Q → s.length + 1 ≤ k + st'.at_ → Fwd s (c + 1) st st' → (∀ l ∈ rows, ∀ x ∈ l, 0 ≤ x.deep ∧ x.deep ≤ D + 3) → rows.flatten.length ≤ 2 * (st'.at_ - st.at_) + 1 → (1 ≤ rows.length ∧ (rows.length = 1 → nxt s st' 0 = 124)) → AltI s alt c Q st K D N k st' (under (node 1 0 0 false false []) rows)
  | fail (st' : St) (l : List ReN) : st'.ok = false → st'.code = Q.2.code → st'.bat = Q.2.bat → Q.2.ok = false → st'.op = st.op → st'.at_ ≤ N + 8 → l.length ≤ K + 250 → (∀ x ∈ l, 0 ≤ x.deep ∧ x.deep ≤ D + 4) → AltI s alt c Q st K D N k st' l
section
variable {s : List Int} {alt : St → List ReN × St} {c : Nat} {st st' : St} {K : Nat} {D : Int} {N k : Nat} {l : List ReN}
theorem altP_eqQ (s : List Int) (alt : St → List ReN × St) (st : St) : altP s alt st = (if (altLoop s alt (s.length + 2 - (rowP s alt st).2.at_) (rowP s alt st).2 [(rowP s alt st).1]).1.length = 1 then (altLoop s alt (s.length + 2 - (rowP s alt st).2.at_) (rowP s alt st).2 [(rowP s alt st).1]).1.headD [] else under (node 1 0 0 false false []) (altLoop s alt (s.length + 2 - (rowP s alt st).2.at_) (rowP s alt st).2 [(rowP s alt st).1]).1, (altLoop s alt (s.length + 2 - (rowP s alt st).2.at_) (rowP s alt st).2 [(rowP s alt st).1]).2) := rfl
theorem altLoop_end {k : Nat} {st : St} {rows : List (List ReN)} (h : st.ok = false ∨ nxt s st 0 ≠ 124) : altLoop s alt k st rows = (rows, st) := by
  cases k with
  | zero => rfl
  | succ k =>
    unfold altLoop
    rw [if_neg (by
      intro h1
      simp only [Bool.and_eq_true, decide_eq_true_eq] at h1
      rcases h with h | h
      · rw [h1.1] at h; cases h
      · exact h h1.2)]
theorem alt_stop {lr : List ReN} {str : St} (h : QOut (rowP s alt st) st (K + 125) (D + 3) (N + 8) lr str) (hn : nxt s str 0 ≠ 124) : QOut (altP s alt st) st (K + 250) (D + 4) (N + 9) lr str := by
  have e : altP s alt st = ((rowP s alt st).1, (rowP s alt st).2) := by
    rw [altP_eqQ]
    have hx : (rowP s alt st).2.ok = false ∨ nxt s (rowP s alt st).2 0 ≠ 124 := by
      rcases hk : (rowP s alt st).2.ok with _ | _
      · exact .inl rfl
      · right; rw [← (h.good hk).2]; exact hn
    rw [altLoop_end hx]
    rfl
  rw [e]
  exact h.mono (by omega) (by omega) (by omega)
theorem AltI.start (halt : AltOk s c D alt) (hD : 0 ≤ D) (ha : st.at_ ≤ s.length) (h9 : st.caps ≤ 9) {lr : List ReN} {str : St} (h : QOut (rowP s alt st) st (K + 125) (D + 3) (N + 8) lr str) (hn : nxt s str 0 = 124) :
    AltI s alt c (altLoop s alt (s.length + 2 - (rowP s alt st).2.at_) (rowP s alt st).2 [(rowP s alt st).1]) st K D N (s.length + 2 - str.at_) str (node 1 0 0 false false [] :: lr.map ReN.down) := by
  have hf := rowP_fwd halt hD ha h9
  rcases hk : (rowP s alt st).2.ok with _ | _
  · rw [altLoop_end (.inl hk)]
    obtain ⟨e1, e2⟩ := h.bad hk
    refine .fail _ _ (by rw [h.ok]; exact hk) e1 e2 hk h.op h.hi ?_ ?_
    · have := h.len; simp; omega
    · intro x hx
      rcases List.mem_cons.1 hx with rfl | hx
      · exact ⟨Int.le_refl _, by show (0 : Int) ≤ D + 4; omega⟩
      · obtain ⟨y, hy, rfl⟩ := List.mem_map.1 hx
        have := h.deep y hy
        exact ⟨by show 0 ≤ y.deep + 1; omega, by show y.deep + 1 ≤ D + 4; omega⟩
  · obtain ⟨rfl, rfl⟩ := h.good hk
    have hat := hf.1.okl hk
    rw [← under_one]
    exact .sync _ _ hk rfl (by omega) hf.1 (by intro l hl x hx; simp at hl; subst hl; exact hf.2.2 x hx) (by simpa using hf.2.1) ⟨Nat.le_refl _, fun _ => hn⟩
variable {Q : List (List ReN) × St}
theorem AltI.shape (h : AltI s alt c Q st K D N k st' l) (hl : s.length ≤ 60) (hD : 0 ≤ D) : l.length ≤ K + 250 ∧ (∀ x ∈ l, 0 ≤ x.deep ∧ x.deep ≤ D + 4) ∧ st'.op = st.op := by
  cases h with
  | sync rows h1 h2 h3 h4 h5 h6 h7 =>
    have := under_tr (top := node 1 0 0 false false []) rfl (show 0 ≤ D + 3 by omega) h5
    have h7 := h4.okl h1
    refine ⟨Nat.le_trans this.1 (by omega), fun x hx => ⟨(this.2 x hx).1, by have := (this.2 x hx).2; omega⟩, h4.op⟩
  | fail _ _ _ _ _ h5 _ h7 h8 => exact ⟨h7, h8, h5⟩
theorem AltI.live (h : AltI s alt c Q st K D N k st' l) (hok : st'.ok = true) : st'.at_ ≤ s.length ∧ st'.caps ≤ 9 ∧ s.length + 1 ≤ k + st'.at_ ∧ 0 < l.length := by
  cases h with
  | sync _ h1 h2 h3 h4 => exact ⟨h4.okl h1, h4.caps9, h3, Nat.succ_pos _⟩
  | fail _ h1 => rw [hok] at h1; cases h1
theorem AltI.stop (h : AltI s alt c Q st K D N k st' l) (he : st'.ok = false ∨ nxt s st' 0 ≠ 124) (hl : s.length ≤ 60) (hD : 0 ≤ D) (hN : s.length ≤ N) : QOut (if Q.1.length = 1 then Q.1.headD [] else under (node 1 0 0 false false []) Q.1, Q.2) st (K + 250) (D + 4) (N + 9) l st' := by
  have hsh := h.shape hl hD
  cases h with
  | sync rows h1 h2 h3 h4 h5 h6 h7 =>
    have hn : nxt s st' 0 ≠ 124 := he.resolve_left (by rw [h1]; simp)
    rw [altLoop_end (.inr hn)] at h2
    subst h2
    have h8 := h4.okl h1
    rw [if_neg (fun h => hn (h7.2 h))]
    exact ⟨hsh.1, hsh.2.1, by omega, h4.op, fun _ => ⟨rfl, rfl⟩, fun _ => ⟨rfl, rfl⟩⟩
  | fail _ _ h2 h3 h4 h5 h6 h7 h8 => exact ⟨h7, h8, by omega, h5, (fun h => by rw [h4] at h; cases h), fun _ => ⟨h2, h3⟩⟩
theorem AltI.next (halt : AltOk s c D alt) (h : AltI s alt c Q st K D N (k + 1) st' l) (hok : st'.ok = true) (he : nxt s st' 0 = 124) (hlt : st'.at_ < s.length) (hl : s.length ≤ 60) (hD : 0 ≤ D) {lr : List ReN} {str : St}
    (hi : QOut (rowP s alt (st'.bump 1)) (st'.bump 1) (K + 125) (D + 3) (N + 8) lr str) : AltI s alt c Q st K D N k str (l ++ lr.map ReN.down) := by
  cases h with
  | sync rows h1 h2 h3 h4 h5 h6 h7 =>
    unfold altLoop at h2
    rw [if_pos (by rw [h1, he]; rfl)] at h2
    have hb := h4.bump 1 hlt
    have hst : (st'.bump 1).at_ = st'.at_ + 1 := rfl
    have hf := rowP_fwd halt hD (st := st'.bump 1) hlt hb.caps9
    have hlen0 := h7.1
    rw [← under_snoc]
    rcases hk : (rowP s alt (st'.bump 1)).2.ok with _ | _
    · obtain ⟨e1, e2⟩ := hi.bad hk
      rw [altLoop_end (.inl hk)] at h2
      have hu := under_tr (top := node 1 0 0 false false []) (parts := rows ++ [lr]) rfl (show 0 ≤ D + 3 by omega) (by
        intro l hl x hx
        rcases List.mem_append.1 hl with hl | hl
        · exact h5 l hl x hx
        · simp at hl; subst hl; exact hi.deep x hx)
      have hlen : (rows ++ [lr]).flatten.length ≤ 2 * (st'.at_ - st.at_) + 1 + (K + 125) := by
        rw [List.flatten_append, List.length_append, List.flatten_singleton]
        have := hi.len
        omega
      refine .fail str _ (by rw [hi.ok]; exact hk) (by rw [← h2]; exact e1) (by rw [← h2]; exact e2) (by rw [← h2]; exact hk) (hi.op.trans h4.op) hi.hi (Nat.le_trans hu.1 (by omega)) (fun x hx => ⟨(hu.2 x hx).1, by have := (hu.2 x hx).2; omega⟩)
    · obtain ⟨rfl, rfl⟩ := hi.good hk
      have h8 := hf.2.1
      have h9 := h4.mono
      have h10 := hf.1.mono
      refine .sync _ _ hk h2 (by omega) (hb.trans hf.1) ?_ ?_ ?_
      · intro l hl x hx
        rcases List.mem_append.1 hl with hl | hl
        · exact h5 l hl x hx
        · simp at hl; subst hl; exact hf.2.2 x hx
      · rw [List.flatten_append, List.length_append, List.flatten_singleton]
        omega
      · rw [List.length_append]; simp only [List.length_cons, List.length_nil]; exact ⟨by omega, fun h => by omega⟩
  | fail _ h1 => rw [hok] at h1; cases h1
end
end RX
section
variable {w0 : World} {rb : Nat} {sv : Value} {s : List Int}
theorem qalt_any (n : Nat) (alt : RX.St → List RX.ReN × RX.St) {c K : Nat} {D : Int} {N : Nat} (halt : RX.AltOk s c D alt) (HA : ∀ m, n = m + 1 → AltQ w0 rb sv s m alt K D N) (hK : K ≤ 10000) (hD : 0 ≤ D ∧ D ≤ 100) (hN : s.length + 4 ≤ N ∧ N ≤ 400) :
    AltQ w0 rb sv s n (RX.altP s alt) (K + 250) (D + 4) (N + 9) := by
  intro w1 st he hok ha h9 hop
  have hl60 := he.len
  have hrb := he.rbl
  have HC1 := Lib.hid (show Qb w0 rb sv s w1 st w1 from ⟨he, Only.refl _ _⟩)
  obtain ⟨R, hR⟩ : ∃ x, RX.altP s alt st = x := ⟨_, rfl⟩
  have HR := Lib.hid hR
  rw [hR]
  have HOPN := Lib.hid hop
  have HOK := Lib.hid hok
  have HRO := Lib.hid (fun w st' h h1 h2 h3 h4 => qrow_any n alt halt HA hK hD hN w st' h h1 h2 h3 h4)
  have HALT := Lib.hid halt
  have HH := Lib.hid (And.intro ha h9)
  clear he hok hR HA hop halt
  go_enter Try.func27, Try.ntmps27
  go_upto_region 2 with (go_at_call 36; go_loud (refine (HRO.out _ _ HC1.out.q HOK.out ha h9 HOPN.out).mono ?_; rintro e w2 ⟨lr, vr, str, rfl, hv, hq, ho, hout⟩; have HC2 := Lib.hid (HC1.out.call ho hq); have HV2 := Lib.hid hv; have HO2 := Lib.hid hout; obtain ⟨Ar, cr, rfl, -⟩ := hv.form; clear hv hq ho hout))
  obtain ⟨c2, hc2⟩ : ∃ x, RX.nxt s str 0 = x := ⟨_, rfl⟩
  have HN2 := Lib.hid hc2
  by_cases h124 : c2 = 124
  rotate_left
  · have b124 : (c2 != 124) = true := by simpa using h124
    have HQ := Lib.hid (RX.alt_stop HO2.out (by rw [hc2]; exact h124))
    clear hc2 h124
    go_wp2_with (go_at_call 37; go_loud (refine (qnext_any _ _ HC2.out.q).mono ?_; rw [HN2.out]; rintro e w3 ⟨rfl, hx⟩; have HC3 := Lib.hid (HC2.out.ex hx); have HV3 := Lib.hid (HV2.out.keep (keeps_re _) (KeepT.of_ext hx) (KeepT.of_ext hx)); clear hx))
    go_ret
    exact ⟨_, _, _, rfl, HV3.out, HC3.out.q.blk, HC3.out.only, by rw [← HR.out]; exact HQ.out⟩
  have b124 : (c2 != 124) = false := by simpa using h124
  have HS := Lib.hid (RX.AltI.start HALT.out hD.1 ha h9 HO2.out (hc2.trans h124))
  have hR2 := HR.out
  rw [RX.altP_eqQ] at hR2
  generalize RX.altLoop s alt (s.length + 2 - (RX.rowP s alt st).2.at_) (RX.rowP s alt st).2 [(RX.rowP s alt st).1] = Q at HS hR2
  have HR2 := Lib.hid hR2
  have hbz := HC2.out.only.size
  obtain ⟨l4, hl4⟩ : ∃ x, RX.node 1 0 0 false false [] :: lr.map RX.ReN.down = x := ⟨_, rfl⟩
  rw [hl4] at HS
  have HL4 := Lib.hid hl4
  clear hc2 h124 hR2 hl4
  go_wp2_with (first
    | (go_at_call 37; go_loud (refine (qnext_any _ _ HC2.out.q).mono ?_; rw [HN2.out]; rintro e w3 ⟨rfl, hx⟩; have HC3 := Lib.hid (HC2.out.ex hx); have HV3 := Lib.hid (HV2.out.keep (keeps_re _) (KeepT.of_ext hx) (KeepT.of_ext hx)); clear hx))
    | (go_at_call 38; go_loud (refine (qunder_any (B := w1.heap.size) _ (RX.node 1 0 0 false false []) _ lr _ CR.mk0 HV3.out HC3.out.only.size (by have := HO2.out.len; omega) (fun y hy => by have := HO2.out.deep y hy; omega)).mono ?_; rintro e w4 ⟨v4, rfl, hv4, hx4⟩; rw [HL4.out] at hv4; have HC4 := Lib.hid (show Qr w0 rb sv s w1 str v4 l4 w4 from ⟨(HC3.out.ex hx4).q, (HC3.out.ex hx4).only, hv4, hrb⟩); obtain ⟨A4, c4, rfl, -⟩ := hv4.form; clear hv4 hx4)))
  go_loopg [4] (s.length + 2 - str.at_) (fun k v wr => ∃ (st' : RX.St) (l : List RX.ReN), Qr w0 rb sv s w1 st' v l wr ∧ RX.AltI s alt c Q st K D N k st' l)
  case atStart => exact ⟨str, l4, HC4.out, HS.out⟩
  case round =>
    obtain ⟨st', l, hcc, hrow⟩ := hrel
    have HC5 := Lib.hid hcc
    have HRW := Lib.hid hrow
    obtain ⟨Al, cl, rfl, -⟩ := hcc.own.form
    have hsh := hrow.shape hl60 hD.1
    have HSH := Lib.hid hsh
    have hln := hsh.1
    clear hcc hsh
    rcases hk' : st'.ok with _ | _
    · have HK := Lib.hid hk'
      have HQ := Lib.hid (hrow.stop (.inl hk') hl60 hD.1 (by omega))
      clear hk' hrow
      go_wp2_with (go_at_call 28; go_loud (refine (qok_any _ _ HC5.out.q).mono ?_; rw [HK.out]; rintro e w6 ⟨rfl, hx⟩; have HC6 := Lib.hid (HC5.out.ex hx); clear hx))
      go_ret
      exact ⟨_, _, _, rfl, HC6.out.own.sl, HC6.out.q.blk, HC6.out.only, by rw [← HR2.out]; exact HQ.out⟩
    have HK := Lib.hid hk'
    have hlv := hrow.live hk'
    have HLV := Lib.hid hlv
    have hlp := hlv.2.2.2
    obtain ⟨cn, hcn⟩ : ∃ x, RX.nxt s st' 0 = x := ⟨_, rfl⟩
    have HN := Lib.hid hcn
    by_cases hend : cn = 124
    rotate_left
    · have HQ := Lib.hid (hrow.stop (.inr (by rw [hcn]; exact hend)) hl60 hD.1 (by omega))
      have b1 : (cn == 124) = false := by simpa using hend
      clear hk' hrow hlv hcn hend
      go_wp2_with (first
        | (go_at_call 28; go_loud (refine (qok_any _ _ HC5.out.q).mono ?_; rw [HK.out]; rintro e w6 ⟨rfl, hx⟩; have HC6 := Lib.hid (HC5.out.ex hx); clear hx))
        | (go_at_call 37; go_loud (refine (qnext_any _ _ HC6.out.q).mono ?_; rw [HN.out]; rintro e w7 ⟨rfl, hx⟩; have HC7 := Lib.hid (HC6.out.ex hx); clear hx)))
      go_ret
      exact ⟨_, _, _, rfl, HC7.out.own.sl, HC7.out.q.blk, HC7.out.only, by rw [← HR2.out]; exact HQ.out⟩
    have b1 : (cn == 124) = true := by simpa using hend
    have hlt : st'.at_ < s.length := RX.nxt_in (s := s) (k := 0) (st := st') (by rw [hcn, hend]; decide)
    obtain ⟨k, rfl⟩ : ∃ k, gk = k + 1 := ⟨gk - 1, by have := hlv.2.2.1; omega⟩
    have HEND := Lib.hid (hcn.trans hend)
    clear hk' hrow hlv hcn hend
    go_upto_region 6 with (first
      | (go_at_call 28; go_loud (refine (qok_any _ _ HC5.out.q).mono ?_; rw [HK.out]; rintro e w6 ⟨rfl, hx⟩; have HC6 := Lib.hid (HC5.out.ex hx); clear hx))
      | (go_at_call 37; go_loud (refine (qnext_any _ _ HC6.out.q).mono ?_; rw [HN.out]; rintro e w7 ⟨rfl, hx⟩; have HC7 := Lib.hid (HC6.out.ex hx); clear hx)))
    have c1 := HC7.out.q.blk.c1
    have f1 := HC7.out.q.blk.fr 1
    go_upto_region 7 with fail
    have HC8 := Lib.hid HC7.out.bump1
    generalize w7.setCell _ _ = w8 at HC8 ⊢
    clear c1 f1
    go_wp2_with (first
      | (go_at_call 36; go_loud (refine (HRO.out _ _ HC8.out.q HK.out hlt HLV.out.2.1 (by show st'.op + n = 12; rw [HSH.out.2.2]; exact HOPN.out)).mono ?_; rintro e w9 ⟨li, vi, sti, rfl, hv, hq, ho, hout⟩; have HC9 := Lib.hid (HC8.out.call ho hq); have HAP := Lib.hid (re_apart HC8.out.own hv); have HVI := Lib.hid (SlRe.weak hv HC8.out.only.size); have HOI := Lib.hid hout; obtain ⟨Ai, ci, rfl, -⟩ := hv.form; clear hv hq ho hout))
      | (go_at_call 38; go_loud (refine (qlower_any w1.heap.size w1.heap.size w1.heap.size l li _ _ _ HC9.out.own HVI.out hlp HAP.out HC9.out.only.size (by have := HOI.out.len; omega) (fun y hy => by have := HOI.out.deep y hy; omega)).mono ?_; rintro e wA ⟨v9, rfl, hw9, hg9⟩; generalize hl2 : l ++ li.map RX.ReN.down = l2 at hw9; have HCA := Lib.hid (HC9.out.app hw9 hg9); have HL2 := Lib.hid hl2; obtain ⟨A9, c9, rfl, -⟩ := hw9.form; clear hw9 hg9 hl2)))
    go_roundg k
    case measure => omega
    case rel => exact ⟨sti, l2, HCA.out, by rw [← HL2.out]; exact HRW.out.next HALT.out HK.out HEND.out hlt hl60 hD.1 HOI.out⟩
end
theorem qaltN {w0 : World} {rb : Nat} {sv : Value} {s : List Int} (hl : s.length ≤ 60) : ∀ n, n ≤ 12 → AltQ w0 rb sv s n (RX.altN s n) (250 * (n + 1)) (4 * n + 4) (s.length + 4 + 9 * (n + 1))
  | 0, _ => by
    have h := qalt_any (w0 := w0) (rb := rb) (sv := sv) (s := s) 0 (fun st => ([], st)) (c := 1) (K := 0) (D := 0) (N := s.length + 4) RX.AltOk.stub (fun m hm => by cases hm) (by omega) (by omega) (by omega)
    exact h
  | n + 1, hn => by
    have h := qalt_any (w0 := w0) (rb := rb) (sv := sv) (s := s) (n + 1) (RX.altN s n) (RX.altN_ok s n) (fun m hm => by injection hm with hm; subst hm; exact qaltN hl n (by omega)) (by omega) (by omega) (by omega)
    rw [show 250 * (n + 1) + 250 = 250 * (n + 1 + 1) by omega, show (4 * (n : Int) + 4) + 4 = 4 * ((n + 1 : Nat) : Int) + 4 by omega, show s.length + 4 + 9 * (n + 1) + 9 = s.length + 4 + 9 * (n + 1 + 1) by omega] at h
    exact h
theorem class_sign (x : Int) : (RX.classOf x == 0) = !RX.isSign x := by
  unfold RX.classOf
  rcases h : RX.isSign x with _ | _
  · simp
  · simp only [if_neg (show ¬ (true = false) by decide)]
    split
    · rfl
    split
    · rfl
    split
    · rfl
    split
    · rfl
    · rfl
theorem sign_pos {x : Int} (h : RX.isSign x = true) : 0 ≤ x := by
  unfold RX.isSign at h
  simp only [Bool.and_eq_true, decide_eq_true_eq] at h
  exact h.1.1
theorem parse_some {s : List Int} {k : Nat} {x : Int} (hx : s[k]? = some x) (hn : RX.isSign x = false) (hp : ∀ j, j < k → ∀ x, s[j]? = some x → RX.isSign x = true) : s.findIdx? (fun c => RX.classOf c == 0) = some k := by
  obtain ⟨hk, hx⟩ := List.getElem?_eq_some_iff.1 hx
  rw [List.findIdx?_eq_some_iff_getElem]
  refine ⟨hk, by rw [class_sign, hx, hn]; rfl, fun j hj => ?_⟩
  rw [class_sign, hp j hj _ (List.getElem?_eq_getElem (by omega))]
  decide
theorem parse_none {s : List Int} (hp : ∀ x ∈ s, RX.isSign x = true) : s.findIdx? (fun c => RX.classOf c == 0) = none := by
  rw [List.findIdx?_eq_none_iff]
  intro x hx
  rw [class_sign, hp x hx]
  rfl
/-- Inside of Parse: the reader behind the fault's cells; the tree. -/
structure Pq (w : World) (nb : Nat) (s : List Int) (sv : Value) (st : RX.St) (vl : Value) (l : List RX.ReN) (wr : World) : Prop where
  q : Qn (w.alloc (.cells #[.int .i64 0, .int .i64 0] 39)) (nb + 1) sv s wr st
  ext : Ext w wr
  box : wr.heap[nb]? = some (.cells #[.int .i64 0, .int .i64 0] 39 (0, 0))
  val : SlRe (nb + 2) (nb + 2) wr vl l
  nbs : nb = w.heap.size
section
variable {w wr w' : World} {nb : Nat} {s : List Int} {sv vl vl' : Value} {st st' : RX.St} {l l' : List RX.ReN}
theorem Pq.call (h : Pq w nb s sv st vl l wr) (ho : Only wr w' (nb + 1)) (hq : QS (nb + 1) sv w' st') : Pq w nb s sv st' vl l w' :=
  ⟨h.q.step ho hq, h.ext.only ho (by have := h.nbs; omega), (ho.block nb (heap_lt h.box) (by intro e; injection e with e; omega)).trans h.box, SlB.only h.val (keepsB_re _) ho, h.nbs⟩
theorem Pq.ex (h : Pq w nb s sv st vl l wr) (hx : Ext wr w') : Pq w nb s sv st vl l w' := h.call (Only.of_ext hx _) (hx.heap h.q.blk)
theorem Pq.setv (h : Pq w nb s sv st vl l wr) (hv : SlRe (nb + 2) (nb + 2) wr vl' l') : Pq w nb s sv st vl' l' wr := ⟨h.q, h.ext, h.box, hv, h.nbs⟩
theorem Pq.done {n : Nat} {x y : Value} (h : Pq w nb s sv st vl l wr) : SlRe w.heap.size w.heap.size (((wr.drewN n).setCell ⟨nb, 0, none⟩ x).setCell ⟨nb, 1, none⟩ y) vl l ∧ Ext w (((wr.drewN n).setCell ⟨nb, 0, none⟩ x).setCell ⟨nb, 1, none⟩ y) := by
  have hb := h.nbs
  have ho : Only wr (((wr.drewN n).setCell ⟨nb, 0, none⟩ x).setCell ⟨nb, 1, none⟩ y) nb := (((Only.refl _ _).drewN n).set _).set _
  exact ⟨SlRe.weak (SlB.keepB h.val (keepsB_re _) (KeepB.low ho (by omega))) (by omega), h.ext.only ho (by omega)⟩
end
theorem qparse_any (s : List Int) (v : Value) (w : World) (hv : SlC w v s) : Calls Try.prog 13 #[v] w (ParseP s w) := by
  obtain ⟨A, c, rfl, hlc, hcm, _⟩ := id hv
  by_cases hlen : 60 < s.length
  · have hP := Lib.hid (show RX.parse s = ([], 3, 60) by unfold RX.parse; rw [if_pos hlen])
    have hd : decide ((60 : Int) < s.length) = true := by simp; omega
    clear hv
    go_enter Try.func13, Try.ntmps13
    go_wp2_with fail
    refine bodyPost_ret (v := .tuple #[.slice none 0 0, .agg #[.int .i64 3, .int .i64 60]]) (by simp [results, Try.results13, go_sem]) rfl ?_
    exact ⟨_, _, rfl, by rw [hP.out]; exact ⟨SlB.nil_, rfl⟩, (Ext.refl w).alloc _⟩
  have hd : decide ((60 : Int) < s.length) = false := by simp; omega
  have hl60 : s.length ≤ 60 := by omega
  have HS := Lib.hid (hv.ext ((Ext.refl w).alloc (.cells #[.int .i64 0, .int .i64 0] 39)))
  have HP := Lib.hid (show RX.parse s = match s.findIdx? (fun c => RX.classOf c == 0) with
    | some i => ([], 1, (i : Int))
    | none =>
      let r := RX.altN s 12 ⟨0, 0, 0, 0, 0⟩
      let st := if r.2.ok = true ∧ r.2.at_ < s.length then r.2.fail 5 r.2.at_ else r.2
      if st.ok then (r.1, 0, 0) else ([], st.code, st.bat) from by unfold RX.parse; rw [if_neg hlen]; rfl)
  clear hv hlen
  go_enter Try.func13, Try.ntmps13
  go_wp2_with fail
  go_loop [4] (fun i => ∃ k : Nat, k ≤ s.length ∧ i = .int .i64 k ∧ ∀ j, j < k → ∀ x, s[j]? = some x → RX.isSign x = true) (fun i => s.length - (intOf i).toNat)
  case atStart => exact ⟨0, Nat.zero_le _, rfl, by intro j hj; omega⟩
  case round =>
    obtain ⟨k, hk, rfl, hpre⟩ := hrel
    have HPR := Lib.hid hpre
    clear hpre
    by_cases hlt : k < s.length
    · obtain ⟨b, o, rfl, hc⟩ := HS.out.at_ (k := k) hlt
      have hki : (k : Int) < (s.length : Int) := by omega
      have hdk : decide ((k : Int) < (s.length : Int)) = true := decide_eq_true hki
      have hg : s[k]? = some s[k] := List.getElem?_eq_getElem hlt
      generalize s[k] = x at hc hg
      have HG := Lib.hid hg
      clear hg
      rcases hsg : RX.isSign x with _ | _
      · have HSG := Lib.hid hsg
        clear hsg
        go_wp2_with (go_at_call 26; go_loud (refine (rsignQ_any x _).mono ?_; rw [HSG.out]; rintro e w3 ⟨rfl, rfl⟩))
        have hp1 := HP.out
        rw [parse_some HG.out HSG.out HPR.out] at hp1
        refine bodyPost_ret (v := .tuple #[.slice none 0 0, .agg #[.int .i64 1, .int .i64 k]]) (by simp [results, Try.results13, go_sem]) rfl ?_
        exact ⟨_, _, rfl, by rw [hp1]; exact ⟨SlB.nil_, rfl⟩, (Ext.refl w).alloc _⟩
      · have HSG := Lib.hid hsg
        clear hsg
        go_wp2_with (go_at_call 26; go_loud (refine (rsignQ_any x _).mono ?_; rw [HSG.out]; rintro e w3 ⟨rfl, rfl⟩))
        go_round
        case rel => exact ⟨k + 1, by omega, by go_num, by
          intro j hj y hy
          rcases Nat.lt_succ_iff_lt_or_eq.1 hj with h | rfl
          · exact HPR.out j h y hy
          · rw [HG.out] at hy; injection hy with hy; rw [← hy]; exact HSG.out⟩
        case measure => simp [intOf]; omega
    · have hdk : decide ((k : Int) < (s.length : Int)) = false := by simp; omega
      go_upto_region 9 with fail
      have hall : ∀ x ∈ s, RX.isSign x = true := by
        intro x hx
        obtain ⟨j, hj, e⟩ := List.mem_iff_getElem.1 hx
        exact HPR.out j (by omega) x (by rw [List.getElem?_eq_getElem hj, e])
      have hp1 := HP.out
      rw [parse_none hall] at hp1
      dsimp only at hp1
      obtain ⟨nb, hnb⟩ : ∃ nb, nb = w.heap.size := ⟨_, rfl⟩
      have HC1 := Lib.hid (show Pq w nb s (.slice A s.length c) ⟨0, 0, 0, 0, 0⟩ (.slice none 0 0) [] ((w.alloc (.cells #[.int .i64 0, .int .i64 0] 39)).alloc (.cells #[.slice A s.length c, .int .i64 0, .int .i64 0, .int .i64 0, .int .i64 0, .int .i64 0] 60)) from
        ⟨⟨HS.out, by simp; omega, hl60, fun x hx => sign_pos (hall x hx), (Ext.refl _).alloc _, by
            have := heap_alloc_new (w.alloc (.cells #[.int .i64 0, .int .i64 0] 39)) (.cells #[.slice A s.length c, .int .i64 0, .int .i64 0, .int .i64 0, .int .i64 0, .int .i64 0] 60)
            rw [show nb + 1 = (w.alloc (.cells #[.int .i64 0, .int .i64 0] 39)).heap.size by simp; omega]
            exact this⟩, ((Ext.refl w).alloc _).alloc _, ((Ext.refl _).alloc _).heap (hnb ▸ heap_alloc_new w _), SlB.nil_, hnb⟩)
      have HAL := Lib.hid (qaltN (w0 := w.alloc (.cells #[.int .i64 0, .int .i64 0] 39)) (rb := nb + 1) (sv := .slice A s.length c) (s := s) hl60 12 (Nat.le_refl _))
      generalize hr : RX.altN s 12 ⟨0, 0, 0, 0, 0⟩ = r at hp1
      generalize hsq : (if r.2.ok = true ∧ r.2.at_ < s.length then r.2.fail 5 r.2.at_ else r.2) = stq at hp1
      have HSQ := Lib.hid hsq
      have HR := Lib.hid hr
      have HPP := Lib.hid hp1
      have HNB := Lib.hid hnb
      have hbz : nb + 2 ≤ ((w.alloc (.cells #[.int .i64 0, .int .i64 0] 39)).alloc (.cells #[.slice A s.length c, .int .i64 0, .int .i64 0, .int .i64 0, .int .i64 0, .int .i64 0] 60)).heap.size := HC1.out.q.rbl
      rw [← hnb]
      generalize (w.alloc _).alloc _ = w2 at HC1 hbz ⊢
      clear hp1 hr hall hdk hlt hnb hsq
      go_upto_region 10 with (go_at_call 27; go_loud (refine (HAL.out _ _ HC1.out.q rfl (Nat.zero_le _) (by decide) rfl).mono ?_; rintro e w3 ⟨l, v, st, rfl, hv, hq, ho, hout⟩; have HC3 := Lib.hid ((HC1.out.call ho hq).setv (SlRe.weak hv hbz)); rw [HR.out] at hout; have HO := Lib.hid hout; obtain ⟨Av, cv, rfl, -⟩ := hv.form; clear hv hq ho hout))
      rcases hk' : st.ok with _ | _
      · have HK := Lib.hid hk'
        have hrk : r.2.ok = false := by rw [← HO.out.ok]; exact hk'
        have hcb := HO.out.bad hrk
        have hp := HPP.out
        have hk2 : stq = r.2 := by rw [← HSQ.out, if_neg (by rw [hrk]; simp)]
        rw [hk2, if_neg (by rw [hrk]; simp), ← hcb.1, ← hcb.2] at hp
        have HPX := Lib.hid hp
        clear hk' hrk hcb hp hk2
        go_upto_region 13 with (first
          | (go_at_call 28; go_loud (refine (qok_any _ _ HC3.out.q).mono ?_; rw [HK.out]; rintro e w4 ⟨rfl, hx⟩; have HC4 := Lib.hid (HC3.out.ex hx); have c1 := HC4.out.q.blk.c1; clear hx))
          | (go_at_call 28; go_loud (refine (qok_any _ _ HC4.out.q).mono ?_; rw [HK.out]; rintro e w5 ⟨rfl, hx⟩; have HC5 := Lib.hid (HC4.out.ex hx); have c1 := HC5.out.q.blk.c1; clear hx)))
        have c4 := HC5.out.q.blk.c4
        have c5 := HC5.out.q.blk.c5
        have b0 := cell_of_row _ nb 0 _ _ _ HC5.out.box
        have b1 := cell_of_row _ nb 1 _ _ _ HC5.out.box
        have g0 := frozen_of_row _ nb 0 _ _ HC5.out.box
        have g1 := frozen_of_row _ nb 1 _ _ HC5.out.box
        go_region
        all_goals go_wp2_with fail
        all_goals refine bodyPost_ret (v := .tuple #[.slice none 0 0, .agg #[.int .i64 st.code, .int .i64 st.bat]]) (by simp [results, Try.results13, go_sem, *]) rfl ?_
        all_goals
          have hd := HC5.out.done (n := 1) (x := .int .i64 st.code) (y := .int .i64 st.bat)
          exact ⟨_, _, rfl, by rw [HPX.out]; exact ⟨SlB.nil_, rfl⟩, hd.2⟩
      have HK := Lib.hid hk'
      have hrk : r.2.ok = true := by rw [← HO.out.ok]; exact hk'
      obtain ⟨e1, e2⟩ := HO.out.good hrk
      have hp := HPP.out
      have hsq := HSQ.out
      rw [← e1] at hp
      rw [← e2] at hsq
      have hnl : st.at_ ≤ 1000 := by have := HO.out.hi; omega
      by_cases hat : st.at_ < s.length
      · have hda : decide ((st.at_ : Int) < (s.length : Int)) = true := by simp; omega
        have hno := RX.failno st st.at_
        rw [if_pos ⟨hk', hat⟩] at hsq
        rw [← hsq, if_neg (by rw [hno]; simp)] at hp
        have HPX := Lib.hid hp
        have HNO := Lib.hid hno
        clear hk' hrk e1 e2 hp hno hsq
        go_upto_region 11 with (go_at_call 28; go_loud (refine (qok_any _ _ HC3.out.q).mono ?_; rw [HK.out]; rintro e w4 ⟨rfl, hx⟩; have HC4 := Lib.hid (HC3.out.ex hx); have c1 := HC4.out.q.blk.c1; clear hx))
        go_upto_region 13 with (first
          | (go_at_call 29; go_loud (refine (qbad_any _ _ 5 (st.at_ : Int) HC4.out.q).mono ?_; rintro e w6 ⟨rfl, hq, ho⟩; have HC6 := Lib.hid (HC4.out.call ho hq); clear hq ho))
          | (go_at_call 28; go_loud (refine (qok_any _ _ HC6.out.q).mono ?_; rw [HNO.out]; rintro e w5 ⟨rfl, hx⟩; have HC5 := Lib.hid (HC6.out.ex hx); have c1 := HC5.out.q.blk.c1; clear hx)))
        generalize st.fail 5 (st.at_ : Int) = st2 at HC5 HPX
        have c4 := HC5.out.q.blk.c4
        have c5 := HC5.out.q.blk.c5
        have b0 := cell_of_row _ nb 0 _ _ _ HC5.out.box
        have b1 := cell_of_row _ nb 1 _ _ _ HC5.out.box
        have g0 := frozen_of_row _ nb 0 _ _ HC5.out.box
        have g1 := frozen_of_row _ nb 1 _ _ HC5.out.box
        go_region
        all_goals go_wp2_with fail
        all_goals refine bodyPost_ret (v := .tuple #[.slice none 0 0, .agg #[.int .i64 st2.code, .int .i64 st2.bat]]) (by simp [results, Try.results13, go_sem, *]) rfl ?_
        all_goals
          have hd := HC5.out.done (n := 1) (x := .int .i64 st2.code) (y := .int .i64 st2.bat)
          exact ⟨_, _, rfl, by rw [HPX.out]; exact ⟨SlB.nil_, rfl⟩, hd.2⟩
      · have hda : decide ((st.at_ : Int) < (s.length : Int)) = false := by simp; omega
        rw [if_neg (fun h => hat h.2)] at hsq
        rw [← hsq, if_pos hk'] at hp
        have HPX := Lib.hid hp
        clear hk' hrk e1 e2 hp hsq
        go_upto_region 14 with (first
          | (go_at_call 28; go_loud (refine (qok_any _ _ HC3.out.q).mono ?_; rw [HK.out]; rintro e w4 ⟨rfl, hx⟩; have HC4 := Lib.hid (HC3.out.ex hx); have c1 := HC4.out.q.blk.c1; clear hx))
          | (go_at_call 28; go_loud (refine (qok_any _ _ HC4.out.q).mono ?_; rw [HK.out]; rintro e w5 ⟨rfl, hx⟩; have HC5 := Lib.hid (HC4.out.ex hx); have c1 := HC5.out.q.blk.c1; clear hx)))
        have b0 := cell_of_row _ nb 0 _ _ _ HC5.out.box
        have b1 := cell_of_row _ nb 1 _ _ _ HC5.out.box
        have g0 := frozen_of_row _ nb 0 _ _ HC5.out.box
        have g1 := frozen_of_row _ nb 1 _ _ HC5.out.box
        go_wp2_with fail
        refine bodyPost_ret (v := .tuple #[.slice Av l.length cv, .agg #[.int .i64 0, .int .i64 0]]) (by simp [results, Try.results13, go_sem, b0, b1]) rfl ?_
        have hd := HC5.out.done (n := 0) (x := .int .i64 0) (y := .int .i64 0)
        exact ⟨_, _, rfl, by rw [HPX.out]; exact ⟨hd.1, rfl⟩, hd.2⟩
theorem qgroups_any (l : List RX.ReN) (B : Nat) (v : Value) (w : World) (hv : SlRe B B w v l) (_hl : l.length ≤ 1000000) : Calls Try.prog 16 #[v] w (Ret (.int .i64 (RX.groups l : Nat)) w) := by
  obtain ⟨A, c, rfl, hlc, hcm⟩ := hv.form
  have HV := Lib.hid hv
  clear hv
  go_enter Try.func16, Try.ntmps16
  go_wp2_with fail
  go_loopw [3, 4] (fun n i wr => ∃ k : Nat, k ≤ l.length ∧ i = .int .i64 k ∧ n = .int .i64 (RX.groups (l.take k) : Nat) ∧ RX.groups (l.take k) ≤ k ∧ Ext w wr) (fun _ i _ => l.length - (intOf i).toNat)
  case atStart => exact ⟨0, Nat.zero_le _, rfl, rfl, Nat.le_refl _, Ext.refl w⟩
  case round =>
    obtain ⟨k, hk, rfl, rfl, hg, hE⟩ := hrel
    have HE := Lib.hid hE
    by_cases hlt : k < l.length
    · obtain ⟨g, o, cs, rfl, hcr, hcell⟩ := (HV.out.keep (keeps_re B) (KeepT.of_ext hE) (KeepT.of_ext hE)).at_ hlt
      have hdk : decide ((k : Int) < (l.length : Int)) = true := by simp; omega
      have hki : (k : Int) < (l.length : Int) := by omega
      have HT := Lib.hid (groups_take l hlt)
      generalize l[k] = x at hcr HT
      obtain ⟨n2, hn2⟩ : ∃ n2, RX.groups (l.take (k + 1)) = n2 := ⟨_, rfl⟩
      rw [hn2] at HT
      have HN := Lib.hid hn2
      clear hn2
      generalize RX.groups (l.take k) = n1 at HT hg ⊢
      obtain ⟨Ax, cx, rfl⟩ := hcr.cells
      have c0 := hcell 0 _ rfl
      have c2 := hcell 2 _ rfl
      rw [Nat.add_zero] at c0
      clear hcell hcr hE
      rcases h5 : (x.kind == 5) with _ | _
      · have HX := Lib.hid (show n2 = n1 by rw [HT.out, if_neg (fun h => beq_eq_false_iff_ne.1 h5 h.1)]; rfl)
        go_wp2_with fail
        go_roundw
        case rel => exact ⟨k + 1, by omega, by go_num, by rw [HN.out, HX.out], by rw [HN.out, HX.out]; omega, HE.out⟩
        case measure => simp [intOf]; omega
      · rcases h0 : decide (0 < x.lo) with _ | _
        · have HX := Lib.hid (show n2 = n1 by rw [HT.out, if_neg (fun h => of_decide_eq_false h0 h.2)]; rfl)
          go_wp2_with fail
          go_roundw
          case rel => exact ⟨k + 1, by omega, by go_num, by rw [HN.out, HX.out], by rw [HN.out, HX.out]; omega, HE.out⟩
          case measure => simp [intOf]; omega
        · have HX := Lib.hid (show n2 = n1 + 1 by rw [HT.out, if_pos ⟨beq_iff_eq.1 h5, of_decide_eq_true h0⟩])
          go_wp2_with fail
          go_roundw
          case rel => exact ⟨k + 1, by omega, by go_num, by rw [HN.out, HX.out]; go_num, by rw [HN.out, HX.out]; omega, HE.out⟩
          case measure => simp [intOf]; omega
    · have hkl : k = l.length := by omega
      have hdk : decide ((k : Int) < (l.length : Int)) = false := by simp; omega
      have HK := Lib.hid hkl
      clear hkl hE
      go_wp2_with fail
      go_ret
      exact ⟨ret_congr (by rw [HK.out, List.take_length]; rfl), HE.out⟩
end Go.Proofs.Ytpcdknfmgacggaa
