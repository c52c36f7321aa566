/- Walk: the law TransformNone. -/
import Derived.Test.YtfblkahjefdmaaaTuA
namespace Go.Proofs.Ytfblkahjefdmaaa
open Go.RowKit

theorem slf_gf {w : World} {g n : Nat} (hg : g = w.heap.size) (hn : n = 1) : SlF (w.alloc (.cells #[.int .i64 1, .int .i64 0, .int .i64 0, .slice none 0 0, .slice none 0 0] 82)) (.slice (some ⟨g, 0, none⟩) n n) [TR.gF] := by
  subst hg hn
  refine ⟨_, 1, rfl, Nat.le_refl _, by omega, fun k x hk => ⟨w.heap.size, 0, rfl, ?_⟩, by intro h; cases h⟩
  match k, hk with
  | 0, hk =>
    simp at hk
    subst hk
    exact ⟨_, ⟨.slice none 0 0, .slice none 0 0, rfl, SlR.nil_, SlR.nil_⟩, fun i u hu => by
      rw [Nat.zero_mul, Nat.add_zero, Nat.zero_add, World.cell?_alloc_new]
      have hu : ([.int .i64 1, .int .i64 0, .int .i64 0, .slice none 0 0, .slice none 0 0] : List Value)[i]? = some u := hu
      simpa using hu⟩
set_option maxRecDepth 100000 in
set_option maxHeartbeats 4000000 in
theorem transformNone_any (ts : List Int) (v : Value) (all fold : Bool) (w : World) (hv : SlI w v ts) : Calls Try.prog 13 #[v, .bool all, .bool fold] w (Ret (.bool true) w) := by
  obtain ⟨A, c, rfl, hlc, hcm, _⟩ := id hv
  have he0 : Ten w w.heap.size (.slice A ts.length c) ts (w.alloc (.cells #[.slice A ts.length c, .int .i64 0] 26)) 0 :=
    ⟨hv, Nat.le_refl _, (Ext.refl w).alloc _, heap_alloc_new w _, Nat.zero_le _⟩
  have HMA := Lib.hid (made12_any _ _ he0)
  have HE0 := Lib.hid he0
  have HK := Lib.hid known12_any
  clear he0 hv
  go_enter Try.func13, Try.ntmps13
  go_wp2_with fail
  refine HMA.out.mono ?_
  rintro e w1 ⟨p, l, vp, vl, j1, rfl, hp1, hl1, hr1, ho1, hj1, -, hmay, -⟩
  have hT1 := HE0.out.step ho1 hr1 hj1
  have HT1 := Lib.hid hT1
  have HP1 := Lib.hid hp1
  have HL1 := Lib.hid hl1
  have HMY := Lib.hid hmay
  obtain ⟨Ap, cp, rfl, -⟩ := hp1.form
  obtain ⟨Al, cl, rfl, -⟩ := hl1.form
  clear hT1 hp1 hl1 hr1 ho1 hj1 hmay HMA HE0
  go_wp2_with fail
  refine (ttext2_any 20 (by omega) w1 j1 HT1.out).mono ?_
  rintro e w2 ⟨v2, j2, rfl, ⟨s, hsl, hsg, hsv⟩, hr2, ho2, hj2⟩
  have HE2 := Lib.hid (HT1.out.step ho2 hr2 hj2).ext
  have HP2 := Lib.hid (SlB.slc (SlB.keep HP1.out (keeps_c []) (ho2.keepT HT1.out.st (by decide)) (ho2.keepT HT1.out.st (by decide))))
  have HL2 := Lib.hid (SlB.slf (HL1.out.keep (T := [21]) (fun _ _ _ _ hk hc => CF.keepT hc hk) (ho2.keepT HT1.out.st (by decide)) (ho2.keepT HT1.out.st (by decide))))
  have HS2 := Lib.hid (SlB.slc hsv)
  have HSG := Lib.hid hsg
  obtain ⟨As, cs, rfl, -, -⟩ := hsv.form
  clear hsg hsv hr2 ho2 hj2 HT1 HP1 HL1
  go_wp2_with fail
  refine (mnew_any p fold _ _ HP2.out).mono ?_
  rintro e w3 ⟨hE3, hnew⟩
  rcases hnew with ⟨hc0, rfl⟩ | ⟨pl, t, k, mb, vq, hcm, hpt, hmd, hst, hgl, rfl, hmt, -, -⟩
  · obtain ⟨R, hR⟩ : ∃ R, PG.compile p = R := ⟨_, rfl⟩
    rw [hR] at hc0 ⊢
    obtain ⟨pl, code, bat⟩ := R
    dsimp only at hc0 ⊢
    have hb : (code != 0) = true := by simpa using hc0
    have HX3 := Lib.hid (HE2.out.trans (hE3.alloc (.cells #[.int .i64 code, .int .i64 bat] 36)))
    have f0 : (w3.alloc (.cells #[.int .i64 code, .int .i64 bat] 36)).cell? ⟨w3.heap.size, 0, none⟩ = some (.int .i64 code) := by rw [World.cell?_alloc_new]; rfl
    clear hE3 hR hc0
    go_upto_region 5 with fail
    generalize w3.alloc _ = w4 at f0 HX3 ⊢
    generalize w3.heap.size = fb at f0 ⊢
    go_wp2_with (go_at_call 47; go_loud (refine (HK.out _).mono ?_; rintro e w7 ⟨rfl, hE7⟩))
    go_ret
    exact ⟨rfl, HX3.out.trans hE7⟩
  have hx3 := hE3.alloc (.cells #[.int .i64 0, .int .i64 0] 36)
  have HX3 := Lib.hid (HE2.out.trans hx3)
  have f0 : (w3.alloc (.cells #[.int .i64 0, .int .i64 0] 36)).cell? ⟨w3.heap.size, 0, none⟩ = some (.int .i64 0) := by rw [World.cell?_alloc_new]; rfl
  have HM3 := Lib.hid (hmt.ext ((Ext.refl w3).alloc (.cells #[.int .i64 0, .int .i64 0] 36)))
  have HP3 := Lib.hid (SlC.ext HP2.out hx3)
  have HS3 := Lib.hid (SlC.ext HS2.out hx3)
  have HL3 := Lib.hid (SlF.ext HL2.out hx3)
  have HMD := Lib.hid hmd
  have HST := Lib.hid hst
  have HCM := Lib.hid hcm
  have HPT := Lib.hid hpt
  clear hE3 hx3 hmt hmd hst hcm hpt HP2 HS2 HL2 HE2
  go_upto_region 5 with fail
  generalize w3.alloc _ = w4 at f0 HX3 HM3 HP3 HS3 HL3 ⊢
  generalize w3.heap.size = fb at f0 ⊢
  go_upto_region 8 with fail
  have HG4 := Lib.hid (slf_gf (w := w4) rfl rfl)
  have hx5 := (Ext.refl w4).alloc (.cells #[.int .i64 1, .int .i64 0, .int .i64 0, .slice none 0 0, .slice none 0 0] 82)
  have HX5 := Lib.hid (HX3.out.trans hx5)
  have HM5 := Lib.hid (hx5 |> HM3.out.ext)
  have HP5 := Lib.hid (SlC.ext HP3.out hx5)
  have HS5 := Lib.hid (SlC.ext HS3.out hx5)
  have HL5 := Lib.hid (SlF.ext HL3.out hx5)
  clear hx5 HX3 HM3 HP3 HS3 HL3 f0
  generalize w4.alloc _ = w5 at HG4 HX5 HM5 HP5 HS5 HL5 ⊢
  generalize w4.heap.size = gb at HG4 ⊢
  go_wp2_with fail
  refine (trun_any s p [TR.gF] _ _ _ all fold _ HS5.out HP5.out HG4.out).mono ?_
  rintro e w6 ⟨hE6, v6, text, code, bat, rfl, ho6, hq6⟩
  obtain ⟨rfl, rfl, rfl⟩ := TR.run_whole HSG.out (by omega) HCM.out HPT.out hq6
  have hy6 := hE6.alloc (.cells #[.int .i64 0, .int .i64 0] 36)
  have f6 : (w6.alloc (.cells #[.int .i64 0, .int .i64 0] 36)).cell? ⟨w6.heap.size, 0, none⟩ = some (.int .i64 0) := by rw [World.cell?_alloc_new]; rfl
  have HV6 := Lib.hid (SlC.ext (SlB.slc ho6.sl) ((Ext.refl w6).alloc (.cells #[.int .i64 0, .int .i64 0] 36)))
  have HX6 := Lib.hid (HX5.out.trans hy6)
  have HM6 := Lib.hid (HM5.out.ext hy6)
  have HP6 := Lib.hid (SlC.ext HP5.out hy6)
  have HS6 := Lib.hid (SlC.ext HS5.out hy6)
  have HL6 := Lib.hid (SlF.ext HL5.out hy6)
  obtain ⟨A6, c6, rfl, -⟩ := ho6.form
  clear hE6 ho6 hq6 hy6 HG4 HX5 HM5 HP5 HS5 HL5
  go_upto_region 9 with fail
  generalize w6.alloc _ = w7 at f6 HV6 HX6 HM6 HP6 HS6 HL6 ⊢
  generalize w6.heap.size = fb2 at f6 ⊢
  go_wp2_with (go_at_call 38; go_loud (refine (same_any _ _ text text _ HV6.out HS6.out).mono ?_; rw [decide_eq_true rfl]; rintro e w8 ⟨rfl, hE8⟩; have HX8 := Lib.hid hE8; clear hE8))
  refine (mfind_any HMD.out HST.out hgl (HM6.out.ext HX8.out) (SlC.ext HS6.out HX8.out) (by omega) 0 (Nat.zero_le _)).mono ?_
  rintro e w9 ⟨hE9, r, hf, hre⟩
  have HX9 := Lib.hid (HX8.out.trans hE9)
  have HF := Lib.hid hf
  clear hE9 hf
  cases r with
  | some r =>
    obtain ⟨v9, rfl, -⟩ := hre
    go_wp2_with (go_at_call 47; go_loud (refine (HK.out _).mono ?_; rintro e wa ⟨rfl, hEa⟩))
    go_ret
    exact ⟨rfl, (HX6.out.trans HX9.out).trans hEa⟩
  | none =>
    obtain rfl := hre
    go_wp2_with fail
    refine (trun_any text p l _ _ _ all fold _ (SlC.ext HS6.out HX9.out) (SlC.ext HP6.out HX9.out) (SlF.ext HL6.out HX9.out)).mono ?_
    rintro e wa ⟨hEa, va, text2, code2, bat2, rfl, hoa, hqa⟩
    obtain ⟨e1, e2, e3⟩ := TR.run_absent HSG.out (by omega) HMY.out HCM.out HPT.out HF.out hqa
    subst e1 e2 e3
    have hya := hEa.alloc (.cells #[.int .i64 0, .int .i64 0] 36)
    have fa : (wa.alloc (.cells #[.int .i64 0, .int .i64 0] 36)).cell? ⟨wa.heap.size, 0, none⟩ = some (.int .i64 0) := by rw [World.cell?_alloc_new]; rfl
    have HVa := Lib.hid (SlC.ext (SlB.slc hoa.sl) ((Ext.refl wa).alloc (.cells #[.int .i64 0, .int .i64 0] 36)))
    have HXa := Lib.hid (HX9.out.trans hya)
    have HSa := Lib.hid (SlC.ext HS6.out HXa.out)
    obtain ⟨Aa, ca, rfl, -⟩ := hoa.form
    clear hEa hoa hqa hya
    go_upto_region 14 with fail
    generalize wa.alloc _ = wb at fa HVa HXa HSa ⊢
    generalize wa.heap.size = fb3 at fa ⊢
    go_wp2_with (first
      | (go_at_call 38; go_loud (refine (same_any _ _ text2 text2 _ HVa.out HSa.out).mono ?_; rw [decide_eq_true rfl]; rintro e wc ⟨rfl, hEc⟩; have HXc := Lib.hid (HXa.out.trans hEc); clear hEc))
      | (go_at_call 47; go_loud (refine (HK.out _).mono ?_; rintro e wd ⟨rfl, hEd⟩; have HXd := Lib.hid (HXc.out.trans hEd); clear hEd)))
    go_ret
    exact ⟨rfl, HX6.out.trans HXd.out⟩
end Go.Proofs.Ytfblkahjefdmaaa
