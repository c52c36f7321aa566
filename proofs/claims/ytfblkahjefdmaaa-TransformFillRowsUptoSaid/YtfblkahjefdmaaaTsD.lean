/- Walk: the law TransformFillRows. -/
import Derived.Test.YtfblkahjefdmaaaTsC
import Derived.Test.YtfblkahjefdmaaaTrJ
namespace Go.Proofs.Ytfblkahjefdmaaa
open Go.RowKit

set_option maxRecDepth 100000 in
set_option maxHeartbeats 4000000 in
theorem transformFillRows_any (ts us : List Int) (gs : List (List Int)) (va vb vg : Value) (w : World) (ha : SlI w va ts) (hb : SlI w vb us) (hg : SlG w vg gs) (hgb : ∀ g ∈ gs, g.length ≤ 2000000) :
    Calls Try.prog 16 #[va, vb, vg] w (Ret (.bool true) w) := by
  obtain ⟨A, c, rfl, hlc, hcm, -⟩ := id ha
  obtain ⟨A', c', rfl, hlc', hcm', -⟩ := id hb
  obtain ⟨Ag, cg, rfl, hgc, hgm, -⟩ := id hg
  have HA := Lib.hid ha
  have HB := Lib.hid hb
  have HG := Lib.hid hg
  have HGB := Lib.hid hgb
  have HK := Lib.hid known12_any
  clear ha hb hg hgb
  go_enter Try.func16, Try.ntmps16

  have he1 : Ten w w.heap.size (.slice A ts.length c) ts (w.alloc (.cells #[.slice A ts.length c, .int .i64 0] 26)) 0 :=
    ⟨HA.out, Nat.le_refl _, (Ext.refl w).alloc _, heap_alloc_new w _, Nat.zero_le _⟩
  have HF1 := Lib.hid (format_any _ _ he1)
  have hfl1 := (TP.fmt_ok (ts := ts) (i := 0) (Nat.zero_le _)).2.2
  clear he1
  go_wp2_with fail
  refine HF1.out.mono ?_
  rintro e w1a ⟨v1a, rfl, ho1a, -, hn1a⟩
  have hx1a : Ext w w1a := ((Ext.refl w).alloc _).only hn1a (Nat.le_refl _)
  generalize (TP.fmt ts 0).1 = f1 at ho1a hfl1
  have HO1a := Lib.hid (OwnB.weak ho1a (Nat.le_succ _))
  have HX1a := Lib.hid hx1a
  obtain ⟨A1a, c1a, rfl, -⟩ := ho1a.form
  clear ho1a hn1a hx1a HF1
  go_wp2_with (first
    | (at_builtin; go_loud (refine app_i32L rfl _ _ rfl w.heap.size _ f1 [47] (OwnB.allocs HO1a.out) rfl ⟨_, 0, none⟩ 1 1 rfl rfl (one_cells rfl) ?hn ?hB ?_; (case hn => (simp only [List.length_cons, List.length_nil]; omega)); (case hB => exact Nat.le_trans HX1a.out.size (by simp)); intro v1b w1b h1 h2; have HX1b := Lib.hid ((HX1a.out.alloc _).grown h2 (fun j hj => (HO1a.out.lt j hj).1)); generalize hl : f1 ++ [47] = g1 at h1; have hgl1 : g1.length ≤ 52 := (by rw [← hl, List.length_append]; simp only [List.length_cons, List.length_nil]; omega); obtain ⟨A1b, c1b, rfl, -⟩ := h1.form; have HO1b := Lib.hid h1; clear h1 h2 hl))
    | fail)
  refine (rscan_any g1 _ 0 w1b (SlB.slc HO1b.out.sl) (by omega)).mono ?_
  rintro e w1c ⟨hx1c, hsc1⟩
  obtain ⟨l1, A1, c1, j1, b1, rfl, hs1, hll1, hlt1⟩ : ∃ (l : List FM.Form) (A : Option Addr) (c : Nat) (j : Int) (b : Bool), e = .returned (.tuple #[.slice A l.length c, .int .i64 j, .bool b]) ∧ SlF w1c (.slice A l.length c) l ∧ l.length ≤ 105 ∧ ∀ f ∈ l, f.text.length ≤ 2000000 ∧ f.els.length ≤ 2000000 := by
    rcases hsc1 with ⟨l, j, A, c, h1, h2, h3⟩ | ⟨h1, h2⟩
    · obtain ⟨h4, h5⟩ := scanAt_small h1
      exact ⟨l, A, c, j, true, h2, SlB.slf h3, by omega, fun f hf => by have := h5 f hf; omega⟩
    · exact ⟨[], none, 0, 0, false, h2, SlR.nil_, by simp, by simp⟩
  have HX1 := Lib.hid (HX1b.out.trans hx1c)
  have HS1 := Lib.hid hs1
  have HT1 := Lib.hid hlt1
  clear hx1c hsc1 hs1 hlt1
  have HB1 := Lib.hid (SlI.ext HB.out HX1.out)

  have he2 : Ten w1c w1c.heap.size (.slice A' us.length c') us (w1c.alloc (.cells #[.slice A' us.length c', .int .i64 0] 26)) 0 :=
    ⟨HB1.out, Nat.le_refl _, (Ext.refl w1c).alloc _, heap_alloc_new w1c _, Nat.zero_le _⟩
  have HF2 := Lib.hid (format_any _ _ he2)
  have hfl2 := (TP.fmt_ok (ts := us) (i := 0) (Nat.zero_le _)).2.2
  clear he2
  go_wp2_with fail
  refine HF2.out.mono ?_
  rintro e w2a ⟨v2a, rfl, ho2a, -, hn2a⟩
  have hx2a : Ext w1c w2a := ((Ext.refl w1c).alloc _).only hn2a (Nat.le_refl _)
  generalize (TP.fmt us 0).1 = f2 at ho2a hfl2
  have HO2a := Lib.hid (OwnB.weak ho2a (Nat.le_succ _))
  have HX2a := Lib.hid hx2a
  obtain ⟨A2a, c2a, rfl, -⟩ := ho2a.form
  clear ho2a hn2a hx2a HF2
  go_wp2_with (first
    | (at_builtin; go_loud (refine app_i32L rfl _ _ rfl w1c.heap.size _ f2 [47] (OwnB.allocs HO2a.out) rfl ⟨_, 0, none⟩ 1 1 rfl rfl (one_cells rfl) ?hn ?hB ?_; (case hn => (simp only [List.length_cons, List.length_nil]; omega)); (case hB => exact Nat.le_trans HX2a.out.size (by simp)); intro v2b w2b h1 h2; have HX2b := Lib.hid ((HX2a.out.alloc _).grown h2 (fun j hj => (HO2a.out.lt j hj).1)); generalize hl : f2 ++ [47] = g2 at h1; have hgl2 : g2.length ≤ 52 := (by rw [← hl, List.length_append]; simp only [List.length_cons, List.length_nil]; omega); obtain ⟨A2b, c2b, rfl, -⟩ := h1.form; have HO2b := Lib.hid h1; clear h1 h2 hl))
    | fail)
  refine (rscan_any g2 _ 0 w2b (SlB.slc HO2b.out.sl) (by omega)).mono ?_
  rintro e w2c ⟨hx2c, hsc2⟩
  obtain ⟨l2, A2, c2, j2, b2, rfl, hs2, hll2, hlt2⟩ : ∃ (l : List FM.Form) (A : Option Addr) (c : Nat) (j : Int) (b : Bool), e = .returned (.tuple #[.slice A l.length c, .int .i64 j, .bool b]) ∧ SlF w2c (.slice A l.length c) l ∧ l.length ≤ 105 ∧ ∀ f ∈ l, f.text.length ≤ 2000000 ∧ f.els.length ≤ 2000000 := by
    rcases hsc2 with ⟨l, j, A, c, h1, h2, h3⟩ | ⟨h1, h2⟩
    · obtain ⟨h4, h5⟩ := scanAt_small h1
      exact ⟨l, A, c, j, true, h2, SlB.slf h3, by omega, fun f hf => by have := h5 f hf; omega⟩
    · exact ⟨[], none, 0, 0, false, h2, SlR.nil_, by simp, by simp⟩
  have HX2 := Lib.hid (HX2b.out.trans hx2c)
  have HS2 := Lib.hid hs2
  have HT2 := Lib.hid hlt2
  clear hx2c hsc2 hs2 hlt2
  have HX12 := Lib.hid (HX1.out.trans HX2.out)
  have HS1 := Lib.hid (SlF.ext HS1.out HX2.out)
  have HG2 := Lib.hid (SlG.ext HG.out HX12.out)
  have HNIL := Lib.hid (show OwnB 82 5 Raw w2c.heap.size w2c (.slice none 0 0) [] from OwnB.nil_)
  have tok1 : True := trivial
  clear HX1 HX2 HG HB1 HA HB
  go_upto_region 4 with (first
    | (at_builtin; have _t := tok1; go_loud (refine app_formsO rfl _ _ rfl w2c.heap.size (.slice none 0 0) _ [] l1 HNIL.out rfl rfl (Ext.refl _) HS1.out (by simp only [List.length_nil]; omega) (Nat.le_refl _) ?_; intro v3 w3 css h1 h2 h3; rw [List.nil_append] at h1; have hx3 : Ext w2c w3 := (Ext.refl w2c).grown h3 (fun k hk => by cases hk); have hcl : css.length ≤ 105 := (by have := h2.1; omega); obtain ⟨A3, c3, rfl, -⟩ := h1.form; have HO3 := Lib.hid h1; have HF3 := Lib.hid h2; have HX3 := Lib.hid hx3; clear h1 h2 h3 hx3 tok1 _t))
    | (at_builtin; go_loud (refine app_formsO rfl _ _ rfl w2c.heap.size (.slice A3 css.length c3) _ css l2 HO3.out rfl rfl HX3.out HS2.out (by omega) HX3.out.size ?_; intro v4 w4 css2 h1 h2 h3; have hx4 := HX3.out.grown h3 (fun k hk => (HO3.out.lt k hk).1); have hsb := OwnB.slfC (B := w2c.heap.size) (l := l1 ++ l2) h1 (FitC.app (HF3.out.ext hx4) (h2.ext hx4)); generalize hl3 : l1 ++ l2 = l3 at hsb; have HL3 := Lib.hid hl3; obtain ⟨A4, c4, rfl, -, -⟩ := hsb.form2; have HSB := Lib.hid hsb; clear hl3 hsb; have HX4 := Lib.hid hx4; clear h1 h2 h3 hx4)))
  have HXW := Lib.hid (HX12.out.trans HX4.out)
  have HSA := Lib.hid (SlF.ext HS1.out HX4.out)
  have HSC := Lib.hid (SlF.ext HS2.out HX4.out)
  have HGW := Lib.hid (SlG.ext HG2.out HX4.out)
  have hgb : ∀ g ∈ gs, g.length ≤ 35184372088000 := fun g h => Nat.le_trans (HGB.out g h) (by decide)
  have hla : (TR.fillL l1 (TR.grp gs)).length ≤ 300000000 := Nat.le_trans (TR.fill_len (fun k => TR.grp_le HGB.out k) HT1.out) (by have := Nat.mul_le_mul_right 2000000 hll1; omega)
  have hlb : (TR.fillL l2 (TR.grp gs)).length ≤ 300000000 := Nat.le_trans (TR.fill_len (fun k => TR.grp_le HGB.out k) HT2.out) (by have := Nat.mul_le_mul_right 2000000 hll2; omega)
  have hlc3 : (TR.fillL l3 (TR.grp gs)).length ≤ 600000000 := by rw [← HL3.out, TR.fill_app, List.length_append]; omega
  have HFB := Lib.hid (fun W (hW : Ext w4 W) => tfill_any l3 _ gs _ W (SlF.ext HSB.out hW) (SlG.ext HGW.out hW) hgb (Nat.le_trans hlc3 (by decide)))
  have HFA := Lib.hid (fun W (hW : Ext w4 W) => tfill_any l1 _ gs _ W (SlF.ext HSA.out hW) (SlG.ext HGW.out hW) hgb (Nat.le_trans hla (by decide)))
  have HFC := Lib.hid (fun W (hW : Ext w4 W) => tfill_any l2 _ gs _ W (SlF.ext HSC.out hW) (SlG.ext HGW.out hW) hgb (Nat.le_trans hlb (by decide)))
  have HMY := Lib.hid (may2_any l3 _ w4 HSB.out)
  clear HO3 HF3 HX3 HX4 HX12 HS1 HS2 HG2 HNIL hgb hlc3 HSA HSC HSB HGW HT1 HT2 HGB
  rcases hB : FM.may l3 with _ | _
  · have HB := Lib.hid hB
    clear hB hla hlb HFA HFC
    go_wp2_with (first
      | (go_at_call 52; go_loud (refine HMY.out.mono ?_; rw [HB.out]; rintro e w5 ⟨rfl, hx5⟩; have HX5 := Lib.hid hx5; clear hx5))
      | (go_at_call 44; go_loud (refine (HFB.out _ HX5.out).mono ?_; rw [HB.out, if_neg (by decide)]; rintro e w6 ⟨v6, rfl, ho6, hx6⟩; obtain ⟨A6, c6, rfl, -⟩ := ho6.form; have HX6 := Lib.hid (HX5.out.trans hx6); clear ho6 hx6))
      | (go_at_call 47; go_loud (refine (HK.out _).mono ?_; rintro e w7 ⟨rfl, hx7⟩; have HX7 := Lib.hid (HX6.out.trans hx7); clear hx7)))
    go_ret
    exact ⟨rfl, HXW.out.trans HX7.out⟩
  · have HB := Lib.hid hB
    obtain ⟨hm1, hm2⟩ := FM.may_parts (HL3.out.symm ▸ hB : FM.may (l1 ++ l2) = true)
    have HM1 := Lib.hid hm1
    have HM2 := Lib.hid hm2
    obtain ⟨FA, hFA⟩ : ∃ F, TR.fillL l1 (TR.grp gs) = F := ⟨_, rfl⟩
    obtain ⟨FC, hFC⟩ : ∃ F, TR.fillL l2 (TR.grp gs) = F := ⟨_, rfl⟩
    have hFB : TR.fillL l3 (TR.grp gs) = FA ++ FC := by rw [← HL3.out, TR.fill_app, hFA, hFC]
    rw [hFA] at hla HFA
    rw [hFC] at hlb HFC
    obtain ⟨FB, hFB2⟩ : ∃ F, FA ++ FC = F := ⟨_, rfl⟩
    rw [hFB, hFB2] at HFB
    have HFE := Lib.hid hFB2
    clear hFB2 hB hm1 hm2 hFA hFC hFB
    have tokA : True := trivial
    have tokC : True := trivial
    go_wp2_with (first
      | (go_at_call 52; go_loud (refine HMY.out.mono ?_; rw [HB.out]; rintro e w5 ⟨rfl, hx5⟩; have HX5 := Lib.hid hx5; clear hx5))
      | (have _t := tokA; go_at_call 44; go_loud (refine (HFA.out _ HX5.out).mono ?_; rw [HM1.out, if_pos rfl]; rintro e w6 ⟨v6, rfl, ho6, hx6⟩; obtain ⟨A6, c6, rfl, -⟩ := ho6.form; have HV6 := Lib.hid (SlB.slc ho6.sl); have HX6 := Lib.hid (HX5.out.trans hx6); clear ho6 hx6 tokA _t))
      | (have _t := tokC; go_at_call 44; go_loud (refine (HFC.out _ HX6.out).mono ?_; rw [HM2.out, if_pos rfl]; rintro e w7 ⟨v7, rfl, ho7, hx7⟩; obtain ⟨A7, c7, rfl, -⟩ := ho7.form; have HV7 := Lib.hid (SlB.slc ho7.sl); have HW6 := Lib.hid (SlC.ext HV6.out hx7); have HX7 := Lib.hid (HX6.out.trans hx7); clear ho7 hx7 tokC _t))
      | (go_at_call 20; go_loud (refine (rjoin_any FA FC _ _ _ HW6.out HV7.out (by omega)).mono ?_; rw [HFE.out]; rintro e w8 ⟨v8, rfl, ho8, hx8⟩; obtain ⟨A8, c8, rfl, -⟩ := ho8.form; have HV8 := Lib.hid (SlB.slc ho8.sl); have HX8 := Lib.hid (HX7.out.trans hx8); clear ho8 hx8))
      | (go_at_call 44; go_loud (refine (HFB.out _ HX8.out).mono ?_; rw [HB.out, if_pos rfl]; rintro e w9 ⟨v9, rfl, ho9, hx9⟩; obtain ⟨A9, c9, rfl, -⟩ := ho9.form; have HV9 := Lib.hid (SlB.slc ho9.sl); have HW8 := Lib.hid (SlC.ext HV8.out hx9); have HX9 := Lib.hid (HX8.out.trans hx9); clear ho9 hx9))
      | (go_at_call 38; go_loud (refine (same_any _ _ FB FB _ HV9.out HW8.out).mono ?_; rw [decide_eq_true rfl]; rintro e wa ⟨rfl, hxa⟩; have HXa := Lib.hid (HX9.out.trans hxa); clear hxa))
      | (go_at_call 47; go_loud (refine (HK.out _).mono ?_; rintro e wb ⟨rfl, hxb⟩; have HXb := Lib.hid (HXa.out.trans hxb); clear hxb)))
    go_ret
    exact ⟨rfl, HXW.out.trans HXb.out⟩
end Go.Proofs.Ytfblkahjefdmaaa
