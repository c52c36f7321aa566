/- Walk: the law TransformFills. -/
import Derived.Test.YtfblkahjefdmaaaTvC
import Derived.Test.YtfblkahjefdmaaaTrJ
import Derived.Test.YtfblkahjefdmaaaSpA
namespace Go.Proofs.Ytfblkahjefdmaaa
open Go.RowKit

theorem SlF.take {w : World} {A : Option Addr} {n c m : Nat} {l : List FM.Form} (h : SlF w (.slice A n c) l) (hm : m ≤ l.length) : SlF w (.slice A m c) (l.take m) := by
  obtain ⟨A', c', hv, hl, hc, hk, hn⟩ := h
  injection hv with e1 e2 e3
  subst e1 e3
  have hlm : (l.take m).length = m := by rw [List.length_take]; omega
  refine ⟨A, c, by rw [hlm], by rw [hlm]; omega, hc, fun k x hx => hk k x ?_, hn⟩
  have hkm : k < m := by rw [← hlm]; exact (List.getElem?_eq_some_iff.1 hx).1
  rw [List.getElem?_take, if_pos hkm] at hx
  exact hx
/-- What is filled: a row of parts that is not too long. -/
def Fbl (w : World) (kb k : Nat) : Prop := ∃ (l : List FM.Form) (A : Option Addr) (c : Nat), w.cell? ⟨kb, k, none⟩ = some (.slice A l.length c) ∧ SlF w (.slice A l.length c) l ∧ l.length ≤ 105 ∧ ∀ f ∈ l, f.text.length ≤ 2000000 ∧ f.els.length ≤ 2000000
theorem Fbl.ext {w w' : World} {kb k : Nat} (h : Fbl w kb k) (hx : Ext w w') : Fbl w' kb k := by
  obtain ⟨l, A, c, h1, h2, h3⟩ := h
  exact ⟨l, A, c, hx.cell h1, h2.ext hx, h3⟩
set_option maxRecDepth 100000 in
set_option maxHeartbeats 2000000 in
theorem transformFills_any (l0 : List FM.Form) (ts : List Int) (gs : List (List Int)) (vl va vg : Value) (w : World) (hl : SlF w vl l0) (ha : SlI w va ts) (hg : SlG w vg gs) (hlb : ∀ f ∈ l0, f.text.length ≤ 2000000 ∧ f.els.length ≤ 2000000) (hgb : ∀ g ∈ gs, g.length ≤ 2000000) :
    Calls Try.prog 12 #[vl, va, vg] w (Ret (.bool true) w) := by
  obtain ⟨Al, cl, rfl, hlc0, hlm0⟩ := hl.form2
  obtain ⟨A, c, rfl, hlc, hcm, -⟩ := id ha
  obtain ⟨Ag, cg, rfl, hgc, hgm, -⟩ := id hg
  have HL := Lib.hid hl
  have HA := Lib.hid ha
  have HG := Lib.hid hg
  have HLB := Lib.hid hlb
  have HGB := Lib.hid hgb
  have HK := Lib.hid known12_any
  clear ha hl hg hlb hgb
  go_enter Try.func12, Try.ntmps12
  go_upto_if 15 with fail
  go_cut [0] (fun x0 wx => ∃ (l1 : List FM.Form) (A1 : Option Addr) (c1 : Nat), x0 = .slice A1 l1.length c1 ∧ SlF w (.slice A1 l1.length c1) l1 ∧ l1.length ≤ 20 ∧ (∀ f ∈ l1, f ∈ l0) ∧ w = wx)
  case first =>
    by_cases h20 : (20 : Int) < (l0.length : Int)
    · have HT := Lib.hid (show SlF w (.slice Al 20 cl) (l0.take 20) from SlF.take HL.out (by omega))
      have hlt : (l0.take 20).length = 20 := by rw [List.length_take]; omega
      have HLT := Lib.hid hlt
      obtain ⟨i0, hi0, hz0, hz1, hz2⟩ := info_parts info_form
      have hsl : ∀ W, (Instr.slice 70 (.slice Al l0.length cl) none (some (.int .i64 20)) none).run Try.prog W = .ok (.slice Al 20 cl) W := fun W => run_sl_hiS (P := Try.prog) Try.underlying70 hi0 Al (n := l0.length) (c := cl) (m := 20) (by omega) W
      clear hlt hi0 hz0 hz1 hz2
      go_wp2_with fail
      go_meet
      exact ⟨l0.take 20, Al, cl, by rw [HLT.out], by rw [HLT.out]; exact HT.out, by rw [HLT.out]; exact Nat.le_refl _, fun f hf => List.mem_of_mem_take hf, rfl⟩
    · go_wp2_with fail
      go_meet
      exact ⟨l0, Al, cl, rfl, HL.out, by omega, fun f hf => hf, rfl⟩
  case rest =>
    obtain ⟨la, Aa, ca, rfl, hla, hla20, hlam, rfl⟩ := hcut
    have HLA := Lib.hid hla
    have HLM := Lib.hid (fun f hf => HLB.out f (hlam f hf))
    clear hla hlam

    have he1 : Ten w w.heap.size (.slice A ts.length c) ts (w.alloc (.cells #[.slice A ts.length c, .int .i64 0] 26)) 0 :=
      ⟨HA.out, Nat.le_refl _, (Ext.refl w).alloc _, heap_alloc_new w _, Nat.zero_le _⟩
    have HF1 := Lib.hid (format_any _ _ he1)
    have hfl1 := (TP.fmt_ok (ts := ts) (i := 0) (Nat.zero_le _)).2.2
    clear he1
    go_wp2_with fail
    refine HF1.out.mono ?_
    rintro e w1a ⟨v1a, rfl, ho1a, -, hn1a⟩
    have hx1a : Ext w w1a := ((Ext.refl w).alloc _).only hn1a (Nat.le_refl _)
    generalize (TP.fmt ts 0).1 = f1 at ho1a hfl1
    have HO1a := Lib.hid (OwnB.weak ho1a (Nat.le_succ _))
    have HX1a := Lib.hid hx1a
    obtain ⟨A1a, c1a, rfl, -⟩ := ho1a.form
    clear ho1a hn1a hx1a HF1
    go_wp2_with (first
      | (at_builtin; go_loud (refine app_i32L rfl _ _ rfl w.heap.size _ f1 [47] (OwnB.allocs HO1a.out) rfl ⟨_, 0, none⟩ 1 1 rfl rfl (one_cells rfl) ?hn ?hB ?_; (case hn => (simp only [List.length_cons, List.length_nil]; omega)); (case hB => exact Nat.le_trans HX1a.out.size (by simp)); intro v1b w1b h1 h2; have HX1b := Lib.hid ((HX1a.out.alloc _).grown h2 (fun j hj => (HO1a.out.lt j hj).1)); generalize hl : f1 ++ [47] = g1 at h1; have hgl1 : g1.length ≤ 52 := (by rw [← hl, List.length_append]; simp only [List.length_cons, List.length_nil]; omega); obtain ⟨A1b, c1b, rfl, -⟩ := h1.form; have HO1b := Lib.hid h1; clear h1 h2 hl))
      | fail)
    refine (rscan_any g1 _ 0 w1b (SlB.slc HO1b.out.sl) (by omega)).mono ?_
    rintro e w1c ⟨hx1c, hsc1⟩
    obtain ⟨l1, A1, c1, j1, b1, rfl, hs1, hll1, hlt1⟩ : ∃ (l : List FM.Form) (A : Option Addr) (c : Nat) (j : Int) (b : Bool), e = .returned (.tuple #[.slice A l.length c, .int .i64 j, .bool b]) ∧ SlF w1c (.slice A l.length c) l ∧ l.length ≤ 105 ∧ ∀ f ∈ l, f.text.length ≤ 2000000 ∧ f.els.length ≤ 2000000 := by
      rcases hsc1 with ⟨l, j, A, c, h1, h2, h3⟩ | ⟨h1, h2⟩
      · obtain ⟨h4, h5⟩ := scanAt_small h1
        exact ⟨l, A, c, j, true, h2, SlB.slf h3, by omega, fun f hf => by have := h5 f hf; omega⟩
      · exact ⟨[], none, 0, 0, false, h2, SlR.nil_, by simp, by simp⟩
    have HX1 := Lib.hid (HX1b.out.trans hx1c)
    have HS1 := Lib.hid hs1
    have HT1 := Lib.hid hlt1
    clear hx1c hsc1 hs1 hlt1

    have hkb := (HX1.out.alloc (.cells #[.slice Aa la.length ca, .slice A1 l1.length c1] 70))
    have hx4 := (Ext.refl w1c).alloc (.cells #[.slice Aa la.length ca, .slice A1 l1.length c1] 70)
    have HF0 := Lib.hid (show Fbl (w1c.alloc (.cells #[.slice Aa la.length ca, .slice A1 l1.length c1] 70)) w1c.heap.size 0 from ⟨la, Aa, ca, by rw [World.cell?_alloc_new]; rfl, (HLA.out.ext HX1.out).ext hx4, by omega, HLM.out⟩)
    have HF1 := Lib.hid (show Fbl (w1c.alloc (.cells #[.slice Aa la.length ca, .slice A1 l1.length c1] 70)) w1c.heap.size 1 from ⟨l1, A1, c1, by rw [World.cell?_alloc_new]; rfl, HS1.out.ext hx4, hll1, HT1.out⟩)
    have HX4 := Lib.hid hkb
    have HG4 := Lib.hid (HG.out.ext hkb)
    clear hkb hx4 HX1 HLA HLM HS1 HT1 HA HL HG HLB HX1a HX1b HO1a HO1b
    go_wp2_with fail
    generalize w1c.alloc _ = w4 at HF0 HF1 HX4 HG4 ⊢
    generalize w1c.heap.size = kb at HF0 HF1 ⊢
    go_loopw [33] (fun x33 wr => ∃ k : Nat, k ≤ 2 ∧ x33 = .int .i64 (k : Int) ∧ Ext w4 wr) (fun x33 _ => 2 - (intOf x33).toNat)
    case atStart => exact ⟨0, by omega, rfl, Ext.refl _⟩
    case round =>
      obtain ⟨k, hk, rfl, hx⟩ := hrel
      have HX := Lib.hid hx
      by_cases hlt : k < 2
      rotate_left
      · clear hx
        obtain rfl : k = 2 := by omega
        go_wp2_with (go_at_call 47; go_loud (refine (HK.out _).mono ?_; rintro e wb ⟨rfl, hxb⟩; have HXb := Lib.hid (HX.out.trans hxb); clear hxb))
        go_ret
        exact ⟨rfl, HX4.out.trans HXb.out⟩
      have hki : (k : Int) < 2 := by omega
      obtain ⟨l, Ak, ck, hcell, hsl, hll, hlt2⟩ : Fbl w4 kb k := by
        rcases (show k = 0 ∨ k = 1 by omega) with rfl | rfl
        · exact HF0.out
        · exact HF1.out
      have e0 := hx.cell hcell
      have hfl : (TR.fillL l (TR.grp gs)).length ≤ 300000000 := Nat.le_trans (TR.fill_len (fun q => TR.grp_le HGB.out q) hlt2) (by have := Nat.mul_le_mul_right 2000000 hll; omega)
      have hgb : ∀ g ∈ gs, g.length ≤ 35184372088000 := fun g h => Nat.le_trans (HGB.out g h) (by decide)
      have HFA := Lib.hid (fun W (hW : Ext wr W) => tfill_any l _ gs _ W (hsl.ext (hx.trans hW)) (HG4.out.ext (hx.trans hW)) hgb (Nat.le_trans hfl (by decide)))
      have HFR := Lib.hid (fun W (hW : Ext wr W) => rfill_any l _ gs _ W (hsl.ext (hx.trans hW)) (HG4.out.ext (hx.trans hW)) hgb (Nat.le_trans hfl (by decide)))
      generalize (if FM.may l = true then TR.fillL l (TR.grp gs) else []) = FL at HFA HFR
      clear hx hcell hsl hlt2 hfl hgb hll
      have tokA : True := trivial
      have tokB : True := trivial
      have tokC : True := trivial
      go_wp2_with (first
        | (have _t := tokA; go_at_call 44; go_loud (refine (HFA.out _ (Ext.refl _)).mono ?_; rintro e w5 ⟨v5, rfl, ho5, hx5⟩; obtain ⟨A5, c5, rfl, -⟩ := ho5.form; have HO5 := Lib.hid ho5; have HX5 := Lib.hid hx5; clear ho5 hx5 tokA _t))
        | (have _t := tokB; go_at_call 45; go_loud (refine (HFR.out _ HX5.out).mono ?_; rintro e w6 ⟨v6, rfl, ho6, hx6⟩; obtain ⟨A6, c6, rfl, -⟩ := ho6.form; have HV6 := Lib.hid (SlB.slc ho6.sl); have HO6 := Lib.hid (HO5.out.keepB (keepsB_c _) (fun _ _ _ ho => hx6.heap ho)); have HX6 := Lib.hid (HX5.out.trans hx6); clear ho6 hx6 tokB _t))
        | (have _t := tokC; go_at_call 38; go_loud (refine (same_any _ _ FL FL _ (SlB.slc HO6.out.sl) HV6.out).mono ?_; rw [decide_eq_true rfl]; rintro e w7 ⟨rfl, hx7⟩; have HO7 := Lib.hid (HO6.out.keepB (keepsB_c _) (fun _ _ _ ho => hx7.heap ho)); have HX7 := Lib.hid (HX6.out.trans hx7); clear hx7 tokC _t))
        | (go_at_call 46; go_loud (refine (kspoil_any _ _ _ _ (Shp.of HO7.out.sl)).mono ?_; rintro e w8 ⟨rfl, hs8⟩; have HX8 := Lib.hid (Rng.ext HX7.out hs8.rng (Nat.le_refl _)); clear hs8))
        | (go_at_call 44; go_loud (refine (HFA.out _ HX8.out).mono ?_; rintro e w9 ⟨v9, rfl, ho9, hx9⟩; obtain ⟨A9, c9, rfl, -⟩ := ho9.form; have HV9 := Lib.hid (SlB.slc ho9.sl); have HX9 := Lib.hid (HX8.out.trans hx9); clear ho9 hx9))
        | (go_at_call 45; go_loud (refine (HFR.out _ HX9.out).mono ?_; rintro e wa ⟨va, rfl, hoa, hxa⟩; obtain ⟨Aq, cq, rfl, -⟩ := hoa.form; have HVa := Lib.hid (SlB.slc hoa.sl); have HW9 := Lib.hid (SlC.ext HV9.out hxa); have HXa := Lib.hid (HX9.out.trans hxa); clear hoa hxa))
        | (go_at_call 38; go_loud (refine (same_any _ _ FL FL _ HW9.out HVa.out).mono ?_; rw [decide_eq_true rfl]; rintro e wb ⟨rfl, hxb⟩; have HXb := Lib.hid (HXa.out.trans hxb); clear hxb)))
      go_roundw
      case rel => exact ⟨k + 1, by omega, by go_num, HX.out.trans HXb.out⟩
      case measure => simp [intOf]; omega
end Go.Proofs.Ytfblkahjefdmaaa
