/- Walk: the law FormTells. -/
import Derived.Test.YtfblkahjefdmaaaDoorRaG
namespace Go.Proofs.YtfblkahjefdmaaaDoor
open Go.RowKit

set_option maxRecDepth 100000 in
set_option maxHeartbeats 4000000 in
theorem formTells_any (s ts : List Int) (vs vt : Value) (a r : Int) (w : World) (hs : SlC w vs s) (ht : SlI w vt ts) (hsl : s.length ≤ 2000000) :
    Calls Tryd.prog 3 #[vs, vt, .int .i64 a, .int .i32 r] w (Ret (.bool true) w) := by
  obtain ⟨A, c, rfl, hlc, hcm, -⟩ := id ht
  obtain ⟨As, cs, rfl, hls, hms, -⟩ := id hs
  have HS := Lib.hid hs
  have he1 : Ten w w.heap.size (.slice A ts.length c) ts (w.alloc (.cells #[.slice A ts.length c, .int .i64 0] 26)) 0 :=
    ⟨ht, Nat.le_refl _, (Ext.refl w).alloc _, heap_alloc_new w _, Nat.zero_le _⟩
  have HF := Lib.hid (format_any _ _ he1)
  clear he1 hs ht
  go_enter Tryd.func3, Tryd.ntmps3
  go_wp2_with fail
  refine HF.out.mono ?_
  rintro e w2 ⟨v2, rfl, hv2, -, ho2⟩
  have hE2 : Ext w w2 := ((Ext.refl w).alloc _).only ho2 (Nat.le_refl _)
  have hfl := (TP.fmt_ok (ts := ts) (Nat.zero_le _)).2.2
  generalize (TP.fmt ts 0).1 = f at hv2 hfl
  obtain ⟨A2, c2, rfl, -⟩ := hv2.form
  have HO2 := Lib.hid hv2.sl
  have HE2 := Lib.hid hE2
  have HNIL := Lib.hid (show OwnB 21 1 Cc w2.heap.size w2 (.slice none 0 0) ([] : List Int) from OwnB.nil_)
  have tok1 : True := trivial
  clear hv2 hE2 ho2 HF
  go_upto_region 3 with (first
    | (at_builtin; have _t := tok1; go_loud (refine app_src rfl _ _ rfl w2.heap.size _ (.slice none 0 0) _ [] f HNIL.out rfl rfl HO2.out ?hn ?hB ?_; (case hn => (simp only [List.length_nil]; omega)); (case hB => exact Nat.le_refl _); intro v3 w3 h1 h2; have hE3 : Ext w2 w3 := (Ext.refl w2).grown h2 (fun k hk => (HNIL.out.lt k hk).1); rw [List.nil_append] at h1; obtain ⟨A3, c3, rfl, -⟩ := h1.form; have HO3 := Lib.hid h1; have HE3 := Lib.hid hE3; clear h1 h2 hE3; clear tok1 _t))
    | (at_builtin; go_loud (refine app_i32 rfl _ _ rfl w2.heap.size _ f [47, 120] HO3.out.allocs rfl ⟨w3.heap.size, 0, none⟩ 2 2 rfl rfl (two_cells rfl) ?hn ?hB ?_; (case hn => (simp only [List.length_cons, List.length_nil]; omega)); (case hB => exact Nat.le_trans HE3.out.size (by simp)); intro v4 w4 h1 h2; have hE4 : Ext w2 w4 := (HE3.out.alloc _).grown h2 (fun k hk => (HO3.out.lt k hk).1); generalize hl : f ++ [47, 120] = g at h1; have hgl : g.length ≤ 53 ∧ 1 ≤ g.length := (by rw [← hl, List.length_append]; simp only [List.length_cons, List.length_nil]; omega); obtain ⟨A4, c4, rfl, -⟩ := h1.form; have HO4 := Lib.hid h1.sl; have HE4 := Lib.hid hE4; clear h1 h2 hE4 hl)))
  obtain ⟨hgl1, hgl2⟩ := hgl
  have HNIL4 := Lib.hid (show OwnB 21 1 Cc w4.heap.size w4 (.slice none 0 0) ([] : List Int) from OwnB.nil_)
  go_upto_region 4 with (at_builtin; go_loud (refine app_src rfl _ _ rfl w4.heap.size _ (.slice none 0 0) _ [] g HNIL4.out rfl rfl HO4.out ?hn ?hB ?_; (case hn => (simp only [List.length_nil]; omega)); (case hB => exact Nat.le_refl _); intro v5 w5 h1 h2; have hE5 : Ext w4 w5 := (Ext.refl w4).grown h2 (fun k hk => (HNIL4.out.lt k hk).1); rw [List.nil_append] at h1; obtain ⟨A5, c5, rfl, -⟩ := h1.form; have HO5 := Lib.hid h1; have HE5 := Lib.hid hE5; clear h1 h2 hE5))
  have HI := Lib.hid (fun W => kidx_any a (g.length : Int) W (by omega))
  have hkl := kidx_lt a (n := g.length) (by omega)
  rw [Int.toNat_natCast] at HI
  generalize kidx a g.length = kk at HI hkl
  obtain ⟨gg, rfl, hgb, -⟩ := HO5.out.get hkl
  have HGB := Lib.hid hgb
  clear hgb
  go_upto_region 5 with (go_at_call 9; go_loud (refine (HI.out _).mono ?_; rintro e w6 ⟨rfl, hE6⟩; have HO6 := Lib.hid (HO5.out.keepB (keepsB_c _) (fun _ _ _ ho => hE6.heap ho)); have HE6 := Lib.hid (HE5.out.trans hE6); obtain ⟨gg', hg1, hg2, hg3, hg4, hg5⟩ := HO6.out.get hkl; injection hg1 with hg1; injection hg1 with hg1 _ _; subst hg1; have HG5 := Lib.hid (hg5 r); have hki : (kk : Int) < g.length := (by omega); clear hg2 hg5 hE6))
  have HE7 := Lib.hid (HE6.out.set (p := ⟨gg, kk, none⟩) HGB.out (.int .i32 r))
  generalize w6.setCell ⟨gg, kk, none⟩ (.int .i32 r) = w7 at HG5 HE7 ⊢
  have HX := Lib.hid ((HE2.out.trans HE4.out).trans HE7.out)
  have HSS := Lib.hid (fun b W (hW : Ext w7 W) => lsame_any s _ b W (HS.out.ext (HX.out.trans hW)) (by omega))
  have HSF := Lib.hid (fun b W (hW : Ext w7 W) => lsame_any f _ b W ((SlB.slc HO2.out).ext ((HE4.out.trans HE7.out).trans hW)) (by omega))
  have HSG := Lib.hid (fun b W (hW : Ext w7 W) => lsame_any g _ b W ((SlB.slc HO4.out).ext (HE7.out.trans hW)) (by omega))
  have hhl : (g.set kk r).length = g.length := List.length_set
  have HSH := Lib.hid (fun b W (hW : Ext w7 W) => lsame_any (g.set kk r) (.slice (some ⟨gg, 0, none⟩) g.length c5) b W ((SlB.slc HG5.out.sl).ext hW) (by rw [hhl]; omega))
  have HKI := Lib.hid (fun n W (hn : 1 ≤ n ∧ n ≤ 35184372088832) => kidx_any a n W hn)
  have HKN := Lib.hid known11_any
  have HEX := Lib.hid (Ext.refl w7)
  clear hhl
  go_wp2_with (first
    | (go_at_call 10; go_loud ((first | with_reducible refine (HSS.out _ _ HEX.out).mono ?_ | with_reducible refine (HSF.out _ _ HEX.out).mono ?_ | with_reducible refine (HSG.out _ _ HEX.out).mono ?_ | with_reducible refine (HSH.out _ _ HEX.out).mono ?_); rintro e w8 ⟨rfl, hx⟩; have HEX := Lib.hid (HEX.out.trans hx); clear hx))
    | (go_at_call 9; go_loud (refine (HKI.out _ _ (by omega)).mono ?_; rintro e w8 ⟨rfl, hx⟩; have HEX := Lib.hid (HEX.out.trans hx); clear hx))
    | (go_at_call 11; go_loud (refine (HKN.out _).mono ?_; rintro e w9 ⟨rfl, hE9⟩)))
  go_ret
  exact ⟨rfl, (HX.out.trans HEX.out).trans hE9⟩
end Go.Proofs.YtfblkahjefdmaaaDoor
