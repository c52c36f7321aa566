/- Walks: what is lent, and kept. -/
import Derived.Test.YtfblkahjefdmaaaDoorRaS
namespace Go.Proofs.YtfblkahjefdmaaaDoor
open Go.RowKit

theorem SlC.front {w : World} {A : Option Addr} {n c : Nat} {xs ys : List Int} (h : SlC w (.slice A n c) (xs ++ ys)) : SlC w (.slice A xs.length c) xs := by
  obtain ⟨A', c', hv, hl, hc, hk, hn⟩ := h
  injection hv with e1 e2 e3
  subst e1 e3
  rw [List.length_append] at hl
  refine ⟨A, c, rfl, by omega, hc, fun k x hx => hk k x ?_, hn⟩
  rw [List.getElem?_append_left (List.getElem?_eq_some_iff.1 hx).1]; exact hx
set_option maxRecDepth 100000 in
set_option maxHeartbeats 2000000 in
theorem lend_any (s : List Int) (vs : Value) (w : World) (hs : SlC w vs s) (hsl : s.length ≤ 35184372088000) : Calls Tryd.prog 26 #[vs] w (LendP s w) := by
  have H := Lib.hid hs
  obtain ⟨A, ca, rfl, hlx, hcx, -⟩ := id hs
  have HNIL := Lib.hid (show OwnB 21 1 Cc w.heap.size w (.slice none 0 0) ([] : List Int) from OwnB.nil_)
  clear hs
  have tok1 : True := trivial
  go_enter Tryd.func26, Tryd.ntmps26
  go_upto_region 2 with (first
    | (at_builtin; have _t := tok1; go_loud (refine app_srcC rfl _ _ rfl w.heap.size (.slice none 0 0) _ [] s HNIL.out rfl rfl H.out ?hn ?hB ?_; (case hn => (simp only [List.length_nil]; omega)); (case hB => exact Nat.le_refl _); intro v6 w6 h1 h2; have hE6 : Ext w w6 := (Ext.refl w).grown h2 (fun k hk => (HNIL.out.lt k hk).1); rw [List.nil_append] at h1; obtain ⟨A6, c6, rfl, -⟩ := h1.form; have HO6 := Lib.hid h1; have HE6 := Lib.hid hE6; clear h1 h2 hE6; clear tok1 _t))
    | (at_builtin; go_loud (refine app_i32 rfl _ _ rfl w.heap.size _ s [-77, -78] HO6.out.allocs rfl ⟨w6.heap.size, 0, none⟩ 2 2 rfl rfl (two_cells rfl) ?hn ?hB ?_; (case hn => (simp only [List.length_cons, List.length_nil]; omega)); (case hB => exact Nat.le_trans HE6.out.size (by simp)); intro v7 w7 h1 h2; have hE7 : Ext w w7 := (HE6.out.alloc _).grown h2 (fun k hk => (HO6.out.lt k hk).1); obtain ⟨A7, c7, rfl, hc7, hm7⟩ := h1.form; have HO7 := Lib.hid h1; have HE7 := Lib.hid hE7; clear h1 h2 hE7)))
  have hll : (s ++ [-77, -78]).length = s.length + 2 := by simp
  rw [hll] at hc7 HO7
  obtain ⟨g, rfl, -⟩ := HO7.out.get (k := 0) (by rw [hll]; omega)
  have HC7 := Lib.hid hc7
  obtain ⟨i0, hi0, hz0, hz1, hz2⟩ := info_parts info_c
  have hsl7 := fun W => run_sl_hi (P := Tryd.prog) Tryd.underlying22 hi0 (some ⟨g, 0, none⟩) (n := s.length + 2) (c := c7) (m := s.length) (by omega) W
  clear hll
  go_wp2_with fail
  go_ret
  exact ⟨HE7.out, g, c7, rfl, HC7.out, HO7.out⟩

set_option maxRecDepth 100000 in
set_option maxHeartbeats 2000000 in
theorem kept_any (s : List Int) (vs : Value) (b g c : Nat) (w : World) (hs : SlC w vs s) (hx : SlB 21 1 Cc b w (.slice (some ⟨g, 0, none⟩) (s.length + 2) c) (s ++ [-77, -78])) :
    Calls Tryd.prog 27 #[.slice (some ⟨g, 0, none⟩) s.length c, vs] w (Ret (.bool true) w) := by
  obtain ⟨A', c', hv, hlc, hcm, -⟩ := id hx
  have hll : (s ++ [-77, -78]).length = s.length + 2 := by simp
  have hc2 : s.length + 2 ≤ c := by
    injection hv with e1 e2 e3
    omega
  have hcm2 : c ≤ 9223372036854775807 := by
    injection hv with e1 e2 e3
    omega
  have HSM := Lib.hid (same_any _ vs s s w (SlC.front (SlB.slc hx)) hs)
  have HD := Lib.hid (show decide (s = s) = true by simp)
  have hcell : ∀ j y, (s ++ [-77, -78])[j]? = some y → w.cell? ⟨g, j, none⟩ = some (.int .i32 y) := by
    intro j y hy
    have := SlB.add hx j y hy
    rw [Go.WideShapes.add_plain, Nat.zero_add] at this
    exact this
  have k77 := hcell s.length (-77) (by simp)
  have k78 := hcell (s.length + 1) (-78) (by simp)
  obtain ⟨Av, cv, rfl, hlv, hcv, -⟩ := id hs
  obtain ⟨i0, hi0, hz0, hz1, hz2⟩ := info_parts info_c
  have hsl7 := fun W => run_sl_hi (P := Tryd.prog) Tryd.underlying22 hi0 (some ⟨g, 0, none⟩) (n := s.length) (c := c) (m := s.length + 2) (by omega) W
  simp only [Int.natCast_add, Int.cast_ofNat_Int] at hsl7
  clear hs hx hv hlc hcm hll hcell
  go_enter Tryd.func27, Tryd.ntmps27
  go_wp2_with (go_at_call 18; go_loud (refine HSM.out.mono ?_; rw [HD.out]; rintro e w2 ⟨rfl, hE⟩; replace k77 := hE.cell k77; replace k78 := hE.cell k78; have HE := Lib.hid hE; clear hE))
  go_ret
  exact ⟨rfl, HE.out⟩
end Go.Proofs.YtfblkahjefdmaaaDoor
