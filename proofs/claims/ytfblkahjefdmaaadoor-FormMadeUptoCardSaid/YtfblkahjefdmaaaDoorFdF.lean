/- Walks: part of package format. -/
import Derived.Test.YtfblkahjefdmaaaDoorFdE
namespace Go.Proofs.YtfblkahjefdmaaaDoor
open Go.RowKit

def partA (s : List Int) (i : Nat) : Option (FM.Form × Nat) := (FM.part (s.drop (i + 1))).map fun p => (p.1, i + 1 + p.2)
section
variable {s : List Int} {i k : Nat} {n : Int}
theorem part_num (h : FM.number (s.drop (i + 1)) = some (n, k)) : partA s i = some (⟨1, n, 0, [], []⟩, i + 1 + k) := by
  unfold partA FM.part; rw [h]; rfl
theorem part_no (h : FM.number (s.drop (i + 1)) = none) (h1 : s[i + 1]? ≠ some 123) : partA s i = none := by
  unfold partA FM.part; rw [h]; simp only
  rw [List.head?_drop, if_neg h1]; rfl
theorem part_b0 (h : FM.number (s.drop (i + 1)) = none) (h1 : s[i + 1]? = some 123) (h2 : FM.number (s.drop (i + 2)) = none) : partA s i = none := by
  unfold partA FM.part; rw [h]; simp only
  rw [List.head?_drop, if_pos h1, List.tail_drop, h2]; rfl
theorem part_125 (h : FM.number (s.drop (i + 1)) = none) (h1 : s[i + 1]? = some 123) (h2 : FM.number (s.drop (i + 2)) = some (n, k)) (h3 : s[i + 2 + k]? = some 125) : partA s i = some (⟨1, n, 0, [], []⟩, i + 2 + k + 1) := by
  unfold partA FM.part; rw [h]; simp only
  rw [List.head?_drop, if_pos h1, List.tail_drop, h2]; simp only
  rw [List.drop_drop, List.head?_drop, show i + 1 + 1 + k = i + 2 + k by omega, if_pos h3]
  simp; omega
theorem part_58 (h : FM.number (s.drop (i + 1)) = none) (h1 : s[i + 1]? = some 123) (h2 : FM.number (s.drop (i + 2)) = some (n, k)) (h3 : s[i + 2 + k]? = some 58) : partA s i = innA n s (i + 2 + k + 1) := by
  unfold partA FM.part innA; rw [h]; simp only
  rw [List.head?_drop, if_pos h1, List.tail_drop, h2]; simp only
  rw [List.drop_drop, List.head?_drop, show i + 1 + 1 + k = i + 2 + k by omega, h3, if_neg (by decide), if_pos rfl, List.tail_drop, Option.map_map]
  congr 1; funext p; simp; omega
theorem part_oth (h : FM.number (s.drop (i + 1)) = none) (h1 : s[i + 1]? = some 123) (h2 : FM.number (s.drop (i + 2)) = some (n, k)) (h3 : s[i + 2 + k]? ≠ some 125) (h4 : s[i + 2 + k]? ≠ some 58) : partA s i = none := by
  unfold partA FM.part; rw [h]; simp only
  rw [List.head?_drop, if_pos h1, List.tail_drop, h2]; simp only
  rw [List.drop_drop, List.head?_drop, show i + 1 + 1 + k = i + 2 + k by omega, if_neg h3, if_neg h4]; rfl
end
theorem number_le {l : List Int} {n : Int} {k : Nat} (h : FM.number l = some (n, k)) : k ≤ l.length := (FM.number_ok h).2.2.2.2

set_option maxRecDepth 100000 in
set_option maxHeartbeats 2000000 in
theorem part_any (s : List Int) (vs : Value) (i : Nat) (w : World) (hs : SlC w vs s) (hsl : s.length ≤ 35184372088832) (hi : i < s.length) :
    Calls Tryd.prog 42 #[vs, .int .i64 (i : Int)] w (FormP (partA s i) w) := by
  have H := Lib.hid hs
  obtain ⟨A, ca, rfl, hlx, hcx, -⟩ := hs
  obtain ⟨R, hR⟩ : ∃ R, partA s i = R := ⟨_, rfl⟩
  rw [hR]
  have HR := Lib.hid hR
  clear hR
  have HNU := Lib.hid (fun (j : Nat) (hj : j ≤ s.length) (W : World) (hW : Ext w W) => number_any s _ j W (H.out.ext hW) hj)
  have HIN := Lib.hid (fun (j : Nat) (g : Int) (hj : j ≤ s.length) (W : World) (hW : Ext w W) => inner_any s _ j g W (H.out.ext hW) hsl hj)
  obtain ⟨N1, hN1⟩ : ∃ N, FM.number (s.drop (i + 1)) = N := ⟨_, rfl⟩
  have HN1 := Lib.hid hN1
  cases N1 with
  | some q =>
    obtain ⟨n, k⟩ := q
    have HQ := Lib.hid (part_num hN1)
    clear hN1
    go_enter Tryd.func42, Tryd.ntmps42
    go_wp2_with (go_at_call 53; go_loud (refine (HNU.out (i + 1) (by omega) _ ((Ext.refl w).alloc _)).mono ?_; rw [HN1.out]; rintro e w2 ⟨hx, hx2⟩; have hb := hx.heap (heap_alloc_new w _); have d0 := cell_of_row w2 w.heap.size 0 _ _ _ hb; have d1 := cell_of_row w2 w.heap.size 1 _ _ _ hb; have d2 := cell_of_row w2 w.heap.size 2 _ _ _ hb; have d3 := cell_of_row w2 w.heap.size 3 _ _ _ hb; have d4 := cell_of_row w2 w.heap.size 4 _ _ _ hb; have f0 := frozen_of_row w2 w.heap.size 0 _ _ hb; have f1 := frozen_of_row w2 w.heap.size 1 _ _ hb; have f2 := frozen_of_row w2 w.heap.size 2 _ _ hb; have f3 := frozen_of_row w2 w.heap.size 3 _ _ hb; have f4 := frozen_of_row w2 w.heap.size 4 _ _ hb; have HB := Lib.hid hb; have HX := Lib.hid hx; clear hb hx; rcases hx2 with ⟨n', k', hq, rfl⟩ | ⟨hq, rfl⟩; rotate_left; (exact absurd hq (by simp)); injection hq with hq; injection hq with hq1 hq2; subst hq1 hq2))
    refine bodyPost_ret (v := .tuple #[.agg #[.int .i64 1, .int .i64 n, .int .i64 0, .slice none 0 0, .slice none 0 0], .int .i64 ((i : Int) + 1 + (k : Int)), .bool true]) (by simp [results, Tryd.results42, go_sem, d0, d1, d2, d3, d4]) rfl ?_
    exact ⟨by (focus (repeat (first | apply Ext.setn | exact ((Ext.refl w).alloc _).trans HX.out))), .inl ⟨⟨1, n, 0, [], []⟩, i + 1 + k, [.int .i64 1, .int .i64 n, .int .i64 0, .slice none 0 0, .slice none 0 0], by rw [← HR.out, HQ.out], by congr 3, CF.mkW HB.out (by (focus (repeat (first | apply Only.set | exact Only.refl _ _)))) SlB.nil_ SlB.nil_⟩⟩
  | none =>
    by_cases h1 : s[i + 1]? = some 123
    rotate_left
    · have HQ := Lib.hid (part_no hN1 h1)
      clear hN1
      by_cases hlt : i + 1 < s.length
      · obtain ⟨b, o, rfl, hc⟩ := H.out.at_ hlt
        have hbl := World.block_lt_of_cell? _ _ hc
        rw [List.getElem?_eq_getElem hlt] at h1
        generalize s[i + 1] = x at hc h1
        have b1 : (x != 123) = true := by simpa using h1
        have hlt2 : (i : Int) + 1 < s.length := by omega
        have hge : decide ((s.length : Int) ≤ (i : Int) + 1) = false := by simp; omega
        clear h1 hlt
        go_enter Tryd.func42, Tryd.ntmps42
        go_wp2_with (go_at_call 53; go_loud (refine (HNU.out (i + 1) (by omega) _ ((Ext.refl w).alloc _)).mono ?_; rw [HN1.out]; rintro e w2 ⟨hx, hx2⟩; have hb := hx.heap (heap_alloc_new w _); have d0 := cell_of_row w2 w.heap.size 0 _ _ _ hb; have d1 := cell_of_row w2 w.heap.size 1 _ _ _ hb; have d2 := cell_of_row w2 w.heap.size 2 _ _ _ hb; have d3 := cell_of_row w2 w.heap.size 3 _ _ _ hb; have d4 := cell_of_row w2 w.heap.size 4 _ _ _ hb; have f0 := frozen_of_row w2 w.heap.size 0 _ _ hb; have f1 := frozen_of_row w2 w.heap.size 1 _ _ hb; have f2 := frozen_of_row w2 w.heap.size 2 _ _ hb; have f3 := frozen_of_row w2 w.heap.size 3 _ _ hb; have f4 := frozen_of_row w2 w.heap.size 4 _ _ hb; have HB := Lib.hid hb; have HX := Lib.hid hx; have hc := (((Ext.refl w).alloc _).trans hx).cell hc; clear hb hx; rcases hx2 with ⟨n', k', hq, rfl⟩ | ⟨hq, rfl⟩; (exact absurd hq (by simp))))
        refine bodyPost_ret (v := .tuple #[.agg #[.int .i64 0, .int .i64 0, .int .i64 0, .slice none 0 0, .slice none 0 0], .int .i64 0, .bool false]) (by simp [results, Tryd.results42, go_sem, d0, d1, d2, d3, d4]) rfl ?_
        exact ⟨by (focus (repeat (first | apply Ext.setn | exact ((Ext.refl w).alloc _).trans HX.out))), .inr ⟨by rw [← HR.out, HQ.out], _, _, _, _, _, _, _, _, _, _, rfl⟩⟩
      · have hge : decide ((s.length : Int) ≤ (i : Int) + 1) = true := by simp; omega
        clear h1 hlt
        go_enter Tryd.func42, Tryd.ntmps42
        go_wp2_with (go_at_call 53; go_loud (refine (HNU.out (i + 1) (by omega) _ ((Ext.refl w).alloc _)).mono ?_; rw [HN1.out]; rintro e w2 ⟨hx, hx2⟩; have hb := hx.heap (heap_alloc_new w _); have d0 := cell_of_row w2 w.heap.size 0 _ _ _ hb; have d1 := cell_of_row w2 w.heap.size 1 _ _ _ hb; have d2 := cell_of_row w2 w.heap.size 2 _ _ _ hb; have d3 := cell_of_row w2 w.heap.size 3 _ _ _ hb; have d4 := cell_of_row w2 w.heap.size 4 _ _ _ hb; have f0 := frozen_of_row w2 w.heap.size 0 _ _ hb; have f1 := frozen_of_row w2 w.heap.size 1 _ _ hb; have f2 := frozen_of_row w2 w.heap.size 2 _ _ hb; have f3 := frozen_of_row w2 w.heap.size 3 _ _ hb; have f4 := frozen_of_row w2 w.heap.size 4 _ _ hb; have HB := Lib.hid hb; have HX := Lib.hid hx; clear hb hx; rcases hx2 with ⟨n', k', hq, rfl⟩ | ⟨hq, rfl⟩; (exact absurd hq (by simp))))
        refine bodyPost_ret (v := .tuple #[.agg #[.int .i64 0, .int .i64 0, .int .i64 0, .slice none 0 0, .slice none 0 0], .int .i64 0, .bool false]) (by simp [results, Tryd.results42, go_sem, d0, d1, d2, d3, d4]) rfl ?_
        exact ⟨by (focus (repeat (first | apply Ext.setn | exact ((Ext.refl w).alloc _).trans HX.out))), .inr ⟨by rw [← HR.out, HQ.out], _, _, _, _, _, _, _, _, _, _, rfl⟩⟩
    have hlt := (List.getElem?_eq_some_iff.1 h1).1
    obtain ⟨b, o, rfl, hc⟩ := H.out.at_ hlt
    have hx1 : s[i + 1] = 123 := (List.getElem?_eq_some_iff.1 h1).2
    rw [hx1] at hc
    have hlt2 : (i : Int) + 1 < s.length := by omega
    have hge : decide ((s.length : Int) ≤ (i : Int) + 1) = false := by simp; omega
    obtain ⟨N2, hN2⟩ : ∃ N, FM.number (s.drop (i + 2)) = N := ⟨_, rfl⟩
    have HN2 := Lib.hid hN2
    clear hx1
    have tok1 : True := trivial
    cases N2 with
    | none =>
      have HQ := Lib.hid (part_b0 hN1 h1 hN2)
      clear hN1 h1 hN2
      go_enter Tryd.func42, Tryd.ntmps42
      go_wp2_with (first
        | (go_at_call 53; have _t := tok1; go_loud (refine (HNU.out (i + 1) (by omega) _ ((Ext.refl w).alloc _)).mono ?_; rw [HN1.out]; rintro e wa ⟨hx, hx2⟩; have hb := hx.heap (heap_alloc_new w _); have HBA := Lib.hid hb; have HXA := Lib.hid (((Ext.refl w).alloc _).trans hx); have hc := (((Ext.refl w).alloc _).trans hx).cell hc; clear hb hx; rcases hx2 with ⟨n', k', hq, rfl⟩ | ⟨hq, rfl⟩; (exact absurd hq (by simp)); clear tok1 _t))
        | (go_at_call 53; go_loud (refine (HNU.out (i + 2) (by omega) _ HXA.out).mono ?_; rw [HN2.out]; rintro e w2 ⟨hx, hx2⟩; have hb := hx.heap HBA.out; have d0 := cell_of_row w2 w.heap.size 0 _ _ _ hb; have d1 := cell_of_row w2 w.heap.size 1 _ _ _ hb; have d2 := cell_of_row w2 w.heap.size 2 _ _ _ hb; have d3 := cell_of_row w2 w.heap.size 3 _ _ _ hb; have d4 := cell_of_row w2 w.heap.size 4 _ _ _ hb; have f0 := frozen_of_row w2 w.heap.size 0 _ _ hb; have f1 := frozen_of_row w2 w.heap.size 1 _ _ hb; have f2 := frozen_of_row w2 w.heap.size 2 _ _ hb; have f3 := frozen_of_row w2 w.heap.size 3 _ _ hb; have f4 := frozen_of_row w2 w.heap.size 4 _ _ hb; have HB := Lib.hid hb; have HX := Lib.hid (HXA.out.trans hx); clear hb hx); go_loud (rcases hx2 with ⟨n', k', hq, rfl⟩ | ⟨hq, rfl⟩; (exact absurd hq (by simp)))))
      refine bodyPost_ret (v := .tuple #[.agg #[.int .i64 0, .int .i64 0, .int .i64 0, .slice none 0 0, .slice none 0 0], .int .i64 0, .bool false]) (by simp [results, Tryd.results42, go_sem, d0, d1, d2, d3, d4]) rfl ?_
      exact ⟨by (focus (repeat (first | apply Ext.setn | exact HX.out))), .inr ⟨by rw [← HR.out, HQ.out], _, _, _, _, _, _, _, _, _, _, rfl⟩⟩
    | some q =>
      obtain ⟨n, k⟩ := q
      have hkl := number_le hN2
      rw [List.length_drop] at hkl
      by_cases hl2 : i + 2 + k < s.length
      rotate_left
      · have hget : s[i + 2 + k]? = none := List.getElem?_eq_none (by omega)
        have HQ := Lib.hid (part_oth hN1 h1 hN2 (by rw [hget]; decide) (by rw [hget]; decide))
        have hge2 : decide ((s.length : Int) ≤ (i : Int) + 2 + (k : Int)) = true := by simp; omega
        have hge3 : decide ((s.length : Int) ≤ (i : Int) + 1 + 1 + (k : Int)) = true := by simp; omega
        clear hN1 h1 hN2 hget
        go_enter Tryd.func42, Tryd.ntmps42
        go_wp2_with (first
          | (go_at_call 53; have _t := tok1; go_loud (refine (HNU.out (i + 1) (by omega) _ ((Ext.refl w).alloc _)).mono ?_; rw [HN1.out]; rintro e wa ⟨hx, hx2⟩; have hb := hx.heap (heap_alloc_new w _); have HBA := Lib.hid hb; have HXA := Lib.hid (((Ext.refl w).alloc _).trans hx); have hc := (((Ext.refl w).alloc _).trans hx).cell hc; clear hb hx; rcases hx2 with ⟨n', k', hq, rfl⟩ | ⟨hq, rfl⟩; (exact absurd hq (by simp)); clear tok1 _t))
          | (go_at_call 53; go_loud (refine (HNU.out (i + 2) (by omega) _ HXA.out).mono ?_; rw [HN2.out]; rintro e w2 ⟨hx, hx2⟩; have hb := hx.heap HBA.out; have d0 := cell_of_row w2 w.heap.size 0 _ _ _ hb; have d1 := cell_of_row w2 w.heap.size 1 _ _ _ hb; have d2 := cell_of_row w2 w.heap.size 2 _ _ _ hb; have d3 := cell_of_row w2 w.heap.size 3 _ _ _ hb; have d4 := cell_of_row w2 w.heap.size 4 _ _ _ hb; have f0 := frozen_of_row w2 w.heap.size 0 _ _ hb; have f1 := frozen_of_row w2 w.heap.size 1 _ _ hb; have f2 := frozen_of_row w2 w.heap.size 2 _ _ hb; have f3 := frozen_of_row w2 w.heap.size 3 _ _ hb; have f4 := frozen_of_row w2 w.heap.size 4 _ _ hb; have HB := Lib.hid hb; have HX := Lib.hid (HXA.out.trans hx); clear hb hx); rcases hx2 with ⟨n', k', hq, rfl⟩ | ⟨hq, rfl⟩; rotate_left; (exact absurd hq (by simp)); injection hq with hq; injection hq with hq1 hq2; subst hq1 hq2))
        refine bodyPost_ret (v := .tuple #[.agg #[.int .i64 0, .int .i64 0, .int .i64 0, .slice none 0 0, .slice none 0 0], .int .i64 0, .bool false]) (by simp [results, Tryd.results42, go_sem, d0, d1, d2, d3, d4]) rfl ?_
        exact ⟨by (focus (repeat (first | apply Ext.setn | exact HX.out))), .inr ⟨by rw [← HR.out, HQ.out], _, _, _, _, _, _, _, _, _, _, rfl⟩⟩
      obtain ⟨b', o', hbo, hc2⟩ := H.out.at_ hl2
      injection hbo with hbo
      injection hbo with hb1 hb2
      subst hb1 hb2
      have hget := List.getElem?_eq_getElem hl2
      generalize s[i + 2 + k] = x at hc2 hget
      have hge2 : decide ((s.length : Int) ≤ (i : Int) + 2 + (k : Int)) = false := by simp; omega
      have hl3 : (i : Int) + 2 + (k : Int) < s.length := by omega
      by_cases h125 : x = 125
      · subst h125
        have HQ := Lib.hid (part_125 hN1 h1 hN2 hget)
        clear hN1 h1 hN2 hget
        go_enter Tryd.func42, Tryd.ntmps42
        go_wp2_with (first
          | (go_at_call 53; have _t := tok1; go_loud (refine (HNU.out (i + 1) (by omega) _ ((Ext.refl w).alloc _)).mono ?_; rw [HN1.out]; rintro e wa ⟨hx, hx2⟩; have hb := hx.heap (heap_alloc_new w _); have HBA := Lib.hid hb; have HXA := Lib.hid (((Ext.refl w).alloc _).trans hx); have hc := (((Ext.refl w).alloc _).trans hx).cell hc; clear hb hx; rcases hx2 with ⟨n', k', hq, rfl⟩ | ⟨hq, rfl⟩; (exact absurd hq (by simp)); clear tok1 _t))
          | (go_at_call 53; go_loud (refine (HNU.out (i + 2) (by omega) _ HXA.out).mono ?_; rw [HN2.out]; rintro e w2 ⟨hx, hx2⟩; have hb := hx.heap HBA.out; have d0 := cell_of_row w2 w.heap.size 0 _ _ _ hb; have d1 := cell_of_row w2 w.heap.size 1 _ _ _ hb; have d2 := cell_of_row w2 w.heap.size 2 _ _ _ hb; have d3 := cell_of_row w2 w.heap.size 3 _ _ _ hb; have d4 := cell_of_row w2 w.heap.size 4 _ _ _ hb; have f0 := frozen_of_row w2 w.heap.size 0 _ _ hb; have f1 := frozen_of_row w2 w.heap.size 1 _ _ hb; have f2 := frozen_of_row w2 w.heap.size 2 _ _ hb; have f3 := frozen_of_row w2 w.heap.size 3 _ _ hb; have f4 := frozen_of_row w2 w.heap.size 4 _ _ hb; have HB := Lib.hid hb; have HX := Lib.hid (HXA.out.trans hx); clear hb hx); (have hc2 := HX.out.cell hc2); rcases hx2 with ⟨n', k', hq, rfl⟩ | ⟨hq, rfl⟩; rotate_left; (exact absurd hq (by simp)); injection hq with hq; injection hq with hq1 hq2; subst hq1 hq2))
        refine bodyPost_ret (v := .tuple #[.agg #[.int .i64 1, .int .i64 n, .int .i64 0, .slice none 0 0, .slice none 0 0], .int .i64 ((i : Int) + 2 + (k : Int) + 1), .bool true]) (by simp [results, Tryd.results42, go_sem, d0, d1, d2, d3, d4]) rfl ?_
        exact ⟨by (focus (repeat (first | apply Ext.setn | exact HX.out))), .inl ⟨⟨1, n, 0, [], []⟩, i + 2 + k + 1, [.int .i64 1, .int .i64 n, .int .i64 0, .slice none 0 0, .slice none 0 0], by rw [← HR.out, HQ.out], by congr 3, CF.mkW HB.out (by (focus (repeat (first | apply Only.set | exact Only.refl _ _)))) SlB.nil_ SlB.nil_⟩⟩
      by_cases h58 : x = 58
      · subst h58
        have HQ := Lib.hid (part_58 hN1 h1 hN2 hget)
        clear hN1 h1 hN2 hget h125
        go_enter Tryd.func42, Tryd.ntmps42
        go_wp2_with (first
          | (go_at_call 53; have _t := tok1; go_loud (refine (HNU.out (i + 1) (by omega) _ ((Ext.refl w).alloc _)).mono ?_; rw [HN1.out]; rintro e wa ⟨hx, hx2⟩; have hb := hx.heap (heap_alloc_new w _); have HBA := Lib.hid hb; have HXA := Lib.hid (((Ext.refl w).alloc _).trans hx); have hc := (((Ext.refl w).alloc _).trans hx).cell hc; clear hb hx; rcases hx2 with ⟨n', k', hq, rfl⟩ | ⟨hq, rfl⟩; (exact absurd hq (by simp)); clear tok1 _t))
          | (go_at_call 53; go_loud (refine (HNU.out (i + 2) (by omega) _ HXA.out).mono ?_; rw [HN2.out]; rintro e w2 ⟨hx, hx2⟩; have hb := hx.heap HBA.out; have d0 := cell_of_row w2 w.heap.size 0 _ _ _ hb; have d1 := cell_of_row w2 w.heap.size 1 _ _ _ hb; have d2 := cell_of_row w2 w.heap.size 2 _ _ _ hb; have d3 := cell_of_row w2 w.heap.size 3 _ _ _ hb; have d4 := cell_of_row w2 w.heap.size 4 _ _ _ hb; have f0 := frozen_of_row w2 w.heap.size 0 _ _ hb; have f1 := frozen_of_row w2 w.heap.size 1 _ _ hb; have f2 := frozen_of_row w2 w.heap.size 2 _ _ hb; have f3 := frozen_of_row w2 w.heap.size 3 _ _ hb; have f4 := frozen_of_row w2 w.heap.size 4 _ _ hb; have HB := Lib.hid hb; have HX := Lib.hid (HXA.out.trans hx); clear hb hx); (have hc2 := HX.out.cell hc2); rcases hx2 with ⟨n', k', hq, rfl⟩ | ⟨hq, rfl⟩; rotate_left; (exact absurd hq (by simp)); injection hq with hq; injection hq with hq1 hq2; subst hq1 hq2)
          | (go_at_call 54; go_loud (refine (HIN.out (i + 2 + k + 1) n (by omega) _ HX.out).mono ?_; rintro e w3 ⟨hx, hx2⟩; have hb := hx.heap HB.out; clear d0 d1 d2 d3 d4 f0 f1 f2 f3 f4; have d0 := cell_of_row w3 w.heap.size 0 _ _ _ hb; have d1 := cell_of_row w3 w.heap.size 1 _ _ _ hb; have d2 := cell_of_row w3 w.heap.size 2 _ _ _ hb; have d3 := cell_of_row w3 w.heap.size 3 _ _ _ hb; have d4 := cell_of_row w3 w.heap.size 4 _ _ _ hb; have f0 := frozen_of_row w3 w.heap.size 0 _ _ hb; have f1 := frozen_of_row w3 w.heap.size 1 _ _ hb; have f2 := frozen_of_row w3 w.heap.size 2 _ _ hb; have f3 := frozen_of_row w3 w.heap.size 3 _ _ hb; have f4 := frozen_of_row w3 w.heap.size 4 _ _ hb; have HB3 := Lib.hid hb; have HX3 := Lib.hid (HX.out.trans hx); clear hb hx; rcases hx2 with ⟨f, k3, cs, hq, rfl, vt, ve, rfl, ht, he⟩ | ⟨hq, x0, x1, x2, x3, A1, A2, l1, m1, l2, m2, rfl⟩; obtain ⟨At, ct, rfl, -⟩ := ht.form; obtain ⟨Ae, ce, rfl, -⟩ := he.form)))
        · refine bodyPost_ret (v := .tuple #[.agg #[.int .i64 f.kind, .int .i64 f.group, .int .i64 f.cas, .slice At f.text.length ct, .slice Ae f.els.length ce], .int .i64 (k3 : Int), .bool true]) (by simp [results, Tryd.results42, go_sem, d0, d1, d2, d3, d4]) rfl ?_
          exact ⟨by (focus (repeat (first | apply Ext.setn | exact HX3.out))), .inl ⟨f, k3, [.int .i64 f.kind, .int .i64 f.group, .int .i64 f.cas, .slice At f.text.length ct, .slice Ae f.els.length ce], by rw [← HR.out, HQ.out, hq], rfl, CF.mkW HB3.out (by (focus (repeat (first | apply Only.set | exact Only.refl _ _)))) (ht.weaken HX.out.size) (he.weaken HX.out.size)⟩⟩
        · refine bodyPost_ret (v := .tuple #[.agg #[.int .i64 x0, .int .i64 x1, .int .i64 x2, .slice A1 l1 m1, .slice A2 l2 m2], .int .i64 x3, .bool false]) (by simp [results, Tryd.results42, go_sem, d0, d1, d2, d3, d4]) rfl ?_
          exact ⟨by (focus (repeat (first | apply Ext.setn | exact HX3.out))), .inr ⟨by rw [← HR.out, HQ.out, hq], _, _, _, _, _, _, _, _, _, _, rfl⟩⟩
      · have HQ := Lib.hid (part_oth hN1 h1 hN2 (by rw [hget]; simpa using h125) (by rw [hget]; simpa using h58))
        have b1 : (x == 125) = false := by simpa using h125
        have b2 : (x == 58) = false := by simpa using h58
        clear hN1 h1 hN2 hget h125 h58
        go_enter Tryd.func42, Tryd.ntmps42
        go_wp2_with (first
          | (go_at_call 53; have _t := tok1; go_loud (refine (HNU.out (i + 1) (by omega) _ ((Ext.refl w).alloc _)).mono ?_; rw [HN1.out]; rintro e wa ⟨hx, hx2⟩; have hb := hx.heap (heap_alloc_new w _); have HBA := Lib.hid hb; have HXA := Lib.hid (((Ext.refl w).alloc _).trans hx); have hc := (((Ext.refl w).alloc _).trans hx).cell hc; clear hb hx; rcases hx2 with ⟨n', k', hq, rfl⟩ | ⟨hq, rfl⟩; (exact absurd hq (by simp)); clear tok1 _t))
          | (go_at_call 53; go_loud (refine (HNU.out (i + 2) (by omega) _ HXA.out).mono ?_; rw [HN2.out]; rintro e w2 ⟨hx, hx2⟩; have hb := hx.heap HBA.out; have d0 := cell_of_row w2 w.heap.size 0 _ _ _ hb; have d1 := cell_of_row w2 w.heap.size 1 _ _ _ hb; have d2 := cell_of_row w2 w.heap.size 2 _ _ _ hb; have d3 := cell_of_row w2 w.heap.size 3 _ _ _ hb; have d4 := cell_of_row w2 w.heap.size 4 _ _ _ hb; have f0 := frozen_of_row w2 w.heap.size 0 _ _ hb; have f1 := frozen_of_row w2 w.heap.size 1 _ _ hb; have f2 := frozen_of_row w2 w.heap.size 2 _ _ hb; have f3 := frozen_of_row w2 w.heap.size 3 _ _ hb; have f4 := frozen_of_row w2 w.heap.size 4 _ _ hb; have HB := Lib.hid hb; have HX := Lib.hid (HXA.out.trans hx); clear hb hx); (have hc2 := HX.out.cell hc2); rcases hx2 with ⟨n', k', hq, rfl⟩ | ⟨hq, rfl⟩; rotate_left; (exact absurd hq (by simp)); injection hq with hq; injection hq with hq1 hq2; subst hq1 hq2))
        refine bodyPost_ret (v := .tuple #[.agg #[.int .i64 0, .int .i64 0, .int .i64 0, .slice none 0 0, .slice none 0 0], .int .i64 0, .bool false]) (by simp [results, Tryd.results42, go_sem, d0, d1, d2, d3, d4]) rfl ?_
        exact ⟨by (focus (repeat (first | apply Ext.setn | exact HX.out))), .inr ⟨by rw [← HR.out, HQ.out], _, _, _, _, _, _, _, _, _, _, rfl⟩⟩
end Go.Proofs.YtfblkahjefdmaaaDoor
