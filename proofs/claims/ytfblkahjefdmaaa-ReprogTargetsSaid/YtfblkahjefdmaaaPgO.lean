/- Walks: split, jump, save of package reprog. -/
import Derived.Test.YtfblkahjefdmaaaPgN
namespace Go.Proofs.Ytfblkahjefdmaaa
open Go.RowKit

theorem heap_off {w : World} {g h o : Nat} {u : Value} (hne : g ≠ h) : (w.setCell ⟨h, o, none⟩ u).heap[g]? = w.heap[g]? := Below.heap_setCell w ⟨h, o, none⟩ u g hne
theorem cell_heap {w w' : World} {b o : Nat} (h : w'.heap[b]? = w.heap[b]?) : w'.cell? ⟨b, o, none⟩ = w.cell? ⟨b, o, none⟩ := by unfold World.cell?; rw [h]
/-- The blocks that w has not. -/
abbrev Nw (w : World) : Nat → Prop := fun b => w.heap.size ≤ b
theorem newIn_le {w W : World} (h : w.heap.size ≤ W.heap.size) : NewIn (Nw w) W := fun _ hb => Nat.le_trans h hb
/-- Readings of instructions lie in no part's box. -/
theorem SlCS.off {S : Nat → Prop} {w w' : World} {g : Nat} {a : Value} {n : Int} {t : TypeId} {v : Value} {xs : List Int} (h : SlCS S w v xs) (hg : w.heap[g]? = some (.cells #[a, .int .i64 n] t (0, 0))) (ha : ∀ x, a ≠ .int .i32 x) (hw : ∀ i, i ≠ g → w'.heap[i]? = w.heap[i]?) : SlCS S w' v xs := by
  refine SlR.mono2 h fun b o x ⟨hs, hc⟩ => ?_
  have hne : b ≠ g := by
    intro e
    subst e
    rw [cell_of_row w b o _ _ _ hg] at hc
    match o, hc with
    | 0, hc => exact ha x (by simpa using hc)
    | 1, hc => simp at hc
    | n + 2, hc => simp at hc
  exact ⟨hs, (cell_heap (hw b hne)).trans hc⟩
theorem SlN.off {S : Nat → Prop} {w w' : World} {g : Nat} {a : Value} {n : Int} {t : TypeId} {v : Value} {l : List PG.Inst} (h : SlN S w v l) (hg : w.heap[g]? = some (.cells #[a, .int .i64 n] t (0, 0))) (ha : ∀ x, a ≠ .int .i32 x) (hw : ∀ i, i ≠ g → w'.heap[i]? = w.heap[i]?) (hz : w.heap.size ≤ w'.heap.size) : SlN S w' v l := by
  refine ⟨fun b hb => h.1 b (Nat.le_trans hz hb), SlR.mono2 h.2 fun b o x hc => ?_⟩
  obtain ⟨h0, cs, ⟨vs, rfl, hs⟩, h3, hcell⟩ := hc
  have hne : b ≠ g := by
    intro e
    subst e
    have h4 := hcell 4 vs rfl
    rw [cell_of_row w b (o + 4) _ _ _ hg] at h4
    rw [Array.getElem?_eq_none (by simp)] at h4
    cases h4
  exact ⟨h0, _, ⟨vs, rfl, hs.off hg ha hw⟩, h3, fun j u hu => (cell_heap (hw b hne)).trans (hcell j u hu)⟩
theorem inst_lit5 {S : Nat → Prop} {w : World} {vs : Value} {g : Nat} (op x y : Int) (neg : Bool) (set : List Int) (hS : NewIn S w) (hg : g = w.heap.size) (hs : SlCS S w vs set) : SlN S (w.alloc (.cells #[.int .i64 op, .int .i64 x, .int .i64 y, .bool neg, vs] 53)) (.slice (some ⟨g, 0, none⟩) 1 1) [⟨op, x, y, neg, set⟩] := by
  subst hg
  exact inst_lit (i := ⟨op, x, y, neg, set⟩) hS hs
/-- Behind the store of a part into the result's box. -/
theorem part_ret {S : Nat → Prop} {p : PG.Part} {w w2 : World} {A : Option Addr} {c : Nat} {n : Int} (hb : w2.heap[w.heap.size]? = some (.cells #[.slice none 0 0, .int .i64 0] 103 (0, 0))) (hx : Ext w w2) (hl : SlN S w2 (.slice A p.l.length c) p.l) :
    PartR S p w (.returned (.agg #[.slice A p.l.length c, .int .i64 (p.n : Int)])) ((w2.setCell ⟨w.heap.size, 0, none⟩ (.slice A p.l.length c)).setCell ⟨w.heap.size, 1, none⟩ (.int .i64 n)) :=
  ⟨(hx.set9).set9, A, c, rfl, hl.off hb (by intro x h; cases h) (fun i hi => (heap_off hi).trans (heap_off hi)) (by simp)⟩
set_option maxRecDepth 100000 in
set_option maxHeartbeats 1000000 in
theorem psplit_any (far : Int) (w : World) : Calls Try.prog 123 #[.int .i64 far, .bool false] w (PartR (Nw w) (PG.split far false) w) := by
  go_enter Try.func123, Try.ntmps123
  go_wp2_with (go_at_call 69; go_loud (refine (pone_any [⟨4, 1, far, false, []⟩] _ _ (inst_lit5 (4) (1) (far) (false) ([]) (newIn_le (w := w) (by simp; try omega)) (by simp) SlR.nil_)).mono ?_; rintro e w2 ⟨hx, A2, c2, rfl, hl2⟩; have hx0 : Ext (w.alloc (.cells #[.slice none 0 0, .int .i64 0] 103)) w2 := Ext.trans (by (focus (repeat (first | with_reducible exact Ext.refl _ | with_reducible apply Ext.alloc | (with_reducible refine Ext.setg ?_ ?_; (simp; done)))))) hx; have hb := hx0.heap (heap_alloc_new w _); have d0 := cell_of_row w2 w.heap.size 0 _ _ _ hb; have d1 := cell_of_row w2 w.heap.size 1 _ _ _ hb; have f0 := frozen_of_row w2 w.heap.size 0 _ _ hb; have f1 := frozen_of_row w2 w.heap.size 1 _ _ hb; have HX := Lib.hid (((Ext.refl w).alloc _).trans hx0); have HL2 := Lib.hid hl2; have HB := Lib.hid hb; clear hx hx0 hb hl2))
  refine bodyPost_ret (v := .agg #[.slice A2 1 c2, .int .i64 1]) (by simp [results, Try.results123, go_sem, d0, d1, PG.one]) rfl ?_
  exact part_ret (p := PG.split far false) HB.out HX.out HL2.out
set_option maxRecDepth 100000 in
set_option maxHeartbeats 1000000 in
theorem psplitz_any (far : Int) (w : World) : Calls Try.prog 123 #[.int .i64 far, .bool true] w (PartR (Nw w) (PG.split far true) w) := by
  go_enter Try.func123, Try.ntmps123
  go_wp2_with (go_at_call 69; go_loud (refine (pone_any [⟨4, far, 1, false, []⟩] _ _ (inst_lit5 (4) (far) (1) (false) ([]) (newIn_le (w := w) (by simp; try omega)) (by simp) SlR.nil_)).mono ?_; rintro e w2 ⟨hx, A2, c2, rfl, hl2⟩; have hx0 : Ext (w.alloc (.cells #[.slice none 0 0, .int .i64 0] 103)) w2 := Ext.trans (by (focus (repeat (first | with_reducible exact Ext.refl _ | with_reducible apply Ext.alloc | (with_reducible refine Ext.setg ?_ ?_; (simp; done)))))) hx; have hb := hx0.heap (heap_alloc_new w _); have d0 := cell_of_row w2 w.heap.size 0 _ _ _ hb; have d1 := cell_of_row w2 w.heap.size 1 _ _ _ hb; have f0 := frozen_of_row w2 w.heap.size 0 _ _ hb; have f1 := frozen_of_row w2 w.heap.size 1 _ _ hb; have HX := Lib.hid (((Ext.refl w).alloc _).trans hx0); have HL2 := Lib.hid hl2; have HB := Lib.hid hb; clear hx hx0 hb hl2))
  refine bodyPost_ret (v := .agg #[.slice A2 1 c2, .int .i64 1]) (by simp [results, Try.results123, go_sem, d0, d1, PG.one]) rfl ?_
  exact part_ret (p := PG.split far true) HB.out HX.out HL2.out
set_option maxRecDepth 100000 in
set_option maxHeartbeats 1000000 in
theorem pjump_any (far : Int) (w : World) : Calls Try.prog 124 #[.int .i64 far] w (PartR (Nw w) (PG.jump far) w) := by
  go_enter Try.func124, Try.ntmps124
  go_wp2_with (go_at_call 69; go_loud (refine (pone_any [⟨5, far, 0, false, []⟩] _ _ (inst_lit5 (5) (far) (0) (false) ([]) (newIn_le (w := w) (by simp; try omega)) (by simp) SlR.nil_)).mono ?_; rintro e w2 ⟨hx, A2, c2, rfl, hl2⟩; have hx0 : Ext (w.alloc (.cells #[.slice none 0 0, .int .i64 0] 103)) w2 := Ext.trans (by (focus (repeat (first | with_reducible exact Ext.refl _ | with_reducible apply Ext.alloc | (with_reducible refine Ext.setg ?_ ?_; (simp; done)))))) hx; have hb := hx0.heap (heap_alloc_new w _); have d0 := cell_of_row w2 w.heap.size 0 _ _ _ hb; have d1 := cell_of_row w2 w.heap.size 1 _ _ _ hb; have f0 := frozen_of_row w2 w.heap.size 0 _ _ hb; have f1 := frozen_of_row w2 w.heap.size 1 _ _ hb; have HX := Lib.hid (((Ext.refl w).alloc _).trans hx0); have HL2 := Lib.hid hl2; have HB := Lib.hid hb; clear hx hx0 hb hl2))
  refine bodyPost_ret (v := .agg #[.slice A2 1 c2, .int .i64 1]) (by simp [results, Try.results124, go_sem, d0, d1, PG.one]) rfl ?_
  exact part_ret (p := PG.jump far) HB.out HX.out HL2.out
set_option maxRecDepth 100000 in
set_option maxHeartbeats 1000000 in
theorem psave_any (far : Int) (w : World) : Calls Try.prog 67 #[.int .i64 far] w (PartR (Nw w) (PG.save far) w) := by
  go_enter Try.func67, Try.ntmps67
  go_wp2_with (go_at_call 69; go_loud (refine (pone_any [⟨3, far, 0, false, []⟩] _ _ (inst_lit5 (3) (far) (0) (false) ([]) (newIn_le (w := w) (by simp; try omega)) (by simp) SlR.nil_)).mono ?_; rintro e w2 ⟨hx, A2, c2, rfl, hl2⟩; have hx0 : Ext (w.alloc (.cells #[.slice none 0 0, .int .i64 0] 103)) w2 := Ext.trans (by (focus (repeat (first | with_reducible exact Ext.refl _ | with_reducible apply Ext.alloc | (with_reducible refine Ext.setg ?_ ?_; (simp; done)))))) hx; have hb := hx0.heap (heap_alloc_new w _); have d0 := cell_of_row w2 w.heap.size 0 _ _ _ hb; have d1 := cell_of_row w2 w.heap.size 1 _ _ _ hb; have f0 := frozen_of_row w2 w.heap.size 0 _ _ hb; have f1 := frozen_of_row w2 w.heap.size 1 _ _ hb; have HX := Lib.hid (((Ext.refl w).alloc _).trans hx0); have HL2 := Lib.hid hl2; have HB := Lib.hid hb; clear hx hx0 hb hl2))
  refine bodyPost_ret (v := .agg #[.slice A2 1 c2, .int .i64 1]) (by simp [results, Try.results67, go_sem, d0, d1, PG.one]) rfl ?_
  exact part_ret (p := PG.save far) HB.out HX.out HL2.out
theorem psplit_all (far : Int) (lz : Bool) (w : World) : Calls Try.prog 123 #[.int .i64 far, .bool lz] w (PartR (Nw w) (PG.split far lz) w) := by
  cases lz
  · exact psplit_any far w
  · exact psplitz_any far w
end Go.Proofs.Ytfblkahjefdmaaa
