/- Walks: errors.Is over this package's errors; Code, marks. -/
import Derived.Test.YtdhhoicngldfmaaDoorFaultD
import Derived.Deep.RegionWith
namespace Go.Proofs.YtdhhoicngldfmaaDoor
open Go.RowKit

theorem x_comp_f (w : World) : (callFunc 53 #[.agg #[.pointer (some ⟨1, 40, none⟩)]]).run Tryd.prog w = .ok (.value (.bool true)) w := by kernel_rfl
theorem infoF : (Tryd.prog.info? 40).map (·.comparable) = some true := by kernel_rfl
theorem infoF2 : (Tryd.prog.info? 42).map (·.size) = some 1 := by kernel_rfl
theorem eq_ff (a b : Nat) (hne : a ≠ b) (ca cb : Array Value) (ta tb : TypeId) (w : World) (ha : w.heap[a]? = some (.cells ca ta (0, 0))) (hb : w.heap[b]? = some (.cells cb tb (0, 0))) :
    (binOp .eql 34 (.iface 40 (.pointer (some ⟨a, 0, none⟩))) (.iface 40 (.pointer (some ⟨b, 0, none⟩)))).run Tryd.prog w = .ok (.bool false) w := by
  obtain ⟨i, hi, hc⟩ := Option.map_eq_some_iff.1 infoF
  obtain ⟨j, hj, hs⟩ := Option.map_eq_some_iff.1 infoF2
  exact run_eql_iface_ptr_other w Tryd.underlying34 Tryd.underlying40 hi hc hj (by rw [hs]; decide) (by intro e; injection e with e; exact hne e) ha hb
theorem eq_wf (v v' : Value) (w : World) : (binOp .eql 34 (.iface 43 v) (.iface 40 v')).run Tryd.prog w = .ok (.bool false) w :=
  run_eql_iface_types _ _ _ _ Tryd.underlying34 (by decide) w

theorem Chain.lt {w : World} {c : Int} {b : Nat} (h : w.heap[b]? = some (.cells #[.int .i64 c] 42 (0, 0))) : b < w.heap.size := by
  have hc : w.cell? ⟨b, 0, none⟩ = some (.int .i64 c) := cell_of_row w b 0 _ _ _ h
  exact World.block_lt_of_cell? w _ hc

set_option maxRecDepth 100000 in
set_option maxHeartbeats 2000000 in
theorem is_any (c d : Int) (r0 : List Int) (e0 : Value) (tb : Nat) (w0 w : World) (hch0 : Chain w0 e0 c r0) (hE0 : Ext w0 w) (htb : w0.heap.size ≤ tb) (ht : w.heap[tb]? = some (.cells #[.int .i64 d] 42 (0, 0))) :
    Calls Tryd.prog 20 #[e0, .iface 40 (.pointer (some ⟨tb, 0, none⟩)), .bool true] w (Ret (.bool (d == c)) w) := by
  obtain ⟨t0, b0, rfl⟩ := hch0.iface
  have HC := Lib.hid hch0
  have HT := Lib.hid ht
  have HE0 := Lib.hid hE0
  have HTB := Lib.hid htb
  clear hch0 ht hE0 htb
  go_enter Tryd.func20, Tryd.ntmps20
  go_wp2_with fail
  go_loopg [0] r0.length (fun k e wr => ∃ r, r.length = k ∧ Chain w0 e c r ∧ Ext w wr)
  case atStart => exact ⟨r0, rfl, HC.out, Ext.refl _⟩
  case round =>
    obtain ⟨r, hr, hch, hE⟩ := hrel
    cases r with
    | nil =>
      obtain ⟨b, rfl, hb⟩ := hch
      have hlt := Chain.lt hb
      have x1 := eq_ff b tb (by have := HTB.out; omega) _ _ _ _ wr ((HE0.out.trans hE).heap hb) (hE.heap HT.out)
      have HF := Lib.hid (fail_is b tb c d wr ((HE0.out.trans hE).heap hb) (hE.heap HT.out))
      clear hb hlt
      have x2 := ta_is_fail (.pointer (some ⟨b, 0, none⟩))
      have x3 := me_is b
      have x4 := cf_is
      have x5 := ta_unwrap_fail (.pointer (some ⟨b, 0, none⟩))
      have x6 := ta_many_fail (.pointer (some ⟨b, 0, none⟩))
      go_wp2_with fail
      refine HF.out.mono ?_
      rintro e w1 ⟨rfl, hE1⟩
      cases hdc : (d == c)
      · go_wp2_with fail
        go_ret
        exact ⟨by rw [hdc]; rfl, hE.trans hE1⟩
      · go_wp2_with fail
        go_ret
        exact ⟨by rw [hdc]; rfl, hE.trans hE1⟩
    | cons m r =>
      obtain ⟨b, e', rfl, hb, hch'⟩ := hch
      obtain ⟨t', b', rfl⟩ := hch'.iface
      have HCH := Lib.hid hch'
      clear hch'
      have HU := Lib.hid (wrap_unwrap b m _ wr ((HE0.out.trans hE).heap hb) t' _ rfl)
      clear hb
      have hrl : r.length < gk := by simp at hr; omega
      have HR := Lib.hid hr
      clear hr
      have x1 := eq_wf (.pointer (some ⟨b, 0, none⟩)) (.pointer (some ⟨tb, 0, none⟩))
      have x4 := ta_is_wrap (.pointer (some ⟨b, 0, none⟩))
      have x5 := ta_unwrap_wrap (.pointer (some ⟨b, 0, none⟩))
      have x6 := me_unwrap b
      have x7 := cf_unwrap
      go_wp2_with fail
      refine HU.out.mono ?_
      rintro e w1 ⟨rfl, hE1⟩
      go_wp2_with fail
      go_roundg r.length
      case measure => exact hrl
      case rel => exact ⟨r, rfl, HCH.out, hE.trans hE1⟩

set_option maxHeartbeats 1000000 in
theorem isTop_any (c d : Int) (r0 : List Int) (e0 : Value) (tb : Nat) (w0 w : World) (hch0 : Chain w0 e0 c r0) (hE0 : Ext w0 w) (htb : w0.heap.size ≤ tb) (ht : w.heap[tb]? = some (.cells #[.int .i64 d] 42 (0, 0))) :
    Calls Tryd.prog 16 #[e0, .iface 40 (.pointer (some ⟨tb, 0, none⟩))] w (Ret (.bool (d == c)) w) := by
  have H := Lib.hid (is_any c d r0 e0 tb w0 w hch0 hE0 htb ht)
  obtain ⟨t0, b0, rfl⟩ := hch0.iface
  clear hch0 hE0 htb ht
  have x1 := x_typeOf_f (.pointer (some ⟨tb, 0, none⟩))
  have x2 := x_mcomp 40
  have x3 := x_comp_f
  go_enter Tryd.func16, Tryd.ntmps16
  go_wp2_with fail
  refine H.out.mono ?_
  rintro e w1 ⟨rfl, hE1⟩
  go_wp2_with fail
  go_ret
  exact ⟨rfl, hE1⟩

set_option maxHeartbeats 1000000 in
theorem code_any (c : Int) (r : List Int) (e0 : Value) (w : World) (hL : Laid w) (hch : Chain w e0 c r) :
    Calls Tryd.prog 14 #[e0] w (Ret (.int .i64 c) w) := by
  obtain ⟨t0, b0, rfl⟩ := hch.iface
  have hL1 : Laid (w.alloc (.cells #[.pointer none] 40)) := hL.ext ((Ext.refl w).alloc _)
  have H := Lib.hid (asTop_f t0 b0 w.heap.size (w.alloc (.cells #[.pointer none] 40)) hL1 (by simp)
    (fun bb w' => bb = true ∧ ∃ b, Only (w.alloc (.cells #[.pointer none] 40)) w' w.heap.size ∧ w'.cell? ⟨w.heap.size, 0, none⟩ = some (.pointer (some ⟨b, 0, none⟩)) ∧ w'.cell? ⟨b, 0, none⟩ = some (.int .i64 c))
    (fun w' g hE _ hg => (as_f c r _ w.heap.size g (.pointer none) w' (Chain.ext (((Ext.refl w).alloc _).trans hE) _ _ hch) (hE.heap (heap_alloc_new w _)) hg).mono fun e w2 ⟨bb, he, b, ⟨h1, h2, h3⟩, h4⟩ =>
      ⟨bb, he, h1, b, Only.trans_ext hE h2, cell_of_row _ _ 0 _ _ _ h3, by
        have hne : b ≠ w.heap.size := by
          rintro rfl
          have := hE.heap (heap_alloc_new w (.cells #[.pointer none] 40))
          rw [h4] at this; cases this
        have hb : b < w'.heap.size := Chain.lt h4
        exact cell_of_row _ _ 0 _ _ _ ((h2.block b hb (by intro e; injection e with e; exact hne e)).trans h4)⟩))
  clear hL hch hL1
  go_enter Tryd.func14, Tryd.ntmps14
  go_wp2_with fail
  refine H.out.mono ?_
  rintro e w1 ⟨bb, rfl, rfl, b, h1, h2, h3⟩
  go_wp2_with fail
  go_ret
  exact ⟨rfl, Only.ext ((Ext.refl w).alloc _) h1 (Nat.le_refl _)⟩

set_option maxHeartbeats 400000 in
theorem code_nil (w : World) : Calls Tryd.prog 14 #[.nilIface] w (Ret (.int .i64 0) w) := by
  go_enter Tryd.func14, Tryd.ntmps14
  go_wp2
  go_ret
  exact ⟨rfl, (Ext.refl w).alloc _⟩
end Go.Proofs.YtdhhoicngldfmaaDoor
