/- Walks: errors.as over this package's errors. -/
import Derived.Test.YtdhhoicngldfmaaDoorFaultC
namespace Go.Proofs.YtdhhoicngldfmaaDoor
open Go.RowKit

/-- Only block p, and what is new, has turned. -/
abbrev Only (w w' : World) (p : Nat) : Prop := w.grownBy w' (some p)
theorem Only.of_ext {w w' : World} (h : Ext w w') (p : Nat) : Only w w' p := ⟨Below.os h, Below.tape h, Below.output h, Below.size h, fun i hi _ => Below.block h i hi⟩
theorem Only.set {a w : World} {p o : Nat} (h : Only a w p) (u : Value) : Only a (w.setCell ⟨p, o, none⟩ u) p :=
  ⟨h.os, h.tape, h.output, by simpa using h.size, fun i hi hne => (Below.heap_setCell w ⟨p, o, none⟩ u i (by rintro rfl; exact hne rfl)).trans (h.block i hi hne)⟩
theorem Only.alloc {a w : World} {p : Nat} (h : Only a w p) (o : Obj) : Only a (w.alloc o) p :=
  ⟨h.os, h.tape, h.output, Nat.le_trans h.size (by simp), fun i hi hne => (Below.heap_alloc w o i (Nat.lt_of_lt_of_le hi h.size)).trans (h.block i hi hne)⟩
theorem Only.trans_ext {a w w' : World} {p : Nat} (h : Ext a w) (k : Only w w' p) : Only a w' p :=
  ⟨k.os.trans (Below.os h), k.tape.trans (Below.tape h), k.output.trans (Below.output h), Nat.le_trans (Below.size h) k.size, fun i hi hne => (k.block i (Nat.lt_of_lt_of_le hi (Below.size h)) hne).trans (Below.block h i hi)⟩
theorem Only.ext {a w w' : World} {p : Nat} (h : Ext a w) (k : Only w w' p) (hp : a.heap.size ≤ p) : Ext a w' := h.grown k (by intro q hq; injection hq with hq; omega)

/-- Behind errors.As: the variable at p points to block b. -/
def Got (t : TypeId) (p b : Nat) (w : World) (bb : Bool) (w' : World) : Prop := bb = true ∧ Only w w' p ∧ w'.heap[p]? = some (.cells #[.pointer (some ⟨b, 0, none⟩)] t (0, 0))

theorem heap_set1 {w : World} {p : Nat} {v u : Value} {t : TypeId} (h : w.heap[p]? = some (.cells #[v] t (0, 0))) : (w.setCell ⟨p, 0, none⟩ u).heap[p]? = some (.cells #[u] t (0, 0)) := by
  simp [World.setCell, Array.getElem?_modify, h]
theorem frozen_of {w : World} {p : Nat} {cs : Array Value} {t : TypeId} (h : w.heap[p]? = some (.cells cs t (0, 0))) (o : Nat) : w.frozen? ⟨p, o, none⟩ = false := by
  simp [World.frozen?, h]

set_option maxRecDepth 100000 in
set_option maxHeartbeats 1000000 in
theorem as_w1 (b p g : Nat) (v : Value) (w : World) (hp : w.heap[p]? = some (.cells #[v] 43 (0, 0))) (hg : w.cell? ⟨g, 0, none⟩ = some (.pointer (some ⟨p, 0, none⟩))) :
    Calls Tryd.prog 24 #[.iface 43 (.pointer (some ⟨b, 0, none⟩)), .iface 48 (.pointer (some ⟨p, 0, none⟩)), Rv 48 g 150, Rt 43] w (RB (Got 43 p b w)) := by
  have hgl := World.block_lt_of_cell? w _ hg
  have hpc : w.cell? ⟨p, 0, none⟩ = some v := cell_of_row w p 0 _ _ _ hp
  have hpf : w.frozen? ⟨p, 0, none⟩ = false := frozen_of hp 0
  have hpl := World.block_lt_of_cell? w _ hpc
  simp only at hgl hpl
  have HP := Lib.hid hp
  clear hp
  have x1 := x_typeOf_w (.pointer (some ⟨b, 0, none⟩))
  have x2 := x_massign 43
  have x3 := x_assign_w
  have x4 := x_velem_w g p
  have x5 := x_valueOfE_w b
  have x6 := x_set_w (w.heap.size + 1) p b v ((w.alloc (.cells #[.pointer (some ⟨1, 48, none⟩), .pointer (some ⟨g, 0, none⟩), .int .u64 150] 59)).alloc (.cells #[.pointer (some ⟨b, 0, none⟩)] 43)) (by go_simp) (by go_simp) (by go_simp)
  go_enter Tryd.func24, Tryd.ntmps24
  go_wp2_with fail
  go_loopg [0] 0 (fun k e wr => wr = w.alloc (.cells #[.pointer (some ⟨1, 48, none⟩), .pointer (some ⟨g, 0, none⟩), .int .u64 150] 59) ∧ e = .iface 43 (.pointer (some ⟨b, 0, none⟩)))
  case atStart => exact ⟨rfl, rfl⟩
  case round =>
    obtain ⟨rfl, rfl⟩ := hrel
    go_wp2_with fail
    go_ret
    refine ⟨true, rfl, rfl, ?_, ?_⟩
    · exact (((Only.of_ext (Ext.refl w) p).set _).alloc _).alloc _
    · exact (((Ext.refl _).alloc _).alloc _).heap (heap_set1 HP.out)

set_option maxRecDepth 100000 in
set_option maxHeartbeats 1000000 in
theorem as_w0 (b p g : Nat) (w : World) :
    Calls Tryd.prog 24 #[.iface 40 (.pointer (some ⟨b, 0, none⟩)), .iface 48 (.pointer (some ⟨p, 0, none⟩)), Rv 48 g 150, Rt 43] w (RB fun bb w' => bb = false ∧ Ext w w') := by
  have x1 := x_typeOf_f (.pointer (some ⟨b, 0, none⟩))
  have x2 := x_massign 40
  have x3 := x_assign_fw
  have x4 := ta_as_fail (.pointer (some ⟨b, 0, none⟩))
  have x5 := ta_unwrap_fail (.pointer (some ⟨b, 0, none⟩))
  have x6 := ta_many_fail (.pointer (some ⟨b, 0, none⟩))
  go_enter Tryd.func24, Tryd.ntmps24
  go_wp2_with fail
  go_loopg [0] 0 (fun k e wr => Ext w wr ∧ e = .iface 40 (.pointer (some ⟨b, 0, none⟩)))
  case atStart => exact ⟨(Ext.refl w).alloc _, rfl⟩
  case round =>
    obtain ⟨hE, rfl⟩ := hrel
    go_wp2_with fail
    go_ret
    exact ⟨false, rfl, rfl, hE⟩

set_option maxRecDepth 100000 in
set_option maxHeartbeats 2000000 in
theorem as_f (c : Int) (r0 : List Int) (e0 : Value) (p g : Nat) (v : Value) (w : World) (hch0 : Chain w e0 c r0) (hp : w.heap[p]? = some (.cells #[v] 40 (0, 0))) (hg : w.cell? ⟨g, 0, none⟩ = some (.pointer (some ⟨p, 0, none⟩))) :
    Calls Tryd.prog 24 #[e0, .iface 47 (.pointer (some ⟨p, 0, none⟩)), Rv 47 g 150, Rt 40] w
      (RB fun bb w' => ∃ b, Got 40 p b w bb w' ∧ w.heap[b]? = some (.cells #[.int .i64 c] 42 (0, 0))) := by
  have hgl := World.block_lt_of_cell? w _ hg
  simp only at hgl
  obtain ⟨t0, b0, rfl⟩ := hch0.iface
  have HC := Lib.hid hch0
  clear hch0
  have HP := Lib.hid hp
  clear hp
  have HG := Lib.hid hg
  clear hg
  go_enter Tryd.func24, Tryd.ntmps24
  go_wp2_with fail
  go_loopg [0] r0.length (fun k e wr => ∃ r, r.length = k ∧ Chain w e c r ∧ Ext (w.alloc (.cells #[.pointer (some ⟨1, 47, none⟩), .pointer (some ⟨g, 0, none⟩), .int .u64 150] 59)) wr)
  case atStart => exact ⟨r0, rfl, HC.out, Ext.refl _⟩
  case round =>
    obtain ⟨r, hr, hch, hE⟩ := hrel
    have hE0 : Ext w wr := ((Ext.refl w).alloc _).trans hE
    cases r with
    | nil =>
      obtain ⟨b, rfl, hb⟩ := hch
      have HB := Lib.hid hb
      clear hb
      have hc0 : wr.cell? ⟨w.heap.size, 0, none⟩ = some (.pointer (some ⟨1, 47, none⟩)) := hE.cell (by go_simp)
      have hc1 : wr.cell? ⟨w.heap.size, 1, none⟩ = some (.pointer (some ⟨g, 0, none⟩)) := hE.cell (by go_simp)
      have hc2 : wr.cell? ⟨w.heap.size, 2, none⟩ = some (.int .u64 150) := hE.cell (by go_simp)
      have hpw := hE0.heap HP.out
      have hpc : wr.cell? ⟨p, 0, none⟩ = some v := cell_of_row wr p 0 _ _ _ hpw
      have hpf : wr.frozen? ⟨p, 0, none⟩ = false := frozen_of hpw 0
      have hpl := World.block_lt_of_cell? wr _ hpc
      simp only at hpl
      have HPW := Lib.hid hpw
      clear hpw
      have x1 := x_typeOf_f (.pointer (some ⟨b, 0, none⟩))
      have x2 := x_massign 40
      have x3 := x_assign_f
      have x4 := x_velem_f g p wr (hE0.cell HG.out)
      have x5 := x_valueOfE_f b
      have x6 := x_set_f wr.heap.size p b v (wr.alloc (.cells #[.pointer (some ⟨b, 0, none⟩)] 40)) (by go_simp) (by go_simp) (by go_simp)
      go_wp2_with fail
      go_ret
      refine ⟨true, rfl, b, ⟨rfl, ?_, ?_⟩, HB.out⟩
      · exact Only.trans_ext hE0 (((Only.of_ext (Ext.refl wr) p).set _).alloc _)
      · exact ((Ext.refl _).alloc _).heap (heap_set1 HPW.out)
    | cons m r =>
      obtain ⟨b, e', rfl, hb, hch'⟩ := hch
      obtain ⟨t', b', rfl⟩ := hch'.iface
      have HCH := Lib.hid hch'
      clear hch'
      have HU := Lib.hid (wrap_unwrap b m _ wr (hE0.heap hb) t' _ rfl)
      clear hb
      have hrl : r.length < gk := by simp at hr; omega
      have HR := Lib.hid hr
      clear hr
      have x1 := x_typeOf_w (.pointer (some ⟨b, 0, none⟩))
      have x2 := x_massign 43
      have x3 := x_assign_wf
      have x4 := ta_as_wrap (.pointer (some ⟨b, 0, none⟩))
      have x5 := ta_unwrap_wrap (.pointer (some ⟨b, 0, none⟩))
      have x6 := me_unwrap b
      have x7 := cf_unwrap
      go_wp2_with fail
      refine HU.out.mono ?_
      rintro e w1 ⟨rfl, hE1⟩
      go_wp2_with fail
      go_roundg r.length
      case measure => exact hrl
      case rel => exact ⟨r, rfl, HCH.out, hE.trans hE1⟩
end Go.Proofs.YtdhhoicngldfmaaDoor
