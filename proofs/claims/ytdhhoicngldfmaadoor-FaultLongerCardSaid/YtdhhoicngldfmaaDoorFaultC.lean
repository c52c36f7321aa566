/- Walks: errors.As and errors.as over this package's errors. -/
import Derived.Test.YtdhhoicngldfmaaDoorFaultY
import Derived.Test.YtdhhoicngldfmaaDoorFaultB
namespace Go.Proofs.YtdhhoicngldfmaaDoor
open Go.RowKit

/-- The variable errors.errorType, as the program's text lays it. -/
def Laid (w : World) : Prop := w.cell? ⟨0, 0, none⟩ = some (Rt 34)
def RB (R : Bool → World → Prop) (e : Ending) (w' : World) : Prop := ∃ b, e = .returned (.bool b) ∧ R b w'
theorem Laid.ext {w w' : World} (h : Laid w) (he : Ext w w') : Laid w' := he.cell h

set_option maxHeartbeats 1000000 in
theorem asTop_f (t0 : TypeId) (b0 p : Nat) (w : World) (hL : Laid w) (hp : p < w.heap.size) (R : Bool → World → Prop)
    (H : ∀ w' g, Ext w w' → w.heap.size ≤ g → w'.cell? ⟨g, 0, none⟩ = some (.pointer (some ⟨p, 0, none⟩)) → Calls Tryd.prog 24 #[.iface t0 (.pointer (some ⟨b0, 0, none⟩)), .iface 47 (.pointer (some ⟨p, 0, none⟩)), Rv 47 g 150, Rt 40] w' (RB R)) :
    Calls Tryd.prog 18 #[.iface t0 (.pointer (some ⟨b0, 0, none⟩)), .iface 47 (.pointer (some ⟨p, 0, none⟩))] w (RB R) := by
  unfold Laid at hL
  have x1 := x_valueOf_f p
  have x2 := x_type_f w.heap.size
  have x3 := x_mkind 47
  have x4 := x_kind_f
  have x5 := x_melem 47
  have x6 := x_elem_f
  have x7 := x_mkind 40
  have x8 := x_kind2_f
  have x9 := x_mimpl 40
  have xa := x_impl_f
  have xb := x_isNil_f w.heap.size p
  have h0 : 0 < w.heap.size := by omega
  have HH := Lib.hid H
  clear H
  go_enter Tryd.func18, Tryd.ntmps18
  go_wp2_with fail
  refine (HH.out _ _ ?_ ?_ ?_).mono ?_
  · exact ((Ext.refl w).alloc _).alloc _
  · exact Nat.le_refl _
  · go_simp
  rintro e w1 ⟨bb, rfl, hR⟩
  clear HH x1 x2 x3 x4 x5 x6 x7 x8 x9 xa xb
  go_wp2_with fail
  go_ret
  exact ⟨bb, rfl, hR⟩

set_option maxHeartbeats 1000000 in
theorem asTop_w (t0 : TypeId) (b0 p : Nat) (w : World) (hL : Laid w) (hp : p < w.heap.size) (R : Bool → World → Prop)
    (H : ∀ w' g, Ext w w' → w.heap.size ≤ g → w'.cell? ⟨g, 0, none⟩ = some (.pointer (some ⟨p, 0, none⟩)) → Calls Tryd.prog 24 #[.iface t0 (.pointer (some ⟨b0, 0, none⟩)), .iface 48 (.pointer (some ⟨p, 0, none⟩)), Rv 48 g 150, Rt 43] w' (RB R)) :
    Calls Tryd.prog 18 #[.iface t0 (.pointer (some ⟨b0, 0, none⟩)), .iface 48 (.pointer (some ⟨p, 0, none⟩))] w (RB R) := by
  unfold Laid at hL
  have x1 := x_valueOf_w p
  have x2 := x_type_w w.heap.size
  have x3 := x_mkind 48
  have x4 := x_kind_w
  have x5 := x_melem 48
  have x6 := x_elem_w
  have x7 := x_mkind 43
  have x8 := x_kind2_w
  have x9 := x_mimpl 43
  have xa := x_impl_w
  have xb := x_isNil_w w.heap.size p
  have h0 : 0 < w.heap.size := by omega
  have HH := Lib.hid H
  clear H
  go_enter Tryd.func18, Tryd.ntmps18
  go_wp2_with fail
  refine (HH.out _ _ ?_ ?_ ?_).mono ?_
  · exact ((Ext.refl w).alloc _).alloc _
  · exact Nat.le_refl _
  · go_simp
  rintro e w1 ⟨bb, rfl, hR⟩
  clear HH x1 x2 x3 x4 x5 x6 x7 x8 x9 xa xb
  go_wp2_with fail
  go_ret
  exact ⟨bb, rfl, hR⟩

end Go.Proofs.YtdhhoicngldfmaaDoor
