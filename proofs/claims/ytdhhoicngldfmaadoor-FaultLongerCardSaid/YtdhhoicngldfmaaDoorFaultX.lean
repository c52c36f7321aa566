/- Closed facts on the library's externs at this package's types. -/
import Derived.Test.YtdhhoicngldfmaaDoorRows
import Derived.KernelRfl
import Derived.WalkKit
namespace Go.Proofs.YtdhhoicngldfmaaDoor
open Go.RowKit

abbrev Rt (t : TypeId) : Value := .iface 67 (.agg #[.pointer (some ⟨1, t, none⟩)])
abbrev Rv (t : TypeId) (g : Nat) (k : Int) : Value := .agg #[.pointer (some ⟨1, t, none⟩), .pointer (some ⟨g, 0, none⟩), .int .u64 k]

theorem x_mkind (t : Nat) (w : World) : (method 211 67 (.agg #[.pointer (some ⟨1, t, none⟩)]) "Kind").run Tryd.prog w = .ok (41, .pointer (some ⟨1, t, none⟩)) w := by kernel_rfl
theorem x_melem (t : Nat) (w : World) : (method 211 67 (.agg #[.pointer (some ⟨1, t, none⟩)]) "Elem").run Tryd.prog w = .ok (54, .agg #[.pointer (some ⟨1, t, none⟩)]) w := by kernel_rfl
theorem x_mimpl (t : Nat) (w : World) : (method 211 67 (.agg #[.pointer (some ⟨1, t, none⟩)]) "Implements").run Tryd.prog w = .ok (55, .agg #[.pointer (some ⟨1, t, none⟩)]) w := by kernel_rfl
theorem x_massign (t : Nat) (w : World) : (method 211 67 (.agg #[.pointer (some ⟨1, t, none⟩)]) "AssignableTo").run Tryd.prog w = .ok (52, .agg #[.pointer (some ⟨1, t, none⟩)]) w := by kernel_rfl
theorem x_mcomp (t : Nat) (w : World) : (method 211 67 (.agg #[.pointer (some ⟨1, t, none⟩)]) "Comparable").run Tryd.prog w = .ok (53, .agg #[.pointer (some ⟨1, t, none⟩)]) w := by kernel_rfl
theorem x_valueOf_f (p : Nat) (w : World) :
    (callFunc 21 #[.iface 47 (.pointer (some ⟨p, 0, none⟩))]).run Tryd.prog w = .ok (.value (Rv 47 w.heap.size 150)) (w.alloc (.cells #[.pointer (some ⟨p, 0, none⟩)] 47)) := by kernel_rfl
theorem x_valueOfE_f (p : Nat) (w : World) :
    (callFunc 21 #[.iface 40 (.pointer (some ⟨p, 0, none⟩))]).run Tryd.prog w = .ok (.value (Rv 40 w.heap.size 150)) (w.alloc (.cells #[.pointer (some ⟨p, 0, none⟩)] 40)) := by kernel_rfl
theorem x_type_f (g : Nat) (w : World) :
    (callFunc 22 #[Rv 47 g 150]).run Tryd.prog w = .ok (.value (Rt 47)) w := by kernel_rfl
theorem x_kind_f (w : World) : (callFunc 41 #[.pointer (some ⟨1, 47, none⟩)]).run Tryd.prog w = .ok (.value (.int .u8 22)) w := by kernel_rfl
theorem x_kind2_f (w : World) : (callFunc 41 #[.pointer (some ⟨1, 40, none⟩)]).run Tryd.prog w = .ok (.value (.int .u8 22)) w := by kernel_rfl
theorem x_elem_f (w : World) : (callFunc 54 #[.agg #[.pointer (some ⟨1, 47, none⟩)]]).run Tryd.prog w = .ok (.value (Rt 40)) w := by kernel_rfl
theorem x_impl_f (w : World) : (callFunc 55 #[.agg #[.pointer (some ⟨1, 40, none⟩)], Rt 34]).run Tryd.prog w = .ok (.value (.bool true)) w := by kernel_rfl
theorem x_typeOf_f (v : Value) (w : World) : (callFunc 19 #[.iface 40 v]).run Tryd.prog w = .ok (.value (Rt 40)) w := by kernel_rfl
theorem x_assign_f (w : World) : (callFunc 52 #[.agg #[.pointer (some ⟨1, 40, none⟩)], Rt 40]).run Tryd.prog w = .ok (.value (.bool true)) w := by kernel_rfl
theorem x_valueOf_w (p : Nat) (w : World) :
    (callFunc 21 #[.iface 48 (.pointer (some ⟨p, 0, none⟩))]).run Tryd.prog w = .ok (.value (Rv 48 w.heap.size 150)) (w.alloc (.cells #[.pointer (some ⟨p, 0, none⟩)] 48)) := by kernel_rfl
theorem x_valueOfE_w (p : Nat) (w : World) :
    (callFunc 21 #[.iface 43 (.pointer (some ⟨p, 0, none⟩))]).run Tryd.prog w = .ok (.value (Rv 43 w.heap.size 150)) (w.alloc (.cells #[.pointer (some ⟨p, 0, none⟩)] 43)) := by kernel_rfl
theorem x_type_w (g : Nat) (w : World) :
    (callFunc 22 #[Rv 48 g 150]).run Tryd.prog w = .ok (.value (Rt 48)) w := by kernel_rfl
theorem x_kind_w (w : World) : (callFunc 41 #[.pointer (some ⟨1, 48, none⟩)]).run Tryd.prog w = .ok (.value (.int .u8 22)) w := by kernel_rfl
theorem x_kind2_w (w : World) : (callFunc 41 #[.pointer (some ⟨1, 43, none⟩)]).run Tryd.prog w = .ok (.value (.int .u8 22)) w := by kernel_rfl
theorem x_elem_w (w : World) : (callFunc 54 #[.agg #[.pointer (some ⟨1, 48, none⟩)]]).run Tryd.prog w = .ok (.value (Rt 43)) w := by kernel_rfl
theorem x_impl_w (w : World) : (callFunc 55 #[.agg #[.pointer (some ⟨1, 43, none⟩)], Rt 34]).run Tryd.prog w = .ok (.value (.bool true)) w := by kernel_rfl
theorem x_typeOf_w (v : Value) (w : World) : (callFunc 19 #[.iface 43 v]).run Tryd.prog w = .ok (.value (Rt 43)) w := by kernel_rfl
theorem x_assign_w (w : World) : (callFunc 52 #[.agg #[.pointer (some ⟨1, 43, none⟩)], Rt 43]).run Tryd.prog w = .ok (.value (.bool true)) w := by kernel_rfl
theorem x_assign_fw (w : World) : (callFunc 52 #[.agg #[.pointer (some ⟨1, 40, none⟩)], Rt 43]).run Tryd.prog w = .ok (.value (.bool false)) w := by kernel_rfl
theorem x_assign_wf (w : World) : (callFunc 52 #[.agg #[.pointer (some ⟨1, 43, none⟩)], Rt 40]).run Tryd.prog w = .ok (.value (.bool false)) w := by kernel_rfl
end Go.Proofs.YtdhhoicngldfmaaDoor
