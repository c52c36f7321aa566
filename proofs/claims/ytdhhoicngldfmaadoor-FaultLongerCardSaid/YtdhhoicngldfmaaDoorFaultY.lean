/- The externs of reflectlite that read or write memory, at this package's types. -/
import Derived.Test.YtdhhoicngldfmaaDoorFaultX
import Derived.Test.YtdhhoicngldfmaaDoorBase
import Derived.Laws.Externs
namespace Go.Proofs.YtdhhoicngldfmaaDoor
open Go.RowKit Go.Extern

theorem method_one (z : Sem Value) (f : TypeId → Addr → Nat → Nat → Sem Value) (v : Value) (P : Program) (w : World) (t : TypeId) (a : Addr) (fl : Nat) (h : (ReflectliteValue.parts v).run P w = .ok (some (t, a, fl)) w) :
    (ReflectliteValue.method z f #[v]).run P w = (f t a fl (fl % 32)).run P w := by
  show (ReflectliteValue.parts v >>= _).run P w = _
  rw [Sem.run_bind, h]
  rfl

theorem r_parts_f (g : Nat) (w : World) : (ReflectliteValue.parts (Rv 47 g 150)).run Tryd.prog w = .ok (some (47, ⟨g, 0, none⟩, 150)) w := by kernel_rfl
theorem r_partsE_f (g : Nat) (w : World) : (ReflectliteValue.parts (Rv 40 g 150)).run Tryd.prog w = .ok (some (40, ⟨g, 0, none⟩, 150)) w := by kernel_rfl
theorem r_partsT_f (g : Nat) (w : World) : (ReflectliteValue.parts (Rv 40 g 406)).run Tryd.prog w = .ok (some (40, ⟨g, 0, none⟩, 406)) w := by kernel_rfl
theorem r_elem_f (w : World) : (Rtype.elem? 47).run Tryd.prog w = .ok (some 40) w := by kernel_rfl
theorem r_mk_f (a : Addr) (w : World) : (ReflectliteValue.mk 40 a ReflectliteValue.flagAddr).run Tryd.prog w = .ok (.agg #[.pointer (some ⟨1, 40, none⟩), .pointer (some a), .int .u64 406]) w := by kernel_rfl
theorem r_dir_f (w : World) : (Rtype.directlyAssignable 40 40).run Tryd.prog w = .ok true w := by kernel_rfl
theorem x_isNil_f (g p : Nat) (w : World) (h : w.cell? ⟨g, 0, none⟩ = some (.pointer (some ⟨p, 0, none⟩))) : (callFunc 23 #[Rv 47 g 150]).run Tryd.prog w = .ok (.value (.bool false)) w := by
  have hl : (loadVar 47 ⟨g, 0, none⟩).run Tryd.prog w = .ok (.pointer (some ⟨p, 0, none⟩)) w := by go_simp
  rw [run_callFunc_extern Tryd.func23 (by kernel_rfl) (by kernel_rfl) (by kernel_rfl) (e := ReflectliteValue.method (ReflectliteValue.valueError "reflectlite.Value.IsNil" 0) ReflectliteValue.isNil) (by kernel_rfl)]
  rw [method_one _ _ _ _ _ _ _ _ (r_parts_f g w)]
  simp [ReflectliteValue.isNil, hl]
theorem x_velem_f (g p : Nat) (w : World) (h : w.cell? ⟨g, 0, none⟩ = some (.pointer (some ⟨p, 0, none⟩))) : (callFunc 25 #[Rv 47 g 150]).run Tryd.prog w = .ok (.value (Rv 40 p 406)) w := by
  have hl : (loadVar 47 ⟨g, 0, none⟩).run Tryd.prog w = .ok (.pointer (some ⟨p, 0, none⟩)) w := by go_simp
  rw [run_callFunc_extern Tryd.func25 (by kernel_rfl) (by kernel_rfl) (by kernel_rfl) (e := ReflectliteValue.method (ReflectliteValue.valueError "reflectlite.Value.Elem" 0) ReflectliteValue.elem) (by kernel_rfl)]
  rw [method_one _ _ _ _ _ _ _ _ (r_parts_f g w)]
  simp [ReflectliteValue.elem, hl, r_elem_f, r_mk_f]
theorem x_set_f (g p b : Nat) (v : Value) (w : World) (h : w.cell? ⟨g, 0, none⟩ = some (.pointer (some ⟨b, 0, none⟩))) (h2 : w.cell? ⟨p, 0, none⟩ = some v) (h3 : w.frozen? ⟨p, 0, none⟩ = false) :
    (callFunc 26 #[Rv 40 p 406, Rv 40 g 150]).run Tryd.prog w = .ok (.value (.tuple #[])) (w.setCell ⟨p, 0, none⟩ (.pointer (some ⟨b, 0, none⟩))) := by
  have hl : (loadVar 40 ⟨g, 0, none⟩).run Tryd.prog w = .ok (.pointer (some ⟨b, 0, none⟩)) w := by go_simp
  have hs : (storeVar 40 ⟨p, 0, none⟩ (.pointer (some ⟨b, 0, none⟩))).run Tryd.prog w = .ok () (w.setCell ⟨p, 0, none⟩ (.pointer (some ⟨b, 0, none⟩))) := by go_simp
  rw [run_callFunc_extern Tryd.func26 (by kernel_rfl) (by kernel_rfl) (by kernel_rfl) (e := ReflectliteValue.set) (by kernel_rfl)]
  show ((ReflectliteValue.parts (Rv 40 p 406) >>= _).run _ w).andThen _ = _
  rw [Sem.run_bind, r_partsT_f]
  show (((ReflectliteValue.parts (Rv 40 g 150) >>= _).run _ w)).andThen _ = _
  rw [Sem.run_bind, r_partsE_f]
  simp [hl, hs, r_dir_f, ReflectliteValue.flagAddr]
theorem r_parts_w (g : Nat) (w : World) : (ReflectliteValue.parts (Rv 48 g 150)).run Tryd.prog w = .ok (some (48, ⟨g, 0, none⟩, 150)) w := by kernel_rfl
theorem r_partsE_w (g : Nat) (w : World) : (ReflectliteValue.parts (Rv 43 g 150)).run Tryd.prog w = .ok (some (43, ⟨g, 0, none⟩, 150)) w := by kernel_rfl
theorem r_partsT_w (g : Nat) (w : World) : (ReflectliteValue.parts (Rv 43 g 406)).run Tryd.prog w = .ok (some (43, ⟨g, 0, none⟩, 406)) w := by kernel_rfl
theorem r_elem_w (w : World) : (Rtype.elem? 48).run Tryd.prog w = .ok (some 43) w := by kernel_rfl
theorem r_mk_w (a : Addr) (w : World) : (ReflectliteValue.mk 43 a ReflectliteValue.flagAddr).run Tryd.prog w = .ok (.agg #[.pointer (some ⟨1, 43, none⟩), .pointer (some a), .int .u64 406]) w := by kernel_rfl
theorem r_dir_w (w : World) : (Rtype.directlyAssignable 43 43).run Tryd.prog w = .ok true w := by kernel_rfl
theorem x_isNil_w (g p : Nat) (w : World) (h : w.cell? ⟨g, 0, none⟩ = some (.pointer (some ⟨p, 0, none⟩))) : (callFunc 23 #[Rv 48 g 150]).run Tryd.prog w = .ok (.value (.bool false)) w := by
  have hl : (loadVar 48 ⟨g, 0, none⟩).run Tryd.prog w = .ok (.pointer (some ⟨p, 0, none⟩)) w := by go_simp
  rw [run_callFunc_extern Tryd.func23 (by kernel_rfl) (by kernel_rfl) (by kernel_rfl) (e := ReflectliteValue.method (ReflectliteValue.valueError "reflectlite.Value.IsNil" 0) ReflectliteValue.isNil) (by kernel_rfl)]
  rw [method_one _ _ _ _ _ _ _ _ (r_parts_w g w)]
  simp [ReflectliteValue.isNil, hl]
theorem x_velem_w (g p : Nat) (w : World) (h : w.cell? ⟨g, 0, none⟩ = some (.pointer (some ⟨p, 0, none⟩))) : (callFunc 25 #[Rv 48 g 150]).run Tryd.prog w = .ok (.value (Rv 43 p 406)) w := by
  have hl : (loadVar 48 ⟨g, 0, none⟩).run Tryd.prog w = .ok (.pointer (some ⟨p, 0, none⟩)) w := by go_simp
  rw [run_callFunc_extern Tryd.func25 (by kernel_rfl) (by kernel_rfl) (by kernel_rfl) (e := ReflectliteValue.method (ReflectliteValue.valueError "reflectlite.Value.Elem" 0) ReflectliteValue.elem) (by kernel_rfl)]
  rw [method_one _ _ _ _ _ _ _ _ (r_parts_w g w)]
  simp [ReflectliteValue.elem, hl, r_elem_w, r_mk_w]
theorem x_set_w (g p b : Nat) (v : Value) (w : World) (h : w.cell? ⟨g, 0, none⟩ = some (.pointer (some ⟨b, 0, none⟩))) (h2 : w.cell? ⟨p, 0, none⟩ = some v) (h3 : w.frozen? ⟨p, 0, none⟩ = false) :
    (callFunc 26 #[Rv 43 p 406, Rv 43 g 150]).run Tryd.prog w = .ok (.value (.tuple #[])) (w.setCell ⟨p, 0, none⟩ (.pointer (some ⟨b, 0, none⟩))) := by
  have hl : (loadVar 43 ⟨g, 0, none⟩).run Tryd.prog w = .ok (.pointer (some ⟨b, 0, none⟩)) w := by go_simp
  have hs : (storeVar 43 ⟨p, 0, none⟩ (.pointer (some ⟨b, 0, none⟩))).run Tryd.prog w = .ok () (w.setCell ⟨p, 0, none⟩ (.pointer (some ⟨b, 0, none⟩))) := by go_simp
  rw [run_callFunc_extern Tryd.func26 (by kernel_rfl) (by kernel_rfl) (by kernel_rfl) (e := ReflectliteValue.set) (by kernel_rfl)]
  show ((ReflectliteValue.parts (Rv 43 p 406) >>= _).run _ w).andThen _ = _
  rw [Sem.run_bind, r_partsT_w]
  show (((ReflectliteValue.parts (Rv 43 g 150) >>= _).run _ w)).andThen _ = _
  rw [Sem.run_bind, r_partsE_w]
  simp [hl, hs, r_dir_w, ReflectliteValue.flagAddr]
end Go.Proofs.YtdhhoicngldfmaaDoor
