/- Walks: errors.Unwrap, errors.As, errors.Is over this package's errors. -/
import Derived.Test.YtdhhoicngldfmaaDoorFaultA
import Derived.LaidEql
import Derived.LaidEqlPtr
import Derived.Stop.Asserts
import Derived.Stop.IfaceNil
import Derived.Deep.RegionWith
namespace Go.Proofs.YtdhhoicngldfmaaDoor
open Go.RowKit

theorem ta_unwrap_wrap (v : Value) (xT : TypeId) (w : World) : (Instr.typeAssert (.iface 43 v) xT 53 true).run Tryd.prog w = .ok (.tuple #[.iface 43 v, .bool true]) w := run_typeAssert_hasB Tryd.underlying53 (by kernel_rfl) v xT w
theorem ta_unwrap_fail (v : Value) (xT : TypeId) (w : World) : (Instr.typeAssert (.iface 40 v) xT 53 true).run Tryd.prog w = .ok (.tuple #[.nilIface, .bool false]) w := run_typeAssert_lacksB Tryd.underlying53 (by kernel_rfl) (by kernel_rfl) v xT w
theorem ta_many_fail (v : Value) (xT : TypeId) (w : World) : (Instr.typeAssert (.iface 40 v) xT 72 true).run Tryd.prog w = .ok (.tuple #[.nilIface, .bool false]) w := run_typeAssert_lacksB Tryd.underlying72 (by kernel_rfl) (by kernel_rfl) v xT w
theorem ta_is_wrap (v : Value) (xT : TypeId) (w : World) : (Instr.typeAssert (.iface 43 v) xT 69 true).run Tryd.prog w = .ok (.tuple #[.nilIface, .bool false]) w := run_typeAssert_lacksB Tryd.underlying69 (by kernel_rfl) (by kernel_rfl) v xT w
theorem ta_is_fail (v : Value) (xT : TypeId) (w : World) : (Instr.typeAssert (.iface 40 v) xT 69 true).run Tryd.prog w = .ok (.tuple #[.iface 40 v, .bool true]) w := run_typeAssert_hasB Tryd.underlying69 (by kernel_rfl) v xT w
theorem ta_as_wrap (v : Value) (xT : TypeId) (w : World) : (Instr.typeAssert (.iface 43 v) xT 77 true).run Tryd.prog w = .ok (.tuple #[.nilIface, .bool false]) w := run_typeAssert_lacksB Tryd.underlying77 (by kernel_rfl) (by kernel_rfl) v xT w
theorem ta_as_fail (v : Value) (xT : TypeId) (w : World) : (Instr.typeAssert (.iface 40 v) xT 77 true).run Tryd.prog w = .ok (.tuple #[.nilIface, .bool false]) w := run_typeAssert_lacksB Tryd.underlying77 (by kernel_rfl) (by kernel_rfl) v xT w
theorem ta_fail_fail (v : Value) (xT : TypeId) (w : World) : (Instr.typeAssert (.iface 40 v) xT 40 true).run Tryd.prog w = .ok (.tuple #[v, .bool true]) w := by kernel_rfl
theorem me_unwrap (b : Nat) (w : World) : (method 211 43 (.pointer (some ⟨b, 0, none⟩)) "Unwrap").run Tryd.prog w = .ok (47, .pointer (some ⟨b, 0, none⟩)) w := by kernel_rfl
theorem me_is (b : Nat) (w : World) : (method 211 40 (.pointer (some ⟨b, 0, none⟩)) "Is").run Tryd.prog w = .ok (45, .pointer (some ⟨b, 0, none⟩)) w := by kernel_rfl
theorem cf_unwrap (args : Array Value) (w : World) : (callFunc 47 args).run Tryd.prog w = .ok (.enter 47 args) w := by kernel_rfl
theorem cf_is (args : Array Value) (w : World) : (callFunc 45 args).run Tryd.prog w = .ok (.enter 45 args) w := by kernel_rfl

set_option maxHeartbeats 400000 in
theorem unwrap_wrap (b : Nat) (m : Int) (e' : Value) (w : World) (h : w.heap[b]? = some (.cells #[.int .i64 m, e'] 45 (0, 0))) (t : TypeId) (x : Value) (he : e' = .iface t x) :
    Calls Tryd.prog 17 #[.iface 43 (.pointer (some ⟨b, 0, none⟩))] w (Ret e' w) := by
  have H := Lib.hid (wrap_unwrap b m e' w h t x he)
  clear h
  subst he
  have ta := ta_unwrap_wrap (.pointer (some ⟨b, 0, none⟩))
  have me := me_unwrap b
  have cf := cf_unwrap
  go_enter Tryd.func17, Tryd.ntmps17
  go_wp2_with fail
  refine H.out.mono ?_
  rintro e w1 ⟨rfl, hE⟩
  go_wp2_with fail
  go_ret
  exact ⟨rfl, hE⟩

set_option maxHeartbeats 400000 in
theorem unwrap_fail (b : Nat) (w : World) :
    Calls Tryd.prog 17 #[.iface 40 (.pointer (some ⟨b, 0, none⟩))] w (Ret .nilIface w) := by
  have ta := ta_unwrap_fail (.pointer (some ⟨b, 0, none⟩))
  go_enter Tryd.func17, Tryd.ntmps17
  go_wp2_with fail
  go_ret
  exact ⟨rfl, Ext.refl _⟩

set_option maxHeartbeats 400000 in
theorem fail_is (a b : Nat) (c d : Int) (w : World) (ha : w.heap[a]? = some (.cells #[.int .i64 c] 42 (0, 0))) (hb : w.heap[b]? = some (.cells #[.int .i64 d] 42 (0, 0))) :
    Calls Tryd.prog 45 #[.pointer (some ⟨a, 0, none⟩), .iface 40 (.pointer (some ⟨b, 0, none⟩))] w (Ret (.bool (d == c)) w) := by
  have ca : w.cell? ⟨a, 0, none⟩ = some (.int .i64 c) := cell_of_row w a 0 _ _ _ ha
  have cb : w.cell? ⟨b, 0, none⟩ = some (.int .i64 d) := cell_of_row w b 0 _ _ _ hb
  clear ha hb
  have ta := ta_fail_fail (.pointer (some ⟨b, 0, none⟩))
  go_enter Tryd.func45, Tryd.ntmps45
  go_wp2_with fail
  go_quiet (fail)
  go_wp2_with fail
  go_ret
  exact ⟨rfl, (Ext.refl _).drewN _⟩
end Go.Proofs.YtdhhoicngldfmaaDoor
