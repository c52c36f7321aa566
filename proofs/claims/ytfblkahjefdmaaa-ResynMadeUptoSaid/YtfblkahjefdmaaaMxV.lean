/- Walks: the document's own Upper, Lower. -/
import Derived.Test.YtfblkahjefdmaaaWa
import Derived.Test.YtfblkahjefdmaaaPureB
namespace Go.Proofs.Ytfblkahjefdmaaa
open Go.RowKit

set_option maxHeartbeats 1000000 in
theorem rupper_any (r : Int) (w : World) : Calls Try.prog 40 #[.int .i32 r] w (RetD (.int .i32 (RX.upper r)) w) := by
  go_enter Try.func40, Try.ntmps40
  by_cases h1 : 97 ≤ r <;> by_cases h2 : r ≤ 122 <;> by_cases h3 : 224 ≤ r <;> by_cases h4 : r ≤ 254 <;> by_cases h5 : r = 247
  all_goals first
    | (exfalso; omega)
    | skip
  all_goals
    go_wp2_with fail
    go_ret
    refine ⟨ret_congr ?_, 0, rfl⟩
    simp [RX.upper, RX.within, *] <;> omega
set_option maxHeartbeats 1000000 in
theorem rlower_any (r : Int) (w : World) : Calls Try.prog 41 #[.int .i32 r] w (RetD (.int .i32 (RX.lower r)) w) := by
  go_enter Try.func41, Try.ntmps41
  by_cases h1 : 65 ≤ r <;> by_cases h2 : r ≤ 90 <;> by_cases h3 : 192 ≤ r <;> by_cases h4 : r ≤ 222 <;> by_cases h5 : r = 215
  all_goals first
    | (exfalso; omega)
    | skip
  all_goals
    go_wp2_with fail
    go_ret
    refine ⟨ret_congr ?_, 0, rfl⟩
    simp [RX.lower, RX.within, *] <;> omega
end Go.Proofs.Ytfblkahjefdmaaa
