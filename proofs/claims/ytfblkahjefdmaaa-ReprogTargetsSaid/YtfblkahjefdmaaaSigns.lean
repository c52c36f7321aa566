/- Walks: package signs' tests on one element; small helpers of package resyn. -/
import Derived.Test.YtfblkahjefdmaaaBase
import Derived.Test.YtfblkahjefdmaaaReP
namespace Go.Proofs.Ytfblkahjefdmaaa
open Go.RowKit

/-- The call returned v, and only drew. -/
def RetD (v : Value) (w : World) (e : Ending) (w' : World) : Prop := e = .returned v ∧ ∃ n, w' = w.drewN n
theorem RetD.mk {v : Value} {w : World} : RetD v w (.returned v) w := ⟨rfl, 0, rfl⟩

set_option maxHeartbeats 400000 in
theorem within_any (r a b : Int) (w : World) : Calls Try.prog 91 #[.int .i32 r, .int .i32 a, .int .i32 b] w (RetD (.bool (RX.within r a b)) w) := by
  by_cases h1 : a ≤ r
  · by_cases h2 : r ≤ b
    · have HE := Lib.hid (show RX.within r a b = true by simp [RX.within, h1, h2])
      go_enter Try.func91, Try.ntmps91
      go_wp2_with fail
      go_ret
      exact ⟨ret_congr (by rw [HE.out]; rfl), 0, rfl⟩
    · have HE := Lib.hid (show RX.within r a b = false by simp [RX.within, h2])
      go_enter Try.func91, Try.ntmps91
      go_wp2_with fail
      go_ret
      exact ⟨ret_congr (by rw [HE.out]; rfl), 0, rfl⟩
  · have HE := Lib.hid (show RX.within r a b = false by simp [RX.within, h1])
    go_enter Try.func91, Try.ntmps91
    go_wp2_with fail
    go_ret
    exact ⟨ret_congr (by rw [HE.out]; rfl), 0, rfl⟩

set_option maxHeartbeats 400000 in
theorem is_any (r : Int) (w : World) : Calls Try.prog 90 #[.int .i32 r] w (RetD (.bool (RX.isSign r)) w) := by
  by_cases h1 : 0 ≤ r <;> by_cases h2 : r ≤ 1114111 <;> by_cases h3 : r < 55296 <;> by_cases h4 : 57343 < r
  all_goals first | (exfalso; omega) | skip
  all_goals
    go_enter Try.func90, Try.ntmps90
    go_wp2_with fail
    go_ret
    exact ⟨ret_congr (by simp [RX.isSign]; omega), 0, rfl⟩

set_option maxHeartbeats 1000000 in
theorem class_any (r : Int) (w : World) : Calls Try.prog 61 #[.int .i32 r] w (RetD (.int .i64 (RX.classOf r)) w) := by
  go_enter Try.func61, Try.ntmps61
  go_wp2_with (first | (go_at_call 90; refine (is_any _ _).mono ?_; rintro e w' ⟨rfl, n, rfl⟩) | (go_at_call 91; refine (within_any _ _ _ _).mono ?_; rintro e w' ⟨rfl, n, rfl⟩))
  all_goals
    go_ret
    refine ⟨ret_congr ?_, _, rfl⟩
    simp_all [RX.classOf]

theorem within_iff {r a b : Int} : RX.within r a b = true ↔ a ≤ r ∧ r ≤ b := by simp [RX.within]

set_option maxHeartbeats 1000000 in
theorem lower_any (r : Int) (w : World) : Calls Try.prog 132 #[.int .i32 r] w (RetD (.int .i32 (RX.lower r)) w) := by
  by_cases h1 : RX.within r 65 90 = true
  · have hb := within_iff.1 h1
    obtain ⟨b1, b2⟩ := hb
    go_enter Try.func132, Try.ntmps132
    go_wp2_with (go_at_call 91; refine (within_any _ _ _ _).mono ?_; rintro e w' ⟨rfl, n, rfl⟩)
    all_goals
      go_ret
      refine ⟨ret_congr ?_, _, rfl⟩
      simp_all [RX.lower]
  · by_cases h2 : RX.within r 192 222 = true
    · have hb := within_iff.1 h2
      obtain ⟨b1, b2⟩ := hb
      go_enter Try.func132, Try.ntmps132
      go_wp2_with (go_at_call 91; refine (within_any _ _ _ _).mono ?_; rintro e w' ⟨rfl, n, rfl⟩)
      all_goals
        go_ret
        refine ⟨ret_congr ?_, _, rfl⟩
        simp_all [RX.lower]
    · go_enter Try.func132, Try.ntmps132
      go_wp2_with (go_at_call 91; refine (within_any _ _ _ _).mono ?_; rintro e w' ⟨rfl, n, rfl⟩)
      all_goals
        go_ret
        refine ⟨ret_congr ?_, _, rfl⟩
        simp_all [RX.lower]

set_option maxHeartbeats 1000000 in
theorem digit_any (c : Int) (w : World) : Calls Try.prog 158 #[.int .i32 c] w (RetD (.int .i64 (RX.digit c)) w) := by
  by_cases h1 : c < 48 <;> by_cases h2 : 57 < c
  · exfalso; omega
  all_goals
    go_enter Try.func158, Try.ntmps158
    go_wp2_with fail
    go_ret
    refine ⟨ret_congr ?_, 0, rfl⟩
    simp [RX.digit]
    omega

set_option maxHeartbeats 1000000 in
theorem sign_any (c : Int) (w : World) : Calls Try.prog 154 #[.int .i32 c] w (RetD (.tuple #[.int .i32 ((RX.signR c).getD 0), .bool (RX.signR c).isSome]) w) := by
  go_enter Try.func154, Try.ntmps154
  go_wp2_with (go_at_call 61; refine (class_any _ _).mono ?_; rintro e w' ⟨rfl, n, rfl⟩)
  all_goals
    go_ret2
    first | refine ⟨ret_congr ?_, _, rfl⟩ | refine ⟨ret_congr ?_, 0, rfl⟩
    simp_all [RX.signR]

end Go.Proofs.Ytfblkahjefdmaaa
