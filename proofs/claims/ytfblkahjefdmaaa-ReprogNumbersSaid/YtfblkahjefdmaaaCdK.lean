/- Plain law: the patterns of ReprogNumbers have small trees, or too long ones. No program in sight. -/
import Derived.Test.YtfblkahjefdmaaaCdO
namespace Go.Proofs.Ytfblkahjefdmaaa.PG

/-- A pattern in so many groups, each with a repeat. -/
def rpt (r : List Int) : Nat → List Int → List Int
  | 0, p => p
  | n + 1, p => rpt r n ([40, 63, 58] ++ p ++ [41] ++ r)
def nP : List (List Int) := [[], [97], [94, 36], [97, 124, 98], [97, 124, 98, 124, 99], [40, 97, 124, 41], [40, 97, 41, 40, 98, 41], [40, 63, 58, 97, 41], [91, 94, 97, 45, 99, 93]]
def nR : List (List Int) := [[], [42], [43], [63], [42, 63], [43, 63], [63, 63], [123, 51, 125], [123, 48, 125], [123, 48, 44, 125], [123, 50, 44, 125], [123, 50, 44, 125, 63], [123, 48, 44, 51, 125], [123, 49, 44, 51, 125, 63], [123, 57, 125]]
theorem numbers_all : (nP.all fun p => nR.all fun r => [0, 1, 2, 3].all fun n => okp (rpt r n p)) = true := by kernel_rfl
theorem numbers_ok {p r : List Int} {n : Nat} (hp : p ∈ nP) (hr : r ∈ nR) (hn : n < 4) : okp (rpt r n p) = true := by
  have h := List.all_eq_true.1 (List.all_eq_true.1 (List.all_eq_true.1 numbers_all p hp) r hr) n
  exact h (by
    match n, hn with
    | 0, _ => simp
    | 1, _ => simp
    | 2, _ => simp
    | 3, _ => simp)
theorem more_a : okp (rpt [123, 57, 125] 8 []) = true := by kernel_rfl
theorem more_b : okp (rpt [123, 48, 44, 57, 125] 7 []) = true := by kernel_rfl
theorem more_c : okp (rpt [123, 57, 125] 2 [97]) = true := by kernel_rfl
theorem more_d : okp (rpt [123, 57, 125] 3 [97]) = true := by kernel_rfl
theorem more_e : okp (rpt [123, 57, 44, 125] 6 []) = true := by kernel_rfl
end Go.Proofs.Ytfblkahjefdmaaa.PG
