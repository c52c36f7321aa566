/- Walk: the keeper's Index. -/
import Derived.Test.YtfblkahjefdmaaaDoorFdP
namespace Go.Proofs.YtfblkahjefdmaaaDoor
open Go.RowKit

def kidx (k : Int) (n : Nat) : Nat := (k % 4294967296).toNat % n
theorem and_low32 (n : Int) : bits .and .i64 n 4294967295 = n % 4294967296 := by
  have h127 : (BitVec.ofInt 64 4294967295).toNat = 2 ^ 32 - 1 := by decide
  have key : (BitVec.ofInt 64 n &&& BitVec.ofInt 64 4294967295).toNat = (n % ((2 ^ 64 : Nat) : Int)).toNat % 2 ^ 32 := by
    rw [BitVec.toNat_and, BitVec.toNat_ofInt, h127, Nat.and_two_pow_sub_one_eq_mod]
  show IntKind.i64.wrap ((BitVec.ofInt 64 n &&& BitVec.ofInt 64 4294967295).toNat : Nat) = n % 4294967296
  rw [key, IntKind.wrap_i64]
  omega
theorem tmod_low32 {x n : Int} (hn : 1 ≤ n) : (x % 4294967296).tmod n = ((kidx x n.toNat : Nat) : Int) := by
  have h0 : 0 ≤ x % 4294967296 := by omega
  unfold kidx
  rw [Int.tmod_eq_emod_of_nonneg h0, Int.natCast_emod, Int.toNat_of_nonneg h0, Int.toNat_of_nonneg (by omega)]
theorem kidx_lt (k : Int) {n : Nat} (h : 1 ≤ n) : kidx k n < n := Nat.mod_lt _ h
theorem kidx_any (k n : Int) (w : World) (hn : 1 ≤ n ∧ n ≤ 35184372088832) :
    Calls Tryd.prog 9 #[.int .i64 k, .int .i64 n] w (Ret (.int .i64 (kidx k n.toNat : Nat)) w) := by
  obtain ⟨hn1, hn2⟩ := hn
  go_enter Tryd.func9, Tryd.ntmps9
  go_wp2_with fail
  go_ret
  refine ⟨?_, Ext.refl _⟩
  show Ending.returned (.int .i64 ((bits .and .i64 k 4294967295).tmod n)) = _
  rw [and_low32, tmod_low32 hn1]
end Go.Proofs.YtfblkahjefdmaaaDoor
