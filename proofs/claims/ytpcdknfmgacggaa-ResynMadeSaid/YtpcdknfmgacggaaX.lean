/- For ResynMadeS: what the texts XMxS of wip/tpl say. -/
import Derived.Test.YtpcdknfmgacggaaW
import Derived.Deep.RegionHeld3
namespace Go.Proofs.Ytpcdknfmgacggaa
open Go.RowKit
section
variable {w0 : World} {tb : Nat} {sv : Value} {ts : List Int} {w wr w' : World} {i j : Nat}
/-- Behind a call on the tape: something that fits, its place. -/
def PostX (R : World → Value → Prop) (tb : Nat) (sv : Value) (n : Nat) (w : World) (e : Ending) (w' : World) : Prop := ∃ v j, e = .returned v ∧ R w' v ∧ TS tb sv w' j ∧ Only w w' tb ∧ j ≤ n
/-- A number below another one. -/
theorem kindex_any (k n : Int) (h0 : 1 ≤ n) (h1 : n ≤ 1000000) (w : World) : Calls Try.prog 5 #[.int .i64 k, .int .i64 n] w (fun en w' => (∃ x : Nat, (x : Int) < n ∧ en = .returned (.int .i64 x)) ∧ w' = w) := by
  have ha : bits .and .i64 k 4294967295 = k % 4294967296 := by
    have h127 : (BitVec.ofInt 64 4294967295).toNat = 2 ^ 32 - 1 := by decide
    have key : (BitVec.ofInt 64 k &&& BitVec.ofInt 64 4294967295).toNat = (k % ((2 ^ 64 : Nat) : Int)).toNat % 2 ^ 32 := by
      rw [BitVec.toNat_and, BitVec.toNat_ofInt, h127, Nat.and_two_pow_sub_one_eq_mod]
    show IntKind.i64.wrap ((BitVec.ofInt 64 k &&& BitVec.ofInt 64 4294967295).toNat : Nat) = k % 4294967296
    rw [key, IntKind.wrap_i64]
    omega
  go_enter Try.func5, Try.ntmps5
  go_wp2_with fail
  go_ret
  have h2 : 0 ≤ k % 4294967296 % n := Int.emod_nonneg _ (by omega)
  have h3 : k % 4294967296 % n < n := Int.emod_lt_of_pos _ (by omega)
  exact ⟨⟨(k % 4294967296 % n).toNat, by omega, congrArg (fun x => Ending.returned (Value.int .i64 x)) (Int.toNat_of_nonneg h2).symm⟩, rfl⟩
end
end Go.Proofs.Ytpcdknfmgacggaa
