/- Readings for the second form: what the bound gives; a slice of signs in a cell. -/
import Derived.Test.YtfblkahjefdmaaaLaw
import Derived.Deep.Slices
import Derived.JoinedCond
namespace Go.Proofs.Ytfblkahjefdmaaa
open Go.ChangeShapes Go.WideShapes Go.ChangeAt Go.RowKit

theorem bulk_one {H : Type} (d : DataW H) : 1 ≤ Rows.uptoBulk d := by
  cases d with
  | lit l => cases l <;> simp [Rows.uptoBulk]
  | _ => simp [Rows.uptoBulk]
theorem bulk_all {H : Type} : ∀ l : List (DataW H), l.length ≤ Rows.uptoBulkAll l
  | [] => Nat.zero_le _
  | d :: r => by
    have := bulk_all r
    have := bulk_one d
    simp [Rows.uptoBulkAll]; omega
theorem bulk_mem {H : Type} : ∀ {l : List (DataW H)} {d : DataW H}, d ∈ l → Rows.uptoBulk d ≤ Rows.uptoBulkAll l
  | [], _, h => by simp at h
  | e :: r, d, h => by
    simp only [Rows.uptoBulkAll]
    rcases List.mem_cons.1 h with rfl | h
    · omega
    · have := bulk_mem h; omega
theorem spot_none {W : World} {a : Addr} {v : Value} (h0 : W.cell? (a.add 0) = some v) : a.spot = none := by
  unfold Addr.add at h0
  simp only [if_true] at h0
  unfold World.cell? at h0
  split at h0
  · split at h0
    · cases h0
    · rename_i hs; simpa using hs
  · cases h0
theorem add_spot {a : Addr} (h : a.spot = none) (i : Nat) : a.add i = ⟨a.block, a.off + i, none⟩ := by
  unfold Addr.add; split
  · rename_i h2; subst h2; rw [Nat.add_zero, ← h]
  · rfl
section
variable {H : Type} {enc : TypeId × Value → H}
/-- A slice of signs in a cell. -/
theorem open_slx {W : World} {u : Value} {n : Nat} {y : DataW H × List MemPlace} (h : DataW.trod enc Try.prog W 0 (fun _ => true) true n 23 [u] = some y) : ∃ xs : List Int, SlC W u xs ∧ xs.length ≤ Rows.uptoBulk y.1 := by
  have hc : Try.prog.cellsOf 21 = 1 := by kernel_rfl
  rcases open_ints Try.underlying23 Try.underlying21 hc h with ⟨hcs, _⟩ | ⟨a, len, cap, zs, hcs, _, hl, hm, hz, hx, hcell, hwz⟩
  · injection hcs with hcs
    subst hcs
    exact ⟨[], SlR.nil_, Nat.zero_le _⟩
  · injection hcs with hcs
    subst hcs
    simp only [if_true] at hz
    have hlz : (zs.take len).length = len := by rw [List.length_take]; omega
    refine ⟨zs.take len, ⟨some a, cap, by rw [hlz], by rw [hlz]; exact hl, by unfold maxLen at hm; omega, fun i x hx => ?_, by intro h; cases h⟩, ?_⟩
    · have hi : i < len := by
        rcases Nat.lt_or_ge i len with h | h
        · exact h
        · rw [List.getElem?_eq_none (by omega)] at hx; cases hx
      have hsp := spot_none (hcell 0 (by omega))
      refine ⟨a.block, a.off, by rw [← hsp], ?_⟩
      have hi' := hcell i (by omega)
      have hx' : zs.getD i 0 = x := by
        rw [List.getElem?_take, if_pos hi] at hx
        simp [List.getD, hx]
      rw [hx', add_spot hsp] at hi'
      rw [Nat.mul_one]
      exact hi'
    · rw [hx]
      simp only [Rows.uptoBulk]
      refine Nat.le_trans (Nat.le_trans ?_ (bulk_all _)) (Nat.le_trans (Nat.le_add_right _ _) (Nat.le_add_right _ _))
      simp only [lits, List.length_map]
      exact Nat.le_refl _
end
end Go.Proofs.Ytfblkahjefdmaaa
