/- Readings: an argument that is a slice of truths reads as a list. -/
import Derived.Test.YtfblkahjefdmaaaLaw
import Derived.Deep.Grids
namespace Go.Proofs.Ytfblkahjefdmaaa
open Go.ChangeShapes Go.WideShapes Go.ChangeAt Go.RowKit

section
variable {H : Type} {enc : TypeId × Value → H} {P : Program}
theorem open_bl {t e : TypeId} (ht : P.underlying t = some (.slice e)) (he : P.underlying e = some .bool) (hc : P.cellsOf e = 1) {W : World} {base : Nat} {v : Value} {d : DataW H} {p : List MemPlace}
    (hok : Value.okWide P W .any base t v) (h : DataW.Trod enc P W 0 (fun _ => true) true t v d p) :
    ∃ xs : List Bool, SlR 1 (fun w b o x => w.cell? ⟨b, o, none⟩ = some (.bool x)) W v xs := by
  obtain ⟨a0, len, cap, rfl⟩ := okWide_slice ht hok
  obtain ⟨fuel, hf⟩ := h
  rcases Deep.open_bools ht he hc hf with ⟨hcs, _⟩ | ⟨a, len', cap', B, hcs, _, hl, hm, _, hcell⟩
  · simp [Value.cells] at hcs
    obtain ⟨rfl, rfl, rfl⟩ := hcs
    exact ⟨[], SlR.nil_⟩
  · simp [Value.cells] at hcs
    obtain ⟨rfl, rfl, rfl⟩ := hcs
    have hlz : ((List.range len).map B).length = len := by simp
    refine ⟨(List.range len).map B, ⟨some a, cap, by rw [hlz], by rw [hlz]; exact hl, by unfold maxLen at hm; omega, fun i x hx => ?_, by intro h; cases h⟩⟩
    have hi : i < len := by
      rcases Nat.lt_or_ge i len with h | h
      · exact h
      · rw [List.getElem?_eq_none (by omega)] at hx; cases hx
    have h0 := hcell 0 (by omega)
    have hsp : a.spot = none := by
      unfold Addr.add at h0
      simp only [if_true] at h0
      unfold World.cell? at h0
      split at h0
      · split at h0
        · cases h0
        · rename_i hs; simpa using hs
      · cases h0
    refine ⟨a.block, a.off, by rw [← hsp], ?_⟩
    have hi' := hcell i (by omega)
    rw [List.getElem?_map, List.getElem?_range hi, Option.map_some] at hx
    rw [Option.some.inj hx] at hi'
    rw [Nat.mul_one]
    have ha : a.add i = ⟨a.block, a.off + i, none⟩ := by
      unfold Addr.add; split
      · rename_i h; subst h; rw [Nat.add_zero, ← hsp]
      · rfl
    rw [ha] at hi'; exact hi'
end
end Go.Proofs.Ytfblkahjefdmaaa
