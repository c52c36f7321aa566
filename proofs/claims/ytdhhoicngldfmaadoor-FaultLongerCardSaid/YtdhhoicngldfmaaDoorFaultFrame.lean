/- The frame of layer 2's claims: what the listed variable gives; a world for the witness. -/
import Derived.Test.YtdhhoicngldfmaaDoorCards
import Derived.Test.YtdhhoicngldfmaaDoorTie
import Derived.Test.YtdhhoicngldfmaaDoorLaw
import Derived.Test.YtdhhoicngldfmaaDoorFaultC
import Derived.LaidHandle
import Derived.Lib.LaidTab
namespace Go.Proofs.YtdhhoicngldfmaaDoor
open Go.ChangeShapes Go.WideShapes Go.ChangeAt Go.RowKit

theorem own : ownKnob Tryd.prog.godebug = none := by kernel_rfl
theorem laidOut : laidOutB Tryd.prog = true := by kernel_rfl
theorem cells_int : Tryd.prog.cellsOf 3 = 1 := by kernel_rfl
theorem g_err : Tryd.prog.globalNamed "errors.errorType" = some 0 := by kernel_rfl
theorem cut_rtype : (Tryd.prog.cutTypes.find? (·.1 == "internal/reflectlite.rtype")).map (·.2) = some 67 := by kernel_rfl
theorem named_error : (List.range Tryd.prog.types.size).filter (fun t => Tryd.prog.rowNamed t [101, 114, 114, 111, 114]) = [34] := by kernel_rfl

theorem laid_of {W : World} (h : laidMetH Tryd.prog [("errors.errorType", Rows.laid_errors_errorType)] W) : Laid W := by
  obtain ⟨_, hm⟩ : laidMet Tryd.prog _ W ∧ handlesMet Tryd.prog [("errors.errorType", Rows.laid_errors_errorType)] W := h
  obtain ⟨name, u, ty, h1, h2, h3, h4, h5⟩ := hm _ (List.mem_singleton.2 rfl)
  obtain rfl : [101, 114, 114, 111, 114] = name := Option.some.inj h1
  rw [cut_rtype] at h2
  obtain rfl := Option.some.inj h2
  have hty : ty ∈ (List.range Tryd.prog.types.size).filter (fun t => Tryd.prog.rowNamed t [101, 114, 114, 111, 114]) := List.mem_filter.2 ⟨List.mem_range.2 h3, h4⟩
  rw [named_error] at hty
  obtain rfl := List.mem_singleton.1 hty
  unfold World.var? at h5
  simp only [g_err, Option.bind_some] at h5
  unfold Laid World.cell?
  simp only
  split at h5
  · rename_i cs _ _ hh
    rw [hh]
    obtain rfl := Option.some.inj h5
    simp [typeHandle]
  · cases h5

/-- A world for the witness: the settled one, the variable holding what its initialiser lays. -/
noncomputable def laidWorld (os : Os) : World :=
  { World.holding Tryd.prog os ⟨#[], #[], []⟩ with heap := (World.holding Tryd.prog os ⟨#[], #[], []⟩).heap.modify 0 fun
      | .cells _ t frozen => .cells #[Rt 34] t frozen
      | o => o }
end Go.Proofs.YtdhhoicngldfmaaDoor
