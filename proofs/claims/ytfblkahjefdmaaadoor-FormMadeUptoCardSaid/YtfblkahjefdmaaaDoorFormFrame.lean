/- The frame of layer 11's claims: a world for the witness. -/
import Derived.Test.YtfblkahjefdmaaaDoorCards
import Derived.Test.YtfblkahjefdmaaaDoorTie
import Derived.Test.YtfblkahjefdmaaaDoorLaw2
import Derived.LaidMore
import Derived.SizedLaws
import Derived.Deep.DeepWitnessRowRef
namespace Go.Proofs.YtfblkahjefdmaaaDoor
open Go.ChangeShapes Go.WideShapes Go.ChangeAt Go.RowKit

theorem own : ownKnob Tryd.prog.godebug = none := by kernel_rfl
theorem laidOut : laidOutB Tryd.prog = true := by kernel_rfl
theorem cells_int : Tryd.prog.cellsOf 3 = 1 := by kernel_rfl
theorem cells_int32 : Tryd.prog.cellsOf 21 = 1 := by kernel_rfl
theorem bytes_int32 : Tryd.prog.bytesOf 21 = 4 := by kernel_rfl
noncomputable abbrev laidWorld (os : Os) : World := World.doorLaid Tryd.prog 20000 os
set_option maxRecDepth 100000 in
theorem door_met (os : Os) (args : Array Value) : laidMetH Tryd.prog Rows.formBackRow.laid ((laidWorld os).forCall (fun _ _ => 0) ⟨#[], args, []⟩).memory :=
  laidMetH_of_parts3 (fuel := 8) (laidMet_of_run' 8 (by kernel_rfl) (by kernel_rfl)) (by kernel_rfl) (by kernel_rfl)
end Go.Proofs.YtfblkahjefdmaaaDoor
