/- For ShowTells: what the texts XShFr of wip/tpl say. -/
import Derived.Test.YtcogknbbbjnaiaaGreatDoorCards
import Derived.Test.YtcogknbbbjnaiaaGreatDoorTie
import Derived.Test.YtcogknbbbjnaiaaGreatDoorD
import Derived.LaidMore
import Derived.SizedLaws
import Derived.Deep.DeepWitnessRowRef
set_option maxRecDepth 100000
namespace Go.Proofs.YtcogknbbbjnaiaaGreatDoor
open Go.ChangeShapes Go.WideShapes Go.ChangeAt Go.RowKit
theorem own:ownKnob Tryz.prog.godebug=none:=by kernel_rfl
theorem laidOut:laidOutB Tryz.prog=true:=by kernel_rfl
theorem Su:Tryz.prog.cellsOf 3=1:=by kernel_rfl
noncomputable abbrev Bc(os:Os):World:=World.doorLaid Tryz.prog 20000 os
theorem VT(os:Os)(args:Array Value):laidMetH Tryz.prog Rows.showTellsUptoRow.laid ((Bc os).forCall (fun _ _=>0) ⟨#[],args,[]⟩).memory:=laidMetH_of_parts3 (fuel:=8) (laidMet_of_run' 8 (by kernel_rfl) (by kernel_rfl)) (by kernel_rfl) (by kernel_rfl)
end Go.Proofs.YtcogknbbbjnaiaaGreatDoor
