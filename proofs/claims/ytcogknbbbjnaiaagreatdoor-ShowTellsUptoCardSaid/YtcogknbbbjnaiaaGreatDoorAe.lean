/- For ShowTells: what the texts XMxG of wip/tpl say. -/
import Derived.Test.YtcogknbbbjnaiaaGreatDoorAb
import Derived.Laws.Bits64b
import Derived.Laws.CopyOwn
import Derived.Deep.OwnRows
namespace Go.Proofs.YtcogknbbbjnaiaaGreatDoor
open Go.RowKit
theorem IP:(Tryz.prog.info? 3).map (fun i=>(i.zero,i.size,i.bytes))=some (some (.int .i64 0),1,8):=by kernel_rfl
end Go.Proofs.YtcogknbbbjnaiaaGreatDoor
