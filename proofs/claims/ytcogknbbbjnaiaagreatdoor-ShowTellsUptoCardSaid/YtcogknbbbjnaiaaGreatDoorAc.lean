/- For ShowTells: what the texts XRgT of wip/tpl say. -/
import Derived.Test.YtcogknbbbjnaiaaGreatDoorC
import Derived.Deep.RegionHeld3
namespace Go.Proofs.YtcogknbbbjnaiaaGreatDoor
open Go
section
variable{P:Program}{ops:Array Oper}{Q:Exit->Act->World->Prop}{md:Region.Mode}{S:World->Prop}{L:Nat}
end
end Go.Proofs.YtcogknbbbjnaiaaGreatDoor
