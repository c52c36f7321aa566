/- For ShowTells: what the texts XSiR of wip/tpl say. -/
import Derived.Test.YtcogknbbbjnaiaaGreatDoorS
import Derived.Test.YtcogknbbbjnaiaaGreatDoorAb
namespace Go.Proofs.YtcogknbbbjnaiaaGreatDoor
open Go.RowKit
end Go.Proofs.YtcogknbbbjnaiaaGreatDoor
