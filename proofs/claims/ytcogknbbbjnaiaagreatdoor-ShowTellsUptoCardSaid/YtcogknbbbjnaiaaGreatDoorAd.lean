/- For ShowTells: what the texts XMxD XMxE of wip/tpl say. -/
import Derived.Test.YtcogknbbbjnaiaaGreatDoorAb
import Derived.Test.YtcogknbbbjnaiaaGreatDoorAc
import Derived.Maps.RangeWalk
namespace Go.Proofs.YtcogknbbbjnaiaaGreatDoor
open Go.RowKit
namespace MX
section
variable{A:Nat->Nat->Act}{c:Cf}{pc at_:Nat}
end
end MX
namespace MX
end MX
section
variable{w wr w':World}{tb mb sb nb m n:Nat}{sv vw vw':Value}{c:MX.Cf}
end
end Go.Proofs.YtcogknbbbjnaiaaGreatDoor
