/- For ResynMadeS: what the texts XPgX of wip/tpl say. -/
import Derived.Test.YtpcdknfmgacggaaI
namespace Go.Proofs.Ytpcdknfmgacggaa
open Go.RowKit
section
variable {w wr w' : World} {rb ob : Nat} {vo vo' : Value} {no no' : Int}
end
end Go.Proofs.Ytpcdknfmgacggaa
