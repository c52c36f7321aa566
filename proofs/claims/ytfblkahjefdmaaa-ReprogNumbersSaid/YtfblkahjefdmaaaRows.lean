/-
  No cell of these rows narrows 'for every input' (looked for: loops, veiled, ifaces, maps, wideKeys, modest, calm, conditions, laid).
  DERIVED. THE GIVEN ROWS OF THIS SEAT. 14 by the template 'for every input the law returns true; each argument reads behind the call as it read before'; 0 by the template 'total and deterministic' (their statements: YtfblkahjefdmaaaTotals.lean).
  GIVEN WITH THE SEED: the statements are not yours to turn. If you find one false, say at which input.
  Laid BY PROGRAM, IN A SANDBOX (cutbox-rows.mjs): the forced cells as the released guide's own fill.sh prints them over the translation 36f914ceaf1de5c8… (all of the seat's roots in one cut). By AI agents, Wed Nov 11 2026. No macro, syntax, notation, axiom, sorry.
-/
import Derived.Test.YtfblkahjefdmaaaChecked
import GoSem.Claim
import GoSem.ClaimJoined
import GoSem.ClaimMapViews
import Derived.JoinedTies
import Derived.KernelRfl
namespace Go.Proofs.Ytfblkahjefdmaaa
/- THE CELL 'sum', in the pinned program and in every row, IS THE sha256 OF THE DUMP (.gsa) THAT YtfblkahjefdmaaaProg.lean LOADS. Nothing in Lean hashes anything: it is a label: what it is worth is what the hold of that sum in a sandbox is worth. -/
noncomputable def Try.pinned : Pinned := { name := "ytfblkahjefdmaaa", sum := "36f914ceaf1de5c8feaaeca4f37b19ec4615ccff12a6187e68b850398cc77606", checked := Try.checked }
namespace Rows
def none {H : Type} : Left H := { results := [], args := [] }

/-- 'standishlaw8.ResynMade': WHATEVER THE INPUT: true; the input reads as it did. -/
def resynMadeSpec : ChangeSpec := { name := "resynMade", fn := fun _ => fun
  | [d1, d2, d3, d4, d5] => { results := [.lit (.bool true)], args := [d1, d2, d3, d4, d5] }
  | _ => none }
def resynMadeRow : OpenClaim := { program := "ytfblkahjefdmaaa", sum := "36f914ceaf1de5c8feaaeca4f37b19ec4615ccff12a6187e68b850398cc77606", func := "standish/standishlaw8.ResynMade", spec := "resynMade", unfollowed := true, recurses := true, apart := false }
def ResynMadeSaid : Prop := resynMadeRow.holds Try.pinned (OpenSpec.ofChange resynMadeSpec)

/-- ITS FALSE NEIGHBOUR: 'it returns false'. Refute it at one input. -/
def resynMadeWrong : ChangeSpec := { name := "resynMade", fn := fun _ => fun
  | [d1, d2, d3, d4, d5] => { results := [.lit (.bool false)], args := [d1, d2, d3, d4, d5] }
  | _ => none }
def ResynMadeWrongFalsely : Prop := resynMadeRow.holds Try.pinned (OpenSpec.ofChange resynMadeWrong)

/-- 'standishlaw8.ResynRows': WHATEVER THE INPUT: true; the input reads as it did. -/
def resynRowsSpec : ChangeSpec := { name := "resynRows", fn := fun _ => fun
  | [d] => { results := [.lit (.bool true)], args := [d] }
  | _ => none }
def resynRowsRow : OpenClaim := { program := "ytfblkahjefdmaaa", sum := "36f914ceaf1de5c8feaaeca4f37b19ec4615ccff12a6187e68b850398cc77606", func := "standish/standishlaw8.ResynRows", spec := "resynRows", unfollowed := true, recurses := true, apart := false }
def ResynRowsSaid : Prop := resynRowsRow.holds Try.pinned (OpenSpec.ofChange resynRowsSpec)

/-- ITS FALSE NEIGHBOUR: 'it returns false'. Refute it at one input. -/
def resynRowsWrong : ChangeSpec := { name := "resynRows", fn := fun _ => fun
  | [d] => { results := [.lit (.bool false)], args := [d] }
  | _ => none }
def ResynRowsWrongFalsely : Prop := resynRowsRow.holds Try.pinned (OpenSpec.ofChange resynRowsWrong)

/-- 'standishlaw8.ResynWithin': WHATEVER THE INPUT: true; the input reads as it did. -/
def resynWithinSpec : ChangeSpec := { name := "resynWithin", fn := fun _ => fun
  | [d1, d2] => { results := [.lit (.bool true)], args := [d1, d2] }
  | _ => none }
def resynWithinRow : OpenClaim := { program := "ytfblkahjefdmaaa", sum := "36f914ceaf1de5c8feaaeca4f37b19ec4615ccff12a6187e68b850398cc77606", func := "standish/standishlaw8.ResynWithin", spec := "resynWithin", unfollowed := true, recurses := true, apart := false }
def ResynWithinSaid : Prop := resynWithinRow.holds Try.pinned (OpenSpec.ofChange resynWithinSpec)

/-- ITS FALSE NEIGHBOUR: 'it returns false'. Refute it at one input. -/
def resynWithinWrong : ChangeSpec := { name := "resynWithin", fn := fun _ => fun
  | [d1, d2] => { results := [.lit (.bool false)], args := [d1, d2] }
  | _ => none }
def ResynWithinWrongFalsely : Prop := resynWithinRow.holds Try.pinned (OpenSpec.ofChange resynWithinWrong)

/-- 'standishlaw9.ReprogNumbers': WHATEVER THE INPUT: true; the input reads as it did. -/
def reprogNumbersSpec : ChangeSpec := { name := "reprogNumbers", fn := fun _ => fun
  | [] => { results := [.lit (.bool true)], args := [] }
  | _ => none }
def reprogNumbersRow : OpenClaim := { program := "ytfblkahjefdmaaa", sum := "36f914ceaf1de5c8feaaeca4f37b19ec4615ccff12a6187e68b850398cc77606", func := "standish/standishlaw9.ReprogNumbers", spec := "reprogNumbers", unfollowed := true, recurses := true, apart := false }
def ReprogNumbersSaid : Prop := reprogNumbersRow.holds Try.pinned (OpenSpec.ofChange reprogNumbersSpec)

/-- ITS FALSE NEIGHBOUR: 'it returns false'. Refute it at one input. -/
def reprogNumbersWrong : ChangeSpec := { name := "reprogNumbers", fn := fun _ => fun
  | [] => { results := [.lit (.bool false)], args := [] }
  | _ => none }
def ReprogNumbersWrongFalsely : Prop := reprogNumbersRow.holds Try.pinned (OpenSpec.ofChange reprogNumbersWrong)

/-- 'standishlaw9.ReprogRows': WHATEVER THE INPUT: true; the input reads as it did. -/
def reprogRowsSpec : ChangeSpec := { name := "reprogRows", fn := fun _ => fun
  | [d1, d2] => { results := [.lit (.bool true)], args := [d1, d2] }
  | _ => none }
def reprogRowsRow : OpenClaim := { program := "ytfblkahjefdmaaa", sum := "36f914ceaf1de5c8feaaeca4f37b19ec4615ccff12a6187e68b850398cc77606", func := "standish/standishlaw9.ReprogRows", spec := "reprogRows", unfollowed := true, recurses := true, apart := false }
def ReprogRowsSaid : Prop := reprogRowsRow.holds Try.pinned (OpenSpec.ofChange reprogRowsSpec)

/-- ITS FALSE NEIGHBOUR: 'it returns false'. Refute it at one input. -/
def reprogRowsWrong : ChangeSpec := { name := "reprogRows", fn := fun _ => fun
  | [d1, d2] => { results := [.lit (.bool false)], args := [d1, d2] }
  | _ => none }
def ReprogRowsWrongFalsely : Prop := reprogRowsRow.holds Try.pinned (OpenSpec.ofChange reprogRowsWrong)

/-- 'standishlaw9.ReprogTargets': WHATEVER THE INPUT: true; the input reads as it did. -/
def reprogTargetsSpec : ChangeSpec := { name := "reprogTargets", fn := fun _ => fun
  | [d] => { results := [.lit (.bool true)], args := [d] }
  | _ => none }
def reprogTargetsRow : OpenClaim := { program := "ytfblkahjefdmaaa", sum := "36f914ceaf1de5c8feaaeca4f37b19ec4615ccff12a6187e68b850398cc77606", func := "standish/standishlaw9.ReprogTargets", spec := "reprogTargets", unfollowed := true, recurses := true, apart := false }
def ReprogTargetsSaid : Prop := reprogTargetsRow.holds Try.pinned (OpenSpec.ofChange reprogTargetsSpec)

/-- ITS FALSE NEIGHBOUR: 'it returns false'. Refute it at one input. -/
def reprogTargetsWrong : ChangeSpec := { name := "reprogTargets", fn := fun _ => fun
  | [d] => { results := [.lit (.bool false)], args := [d] }
  | _ => none }
def ReprogTargetsWrongFalsely : Prop := reprogTargetsRow.holds Try.pinned (OpenSpec.ofChange reprogTargetsWrong)

/-- 'standishlaw10.RematchLeast': WHATEVER THE INPUT: true; the input reads as it did. -/
def rematchLeastSpec : ChangeSpec := { name := "rematchLeast", fn := fun _ => fun
  | [d1, d2, d3] => { results := [.lit (.bool true)], args := [d1, d2, d3] }
  | _ => none }
def rematchLeastRow : OpenClaim := { program := "ytfblkahjefdmaaa", sum := "36f914ceaf1de5c8feaaeca4f37b19ec4615ccff12a6187e68b850398cc77606", func := "standish/standishlaw10.RematchLeast", spec := "rematchLeast", unfollowed := true, recurses := true, apart := false }
def RematchLeastSaid : Prop := rematchLeastRow.holds Try.pinned (OpenSpec.ofChange rematchLeastSpec)

/-- ITS FALSE NEIGHBOUR: 'it returns false'. Refute it at one input. -/
def rematchLeastWrong : ChangeSpec := { name := "rematchLeast", fn := fun _ => fun
  | [d1, d2, d3] => { results := [.lit (.bool false)], args := [d1, d2, d3] }
  | _ => none }
def RematchLeastWrongFalsely : Prop := rematchLeastRow.holds Try.pinned (OpenSpec.ofChange rematchLeastWrong)

/-- 'standishlaw10.RematchPlain': WHATEVER THE INPUT: true; the input reads as it did. -/
def rematchPlainSpec : ChangeSpec := { name := "rematchPlain", fn := fun _ => fun
  | [d1, d2, d3] => { results := [.lit (.bool true)], args := [d1, d2, d3] }
  | _ => none }
def rematchPlainRow : OpenClaim := { program := "ytfblkahjefdmaaa", sum := "36f914ceaf1de5c8feaaeca4f37b19ec4615ccff12a6187e68b850398cc77606", func := "standish/standishlaw10.RematchPlain", spec := "rematchPlain", unfollowed := true, recurses := true, apart := false }
def RematchPlainSaid : Prop := rematchPlainRow.holds Try.pinned (OpenSpec.ofChange rematchPlainSpec)

/-- ITS FALSE NEIGHBOUR: 'it returns false'. Refute it at one input. -/
def rematchPlainWrong : ChangeSpec := { name := "rematchPlain", fn := fun _ => fun
  | [d1, d2, d3] => { results := [.lit (.bool false)], args := [d1, d2, d3] }
  | _ => none }
def RematchPlainWrongFalsely : Prop := rematchPlainRow.holds Try.pinned (OpenSpec.ofChange rematchPlainWrong)

/-- 'standishlaw10.RematchFold': WHATEVER THE INPUT: true; the input reads as it did. -/
def rematchFoldSpec : ChangeSpec := { name := "rematchFold", fn := fun _ => fun
  | [d1, d2] => { results := [.lit (.bool true)], args := [d1, d2] }
  | _ => none }
def rematchFoldRow : OpenClaim := { program := "ytfblkahjefdmaaa", sum := "36f914ceaf1de5c8feaaeca4f37b19ec4615ccff12a6187e68b850398cc77606", func := "standish/standishlaw10.RematchFold", spec := "rematchFold", unfollowed := true, recurses := true, apart := false }
def RematchFoldSaid : Prop := rematchFoldRow.holds Try.pinned (OpenSpec.ofChange rematchFoldSpec)

/-- ITS FALSE NEIGHBOUR: 'it returns false'. Refute it at one input. -/
def rematchFoldWrong : ChangeSpec := { name := "rematchFold", fn := fun _ => fun
  | [d1, d2] => { results := [.lit (.bool false)], args := [d1, d2] }
  | _ => none }
def RematchFoldWrongFalsely : Prop := rematchFoldRow.holds Try.pinned (OpenSpec.ofChange rematchFoldWrong)

/-- 'standishlaw12.TransformFills': WHATEVER THE INPUT: true; the input reads as it did. -/
def transformFillsSpec : ChangeSpec := { name := "transformFills", fn := fun _ => fun
  | [d1, d2, d3] => { results := [.lit (.bool true)], args := [d1, d2, d3] }
  | _ => none }
def transformFillsRow : OpenClaim := { program := "ytfblkahjefdmaaa", sum := "36f914ceaf1de5c8feaaeca4f37b19ec4615ccff12a6187e68b850398cc77606", func := "standish/standishlaw12.TransformFills", spec := "transformFills", unfollowed := true, recurses := true, apart := false }
def TransformFillsSaid : Prop := transformFillsRow.holds Try.pinned (OpenSpec.ofChange transformFillsSpec)

/-- ITS FALSE NEIGHBOUR: 'it returns false'. Refute it at one input. -/
def transformFillsWrong : ChangeSpec := { name := "transformFills", fn := fun _ => fun
  | [d1, d2, d3] => { results := [.lit (.bool false)], args := [d1, d2, d3] }
  | _ => none }
def TransformFillsWrongFalsely : Prop := transformFillsRow.holds Try.pinned (OpenSpec.ofChange transformFillsWrong)

/-- 'standishlaw12.TransformNone': WHATEVER THE INPUT: true; the input reads as it did. -/
def transformNoneSpec : ChangeSpec := { name := "transformNone", fn := fun _ => fun
  | [d1, d2, d3] => { results := [.lit (.bool true)], args := [d1, d2, d3] }
  | _ => none }
def transformNoneRow : OpenClaim := { program := "ytfblkahjefdmaaa", sum := "36f914ceaf1de5c8feaaeca4f37b19ec4615ccff12a6187e68b850398cc77606", func := "standish/standishlaw12.TransformNone", spec := "transformNone", unfollowed := true, recurses := true, apart := false }
def TransformNoneSaid : Prop := transformNoneRow.holds Try.pinned (OpenSpec.ofChange transformNoneSpec)

/-- ITS FALSE NEIGHBOUR: 'it returns false'. Refute it at one input. -/
def transformNoneWrong : ChangeSpec := { name := "transformNone", fn := fun _ => fun
  | [d1, d2, d3] => { results := [.lit (.bool false)], args := [d1, d2, d3] }
  | _ => none }
def TransformNoneWrongFalsely : Prop := transformNoneRow.holds Try.pinned (OpenSpec.ofChange transformNoneWrong)

/-- 'standishlaw12.TransformParts': WHATEVER THE INPUT: true; the input reads as it did. -/
def transformPartsSpec : ChangeSpec := { name := "transformParts", fn := fun _ => fun
  | [d1, d2] => { results := [.lit (.bool true)], args := [d1, d2] }
  | _ => none }
def transformPartsRow : OpenClaim := { program := "ytfblkahjefdmaaa", sum := "36f914ceaf1de5c8feaaeca4f37b19ec4615ccff12a6187e68b850398cc77606", func := "standish/standishlaw12.TransformParts", spec := "transformParts", unfollowed := true, recurses := true, apart := false }
def TransformPartsSaid : Prop := transformPartsRow.holds Try.pinned (OpenSpec.ofChange transformPartsSpec)

/-- ITS FALSE NEIGHBOUR: 'it returns false'. Refute it at one input. -/
def transformPartsWrong : ChangeSpec := { name := "transformParts", fn := fun _ => fun
  | [d1, d2] => { results := [.lit (.bool false)], args := [d1, d2] }
  | _ => none }
def TransformPartsWrongFalsely : Prop := transformPartsRow.holds Try.pinned (OpenSpec.ofChange transformPartsWrong)

/-- 'standishlaw12.TransformFull': WHATEVER THE INPUT: true; the input reads as it did. -/
def transformFullSpec : ChangeSpec := { name := "transformFull", fn := fun _ => fun
  | [d1, d2] => { results := [.lit (.bool true)], args := [d1, d2] }
  | _ => none }
def transformFullRow : OpenClaim := { program := "ytfblkahjefdmaaa", sum := "36f914ceaf1de5c8feaaeca4f37b19ec4615ccff12a6187e68b850398cc77606", func := "standish/standishlaw12.TransformFull", spec := "transformFull", unfollowed := true, recurses := true, apart := false }
def TransformFullSaid : Prop := transformFullRow.holds Try.pinned (OpenSpec.ofChange transformFullSpec)

/-- ITS FALSE NEIGHBOUR: 'it returns false'. Refute it at one input. -/
def transformFullWrong : ChangeSpec := { name := "transformFull", fn := fun _ => fun
  | [d1, d2] => { results := [.lit (.bool false)], args := [d1, d2] }
  | _ => none }
def TransformFullWrongFalsely : Prop := transformFullRow.holds Try.pinned (OpenSpec.ofChange transformFullWrong)

/-- 'standishlaw12.TransformFillRows': WHATEVER THE INPUT: true; the input reads as it did. -/
def transformFillRowsSpec : ChangeSpec := { name := "transformFillRows", fn := fun _ => fun
  | [d1, d2, d3] => { results := [.lit (.bool true)], args := [d1, d2, d3] }
  | _ => none }
def transformFillRowsRow : OpenClaim := { program := "ytfblkahjefdmaaa", sum := "36f914ceaf1de5c8feaaeca4f37b19ec4615ccff12a6187e68b850398cc77606", func := "standish/standishlaw12.TransformFillRows", spec := "transformFillRows", unfollowed := true, recurses := true, apart := false }
def TransformFillRowsSaid : Prop := transformFillRowsRow.holds Try.pinned (OpenSpec.ofChange transformFillRowsSpec)

/-- ITS FALSE NEIGHBOUR: 'it returns false'. Refute it at one input. -/
def transformFillRowsWrong : ChangeSpec := { name := "transformFillRows", fn := fun _ => fun
  | [d1, d2, d3] => { results := [.lit (.bool false)], args := [d1, d2, d3] }
  | _ => none }
def TransformFillRowsWrongFalsely : Prop := transformFillRowsRow.holds Try.pinned (OpenSpec.ofChange transformFillRowsWrong)

/- THE SECOND FORM. 'bulk': how many values and letters a reading holds, each counted each time it is reached (what is shared counts as often as it is met; a slice's spare places count too). A statement '..UptoSaid' is the law's where the arguments, and the package variables that the reading takes, are together of bulk at most 1048576: NARROWER than '..Said'. Prove '..Said' where nothing that the law and all that it calls make is longer than what came in: it says more and counts as full. Else prove '..UptoSaid'. A law counts once. -/
mutual
def uptoBulk {H : Type} : DataW H → Nat
  | .lit (.string bytes) => bytes.length + 1
  | .lit _ => 1
  | .nil => 1
  | .ptr d => uptoBulk d + 1
  | .slice elems spare => uptoBulkAll elems + uptoBulkAll spare + 1
  | .agg parts => uptoBulkAll parts + 1
  | .iface _ d => uptoBulk d + 1
  | .map entries => uptoBulkEntries entries + 1
  | .held _ => 1
def uptoBulkAll {H : Type} : List (DataW H) → Nat
  | [] => 0
  | d :: r => uptoBulk d + uptoBulkAll r
def uptoBulkEntries {H : Type} : List (Lit × DataW H) → Nat
  | [] => 0
  | x :: r => uptoBulkEntry x + uptoBulkEntries r
def uptoBulkEntry {H : Type} : Lit × DataW H → Nat
  | (.string bytes, d) => bytes.length + uptoBulk d + 1
  | (_, d) => uptoBulk d + 1
 end
def uptoSmall : (H : Type) → List (DataW H) → Bool := fun _ ds => decide (uptoBulkAll ds ≤ 1048576)
def OpenSpec.upto (s : _root_.Go.ChangeSpec) : _root_.Go.OpenSpec := { _root_.Go.OpenSpec.ofChange s with cond := some uptoSmall }

/-- 'standishlaw8.ResynMade', WHERE WHAT IT READS IS OF BULK AT MOST 1048576: true; the input reads as it did. -/
def resynMadeUptoRow : OpenClaim := { program := "ytfblkahjefdmaaa", sum := "36f914ceaf1de5c8feaaeca4f37b19ec4615ccff12a6187e68b850398cc77606", func := "standish/standishlaw8.ResynMade", spec := "resynMade", unfollowed := true, recurses := true, apart := false, narrowed := true }
def ResynMadeUptoSaid : Prop := resynMadeUptoRow.holds Try.pinned (OpenSpec.upto resynMadeSpec)

/-- 'standishlaw8.ResynRows', WHERE WHAT IT READS IS OF BULK AT MOST 1048576: true; the input reads as it did. -/
def resynRowsUptoRow : OpenClaim := { program := "ytfblkahjefdmaaa", sum := "36f914ceaf1de5c8feaaeca4f37b19ec4615ccff12a6187e68b850398cc77606", func := "standish/standishlaw8.ResynRows", spec := "resynRows", unfollowed := true, recurses := true, apart := false, narrowed := true }
def ResynRowsUptoSaid : Prop := resynRowsUptoRow.holds Try.pinned (OpenSpec.upto resynRowsSpec)

/-- 'standishlaw8.ResynWithin', WHERE WHAT IT READS IS OF BULK AT MOST 1048576: true; the input reads as it did. -/
def resynWithinUptoRow : OpenClaim := { program := "ytfblkahjefdmaaa", sum := "36f914ceaf1de5c8feaaeca4f37b19ec4615ccff12a6187e68b850398cc77606", func := "standish/standishlaw8.ResynWithin", spec := "resynWithin", unfollowed := true, recurses := true, apart := false, narrowed := true }
def ResynWithinUptoSaid : Prop := resynWithinUptoRow.holds Try.pinned (OpenSpec.upto resynWithinSpec)

/-- 'standishlaw9.ReprogNumbers', WHERE WHAT IT READS IS OF BULK AT MOST 1048576: true; the input reads as it did. -/
def reprogNumbersUptoRow : OpenClaim := { program := "ytfblkahjefdmaaa", sum := "36f914ceaf1de5c8feaaeca4f37b19ec4615ccff12a6187e68b850398cc77606", func := "standish/standishlaw9.ReprogNumbers", spec := "reprogNumbers", unfollowed := true, recurses := true, apart := false, narrowed := true }
def ReprogNumbersUptoSaid : Prop := reprogNumbersUptoRow.holds Try.pinned (OpenSpec.upto reprogNumbersSpec)

/-- 'standishlaw9.ReprogRows', WHERE WHAT IT READS IS OF BULK AT MOST 1048576: true; the input reads as it did. -/
def reprogRowsUptoRow : OpenClaim := { program := "ytfblkahjefdmaaa", sum := "36f914ceaf1de5c8feaaeca4f37b19ec4615ccff12a6187e68b850398cc77606", func := "standish/standishlaw9.ReprogRows", spec := "reprogRows", unfollowed := true, recurses := true, apart := false, narrowed := true }
def ReprogRowsUptoSaid : Prop := reprogRowsUptoRow.holds Try.pinned (OpenSpec.upto reprogRowsSpec)

/-- 'standishlaw9.ReprogTargets', WHERE WHAT IT READS IS OF BULK AT MOST 1048576: true; the input reads as it did. -/
def reprogTargetsUptoRow : OpenClaim := { program := "ytfblkahjefdmaaa", sum := "36f914ceaf1de5c8feaaeca4f37b19ec4615ccff12a6187e68b850398cc77606", func := "standish/standishlaw9.ReprogTargets", spec := "reprogTargets", unfollowed := true, recurses := true, apart := false, narrowed := true }
def ReprogTargetsUptoSaid : Prop := reprogTargetsUptoRow.holds Try.pinned (OpenSpec.upto reprogTargetsSpec)

/-- 'standishlaw10.RematchLeast', WHERE WHAT IT READS IS OF BULK AT MOST 1048576: true; the input reads as it did. -/
def rematchLeastUptoRow : OpenClaim := { program := "ytfblkahjefdmaaa", sum := "36f914ceaf1de5c8feaaeca4f37b19ec4615ccff12a6187e68b850398cc77606", func := "standish/standishlaw10.RematchLeast", spec := "rematchLeast", unfollowed := true, recurses := true, apart := false, narrowed := true }
def RematchLeastUptoSaid : Prop := rematchLeastUptoRow.holds Try.pinned (OpenSpec.upto rematchLeastSpec)

/-- 'standishlaw10.RematchPlain', WHERE WHAT IT READS IS OF BULK AT MOST 1048576: true; the input reads as it did. -/
def rematchPlainUptoRow : OpenClaim := { program := "ytfblkahjefdmaaa", sum := "36f914ceaf1de5c8feaaeca4f37b19ec4615ccff12a6187e68b850398cc77606", func := "standish/standishlaw10.RematchPlain", spec := "rematchPlain", unfollowed := true, recurses := true, apart := false, narrowed := true }
def RematchPlainUptoSaid : Prop := rematchPlainUptoRow.holds Try.pinned (OpenSpec.upto rematchPlainSpec)

/-- 'standishlaw10.RematchFold', WHERE WHAT IT READS IS OF BULK AT MOST 1048576: true; the input reads as it did. -/
def rematchFoldUptoRow : OpenClaim := { program := "ytfblkahjefdmaaa", sum := "36f914ceaf1de5c8feaaeca4f37b19ec4615ccff12a6187e68b850398cc77606", func := "standish/standishlaw10.RematchFold", spec := "rematchFold", unfollowed := true, recurses := true, apart := false, narrowed := true }
def RematchFoldUptoSaid : Prop := rematchFoldUptoRow.holds Try.pinned (OpenSpec.upto rematchFoldSpec)

/-- 'standishlaw12.TransformFills', WHERE WHAT IT READS IS OF BULK AT MOST 1048576: true; the input reads as it did. -/
def transformFillsUptoRow : OpenClaim := { program := "ytfblkahjefdmaaa", sum := "36f914ceaf1de5c8feaaeca4f37b19ec4615ccff12a6187e68b850398cc77606", func := "standish/standishlaw12.TransformFills", spec := "transformFills", unfollowed := true, recurses := true, apart := false, narrowed := true }
def TransformFillsUptoSaid : Prop := transformFillsUptoRow.holds Try.pinned (OpenSpec.upto transformFillsSpec)

/-- 'standishlaw12.TransformNone', WHERE WHAT IT READS IS OF BULK AT MOST 1048576: true; the input reads as it did. -/
def transformNoneUptoRow : OpenClaim := { program := "ytfblkahjefdmaaa", sum := "36f914ceaf1de5c8feaaeca4f37b19ec4615ccff12a6187e68b850398cc77606", func := "standish/standishlaw12.TransformNone", spec := "transformNone", unfollowed := true, recurses := true, apart := false, narrowed := true }
def TransformNoneUptoSaid : Prop := transformNoneUptoRow.holds Try.pinned (OpenSpec.upto transformNoneSpec)

/-- 'standishlaw12.TransformParts', WHERE WHAT IT READS IS OF BULK AT MOST 1048576: true; the input reads as it did. -/
def transformPartsUptoRow : OpenClaim := { program := "ytfblkahjefdmaaa", sum := "36f914ceaf1de5c8feaaeca4f37b19ec4615ccff12a6187e68b850398cc77606", func := "standish/standishlaw12.TransformParts", spec := "transformParts", unfollowed := true, recurses := true, apart := false, narrowed := true }
def TransformPartsUptoSaid : Prop := transformPartsUptoRow.holds Try.pinned (OpenSpec.upto transformPartsSpec)

/-- 'standishlaw12.TransformFull', WHERE WHAT IT READS IS OF BULK AT MOST 1048576: true; the input reads as it did. -/
def transformFullUptoRow : OpenClaim := { program := "ytfblkahjefdmaaa", sum := "36f914ceaf1de5c8feaaeca4f37b19ec4615ccff12a6187e68b850398cc77606", func := "standish/standishlaw12.TransformFull", spec := "transformFull", unfollowed := true, recurses := true, apart := false, narrowed := true }
def TransformFullUptoSaid : Prop := transformFullUptoRow.holds Try.pinned (OpenSpec.upto transformFullSpec)

/-- 'standishlaw12.TransformFillRows', WHERE WHAT IT READS IS OF BULK AT MOST 1048576: true; the input reads as it did. -/
def transformFillRowsUptoRow : OpenClaim := { program := "ytfblkahjefdmaaa", sum := "36f914ceaf1de5c8feaaeca4f37b19ec4615ccff12a6187e68b850398cc77606", func := "standish/standishlaw12.TransformFillRows", spec := "transformFillRows", unfollowed := true, recurses := true, apart := false, narrowed := true }
def TransformFillRowsUptoSaid : Prop := transformFillRowsUptoRow.holds Try.pinned (OpenSpec.upto transformFillRowsSpec)

end Rows
end Go.Proofs.Ytfblkahjefdmaaa
