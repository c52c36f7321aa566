/-
  DERIVED. GIVEN WITH THE SEED: THE CARDS: each row of YtcogknbbbjnaiaaGreatDoorRows.lean that lists a variable, with what it lists TIED to the program's text (the seventh form; the later family's looks); each row that meets fmt, with fmt's text TOLD by the authors' own Lean function (tested against real Go, not proved from fmt's source: count such statements apart). THE CARD IS WHAT COUNTS. Prove the row's statement (the work); the ties are given (YtcogknbbbjnaiaaGreatDoorTie.lean); close each card by the builder's one call (the guide's Derived/Test/ToyasCard.lean, 'card_holds'). Laid BY PROGRAM, IN A SANDBOX (cutbox-door.mjs). By AI agents, Wed Nov 11 2026. No macro, syntax, notation, axiom, sorry.
-/
import Derived.Test.YtcogknbbbjnaiaaGreatDoorRows
import GoSem.ClaimSeven
namespace Go.Proofs.YtcogknbbbjnaiaaGreatDoor
namespace Rows

/-- THE TIED CARD OF 'standishlaw15.ShowTells'. -/
def showTellsCard : Claim7 := { stood := { row := showTellsRow, standIns := [], harness := (true, "bf510e05e27d22c2d68f773118970e35a63d6137b958257de51e20dfd5f87ec7"), looks := false }, kinds := [], alts := [], laidByText := true, laidKinds := [.data, .data, .data], laidTests := true, laidLooks := .later }
def ShowTellsCardSaid : Prop := Claim7.holds Tryz.pinned (.plain (OpenSpec.ofChange showTellsSpec)) showTellsCard

/-- THE SECOND FORM's CARD OF 'standishlaw15.ShowTells'. -/
def showTellsUptoCard : Claim7 := { stood := { row := showTellsUptoRow, standIns := [], harness := (true, "bf510e05e27d22c2d68f773118970e35a63d6137b958257de51e20dfd5f87ec7"), looks := false }, kinds := [], alts := [], laidByText := true, laidKinds := [.data, .data, .data], laidTests := true, laidLooks := .later }
def ShowTellsUptoCardSaid : Prop := Claim7.holds Tryz.pinned (.plain (OpenSpec.upto showTellsSpec)) showTellsUptoCard
end Rows
end Go.Proofs.YtcogknbbbjnaiaaGreatDoor
