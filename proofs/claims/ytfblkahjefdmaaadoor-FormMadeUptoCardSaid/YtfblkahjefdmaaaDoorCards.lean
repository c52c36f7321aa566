/-
  DERIVED. GIVEN WITH THE SEED: THE CARDS: each row of YtfblkahjefdmaaaDoorRows.lean that lists a variable, with what it lists TIED to the program's text (the seventh form; the later family's looks); each row that meets fmt, with fmt's text TOLD by the authors' own Lean function (tested against real Go, not proved from fmt's source: count such statements apart). THE CARD IS WHAT COUNTS. Prove the row's statement (the work); the ties are given (YtfblkahjefdmaaaDoorTie.lean); close each card by the builder's one call (the guide's Derived/Test/ToyasCard.lean, 'card_holds'). Laid BY PROGRAM, IN A SANDBOX (cutbox-door.mjs). By AI agents, Wed Nov 11 2026. No macro, syntax, notation, axiom, sorry.
-/
import Derived.Test.YtfblkahjefdmaaaDoorRows
import GoSem.ClaimSeven
namespace Go.Proofs.YtfblkahjefdmaaaDoor
namespace Rows

/-- THE TIED CARD OF 'standishlaw11.FormTells'. -/
def formTellsCard : Claim7 := { stood := { row := formTellsRow, standIns := [], harness := (true, "743b5b2bd294ce9d74c4babbfdbfd52fa73d1f8ab4d5d4af623e931ec50d76e0"), looks := true }, kinds := [], alts := [], laidByText := true, laidKinds := [.data, .data, .data, .sentinel, .sentinel], laidTests := true, laidLooks := .later }
def FormTellsCardSaid : Prop := Claim7.holds Tryd.pinned (.plain (OpenSpec.ofChange formTellsSpec)) formTellsCard

/-- THE TIED CARD OF 'standishlaw11.FormMade'. -/
def formMadeCard : Claim7 := { stood := { row := formMadeRow, standIns := [], harness := (true, "743b5b2bd294ce9d74c4babbfdbfd52fa73d1f8ab4d5d4af623e931ec50d76e0"), looks := true }, kinds := [], alts := [], laidByText := true, laidKinds := [.data, .data, .data, .sentinel, .sentinel], laidTests := true, laidLooks := .later }
def FormMadeCardSaid : Prop := Claim7.holds Tryd.pinned (.plain (OpenSpec.ofChange formMadeSpec)) formMadeCard

/-- THE TIED CARD OF 'standishlaw11.FormBack'. -/
def formBackCard : Claim7 := { stood := { row := formBackRow, standIns := [], harness := (true, "743b5b2bd294ce9d74c4babbfdbfd52fa73d1f8ab4d5d4af623e931ec50d76e0"), looks := true }, kinds := [], alts := [], laidByText := true, laidKinds := [.data, .data, .data, .sentinel, .sentinel], laidTests := true, laidLooks := .later }
def FormBackCardSaid : Prop := Claim7.holds Tryd.pinned (.plain (OpenSpec.ofChange formBackSpec)) formBackCard

/-- THE TIED CARD OF 'standishlaw11.FormFree'. -/
def formFreeCard : Claim7 := { stood := { row := formFreeRow, standIns := [], harness := (true, "743b5b2bd294ce9d74c4babbfdbfd52fa73d1f8ab4d5d4af623e931ec50d76e0"), looks := true }, kinds := [], alts := [], laidByText := true, laidKinds := [.data, .data, .data, .sentinel, .sentinel], laidTests := true, laidLooks := .later }
def FormFreeCardSaid : Prop := Claim7.holds Tryd.pinned (.plain (OpenSpec.ofChange formFreeSpec)) formFreeCard

/-- THE TIED CARD OF 'standishlaw11.FormNumbers'. -/
def formNumbersCard : Claim7 := { stood := { row := formNumbersRow, standIns := [], harness := (true, "743b5b2bd294ce9d74c4babbfdbfd52fa73d1f8ab4d5d4af623e931ec50d76e0"), looks := true }, kinds := [], alts := [], laidByText := true, laidKinds := [.data, .data, .data, .sentinel, .sentinel], laidTests := true, laidLooks := .later }
def FormNumbersCardSaid : Prop := Claim7.holds Tryd.pinned (.plain (OpenSpec.ofChange formNumbersSpec)) formNumbersCard

/-- THE SECOND FORM's CARD OF 'standishlaw11.FormTells'. -/
def formTellsUptoCard : Claim7 := { stood := { row := formTellsUptoRow, standIns := [], harness := (true, "743b5b2bd294ce9d74c4babbfdbfd52fa73d1f8ab4d5d4af623e931ec50d76e0"), looks := true }, kinds := [], alts := [], laidByText := true, laidKinds := [.data, .data, .data, .sentinel, .sentinel], laidTests := true, laidLooks := .later }
def FormTellsUptoCardSaid : Prop := Claim7.holds Tryd.pinned (.plain (OpenSpec.upto formTellsSpec)) formTellsUptoCard

/-- THE SECOND FORM's CARD OF 'standishlaw11.FormMade'. -/
def formMadeUptoCard : Claim7 := { stood := { row := formMadeUptoRow, standIns := [], harness := (true, "743b5b2bd294ce9d74c4babbfdbfd52fa73d1f8ab4d5d4af623e931ec50d76e0"), looks := true }, kinds := [], alts := [], laidByText := true, laidKinds := [.data, .data, .data, .sentinel, .sentinel], laidTests := true, laidLooks := .later }
def FormMadeUptoCardSaid : Prop := Claim7.holds Tryd.pinned (.plain (OpenSpec.upto formMadeSpec)) formMadeUptoCard

/-- THE SECOND FORM's CARD OF 'standishlaw11.FormBack'. -/
def formBackUptoCard : Claim7 := { stood := { row := formBackUptoRow, standIns := [], harness := (true, "743b5b2bd294ce9d74c4babbfdbfd52fa73d1f8ab4d5d4af623e931ec50d76e0"), looks := true }, kinds := [], alts := [], laidByText := true, laidKinds := [.data, .data, .data, .sentinel, .sentinel], laidTests := true, laidLooks := .later }
def FormBackUptoCardSaid : Prop := Claim7.holds Tryd.pinned (.plain (OpenSpec.upto formBackSpec)) formBackUptoCard

/-- THE SECOND FORM's CARD OF 'standishlaw11.FormFree'. -/
def formFreeUptoCard : Claim7 := { stood := { row := formFreeUptoRow, standIns := [], harness := (true, "743b5b2bd294ce9d74c4babbfdbfd52fa73d1f8ab4d5d4af623e931ec50d76e0"), looks := true }, kinds := [], alts := [], laidByText := true, laidKinds := [.data, .data, .data, .sentinel, .sentinel], laidTests := true, laidLooks := .later }
def FormFreeUptoCardSaid : Prop := Claim7.holds Tryd.pinned (.plain (OpenSpec.upto formFreeSpec)) formFreeUptoCard

/-- THE SECOND FORM's CARD OF 'standishlaw11.FormNumbers'. -/
def formNumbersUptoCard : Claim7 := { stood := { row := formNumbersUptoRow, standIns := [], harness := (true, "743b5b2bd294ce9d74c4babbfdbfd52fa73d1f8ab4d5d4af623e931ec50d76e0"), looks := true }, kinds := [], alts := [], laidByText := true, laidKinds := [.data, .data, .data, .sentinel, .sentinel], laidTests := true, laidLooks := .later }
def FormNumbersUptoCardSaid : Prop := Claim7.holds Tryd.pinned (.plain (OpenSpec.upto formNumbersSpec)) formNumbersUptoCard
end Rows
end Go.Proofs.YtfblkahjefdmaaaDoor
