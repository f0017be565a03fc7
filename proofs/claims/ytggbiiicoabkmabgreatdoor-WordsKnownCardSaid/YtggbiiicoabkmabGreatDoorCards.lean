/-
  DERIVED. GIVEN WITH THE SEED: THE CARDS: each row of YtggbiiicoabkmabGreatDoorRows.lean that lists a variable, with what it lists TIED to the program's text (the seventh form; the later family's looks); each row that meets fmt, with fmt's text TOLD by the authors' own Lean function (tested against real Go, not proved from fmt's source: count such statements apart). THE CARD IS WHAT COUNTS. Prove the row's statement (the work); the ties are given (YtggbiiicoabkmabGreatDoorTie.lean); close each card by the builder's one call (the guide's Derived/Test/ToyasCard.lean, 'card_holds'). Laid BY PROGRAM, IN A SANDBOX (cutbox-door.mjs). By AI agents, Wed Nov 11 2026. No macro, syntax, notation, axiom, sorry.
-/
import Derived.Test.YtggbiiicoabkmabGreatDoorRows
import GoSem.ClaimSeven
namespace Go.Proofs.YtggbiiicoabkmabGreatDoor
namespace Rows

/-- THE TIED CARD OF 'flotillalaw02.LabelsKnown'. -/
def labelsKnownCard : Claim7 := { stood := { row := labelsKnownRow, standIns := [], harness := (true, "3333e18ea4a5c0db8127a492b5f9c21704ef7b4fd38eda9cb39c2d9d6f4e4ffc"), looks := true }, kinds := [], alts := [], laidByText := true, laidKinds := [.data, .handle, .pinned], laidTests := true, laidLooks := .later }
def LabelsKnownCardSaid : Prop := Claim7.holds Tryz.pinned (.plain (OpenSpec.ofChange labelsKnownSpec)) labelsKnownCard

/-- THE TIED CARD OF 'flotillalaw01.WordsKnown'. -/
def wordsKnownCard : Claim7 := { stood := { row := wordsKnownRow, standIns := [], harness := (true, "3333e18ea4a5c0db8127a492b5f9c21704ef7b4fd38eda9cb39c2d9d6f4e4ffc"), looks := true }, kinds := [], alts := [], laidByText := true, laidKinds := [.data, .data, .data, .data, .handle, .sentinel, .sentinel, .pinned], laidTests := true, laidLooks := .later }
def WordsKnownCardSaid : Prop := Claim7.holds Tryz.pinned (.plain (OpenSpec.ofChange wordsKnownSpec)) wordsKnownCard

/-- THE SECOND FORM's CARD OF 'flotillalaw02.LabelsKnown'. -/
def labelsKnownUptoCard : Claim7 := { stood := { row := labelsKnownUptoRow, standIns := [], harness := (true, "3333e18ea4a5c0db8127a492b5f9c21704ef7b4fd38eda9cb39c2d9d6f4e4ffc"), looks := true }, kinds := [], alts := [], laidByText := true, laidKinds := [.data, .handle, .pinned], laidTests := true, laidLooks := .later }
def LabelsKnownUptoCardSaid : Prop := Claim7.holds Tryz.pinned (.plain (OpenSpec.upto labelsKnownSpec)) labelsKnownUptoCard

/-- THE SECOND FORM's CARD OF 'flotillalaw01.WordsKnown'. -/
def wordsKnownUptoCard : Claim7 := { stood := { row := wordsKnownUptoRow, standIns := [], harness := (true, "3333e18ea4a5c0db8127a492b5f9c21704ef7b4fd38eda9cb39c2d9d6f4e4ffc"), looks := true }, kinds := [], alts := [], laidByText := true, laidKinds := [.data, .data, .data, .data, .handle, .sentinel, .sentinel, .pinned], laidTests := true, laidLooks := .later }
def WordsKnownUptoCardSaid : Prop := Claim7.holds Tryz.pinned (.plain (OpenSpec.upto wordsKnownSpec)) wordsKnownUptoCard
end Rows
end Go.Proofs.YtggbiiicoabkmabGreatDoor
