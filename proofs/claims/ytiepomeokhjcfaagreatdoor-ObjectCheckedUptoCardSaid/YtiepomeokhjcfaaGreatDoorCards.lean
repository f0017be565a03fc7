/-
  DERIVED. GIVEN WITH THE SEED: THE CARDS: each row of YtiepomeokhjcfaaGreatDoorRows.lean that lists a variable, with what it lists TIED to the program's text (the seventh form; the later family's looks); each row that meets fmt, with fmt's text TOLD by the authors' own Lean function (tested against real Go, not proved from fmt's source: count such statements apart). THE CARD IS WHAT COUNTS. Prove the row's statement (the work); the ties are given (YtiepomeokhjcfaaGreatDoorTie.lean); close each card by the builder's one call (the guide's Derived/Test/ToyasCard.lean, 'card_holds'). Laid BY PROGRAM, IN A SANDBOX (cutbox-door.mjs). By AI agents, Wed Nov 11 2026. No macro, syntax, notation, axiom, sorry.
-/
import Derived.Test.YtiepomeokhjcfaaGreatDoorRows
import GoSem.ClaimSeven
namespace Go.Proofs.YtiepomeokhjcfaaGreatDoor
namespace Rows

/-- THE TIED CARD OF 'flotillalaw08.ObjectChecked'. -/
def objectCheckedCard : Claim7 := { stood := { row := objectCheckedRow, standIns := [], harness := (true, "42b40888156f048759e4c43b06dede4889919085f11df8ae4c2e1a7279a05536"), looks := true }, kinds := [], alts := [], laidByText := true, laidKinds := [.handle], laidTests := true, laidLooks := .later }
def ObjectCheckedCardSaid : Prop := Claim7.holds Tryz.pinned (.plain (OpenSpec.ofChange objectCheckedSpec)) objectCheckedCard

/-- THE TIED CARD OF 'flotillalaw08.ObjectUpdated'. -/
def objectUpdatedCard : Claim7 := { stood := { row := objectUpdatedRow, standIns := [], harness := (true, "42b40888156f048759e4c43b06dede4889919085f11df8ae4c2e1a7279a05536"), looks := true }, kinds := [], alts := [], laidByText := true, laidKinds := [.handle], laidTests := true, laidLooks := .later }
def ObjectUpdatedCardSaid : Prop := Claim7.holds Tryz.pinned (.plain (OpenSpec.ofChange objectUpdatedSpec)) objectUpdatedCard

/-- THE TIED CARD OF 'flotillalaw25.SetsPlan'. -/
def setsPlanCard : Claim7 := { stood := { row := setsPlanRow, standIns := [], harness := (true, "42b40888156f048759e4c43b06dede4889919085f11df8ae4c2e1a7279a05536"), looks := true }, kinds := [], alts := [], laidByText := true, laidKinds := [.data, .data, .data, .data, .pinned], laidTests := true, laidLooks := .later }
def SetsPlanCardSaid : Prop := Claim7.holds Tryz.pinned (.plain (OpenSpec.ofChange setsPlanSpec)) setsPlanCard

/-- THE TIED CARD OF 'flotillalaw08.ObjectOrder'. -/
def objectOrderCard : Claim7 := { stood := { row := objectOrderRow, standIns := [], harness := (true, "42b40888156f048759e4c43b06dede4889919085f11df8ae4c2e1a7279a05536"), looks := true }, kinds := [], alts := [], laidByText := true, laidKinds := [.data, .handle, .pinned], laidTests := true, laidLooks := .later }
def ObjectOrderCardSaid : Prop := Claim7.holds Tryz.pinned (.plain (OpenSpec.ofChange objectOrderSpec)) objectOrderCard

/-- THE TIED CARD OF 'flotillalaw08.ObjectKnown'. -/
def objectKnownCard : Claim7 := { stood := { row := objectKnownRow, standIns := [], harness := (true, "42b40888156f048759e4c43b06dede4889919085f11df8ae4c2e1a7279a05536"), looks := true }, kinds := [], alts := [], laidByText := true, laidKinds := [.data, .handle, .pinned], laidTests := true, laidLooks := .later }
def ObjectKnownCardSaid : Prop := Claim7.holds Tryz.pinned (.plain (OpenSpec.ofChange objectKnownSpec)) objectKnownCard

/-- THE SECOND FORM's CARD OF 'flotillalaw08.ObjectChecked'. -/
def objectCheckedUptoCard : Claim7 := { stood := { row := objectCheckedUptoRow, standIns := [], harness := (true, "42b40888156f048759e4c43b06dede4889919085f11df8ae4c2e1a7279a05536"), looks := true }, kinds := [], alts := [], laidByText := true, laidKinds := [.handle], laidTests := true, laidLooks := .later }
def ObjectCheckedUptoCardSaid : Prop := Claim7.holds Tryz.pinned (.plain (OpenSpec.upto objectCheckedSpec)) objectCheckedUptoCard

/-- THE SECOND FORM's CARD OF 'flotillalaw08.ObjectUpdated'. -/
def objectUpdatedUptoCard : Claim7 := { stood := { row := objectUpdatedUptoRow, standIns := [], harness := (true, "42b40888156f048759e4c43b06dede4889919085f11df8ae4c2e1a7279a05536"), looks := true }, kinds := [], alts := [], laidByText := true, laidKinds := [.handle], laidTests := true, laidLooks := .later }
def ObjectUpdatedUptoCardSaid : Prop := Claim7.holds Tryz.pinned (.plain (OpenSpec.upto objectUpdatedSpec)) objectUpdatedUptoCard

/-- THE SECOND FORM's CARD OF 'flotillalaw25.SetsPlan'. -/
def setsPlanUptoCard : Claim7 := { stood := { row := setsPlanUptoRow, standIns := [], harness := (true, "42b40888156f048759e4c43b06dede4889919085f11df8ae4c2e1a7279a05536"), looks := true }, kinds := [], alts := [], laidByText := true, laidKinds := [.data, .data, .data, .data, .pinned], laidTests := true, laidLooks := .later }
def SetsPlanUptoCardSaid : Prop := Claim7.holds Tryz.pinned (.plain (OpenSpec.upto setsPlanSpec)) setsPlanUptoCard

/-- THE SECOND FORM's CARD OF 'flotillalaw08.ObjectOrder'. -/
def objectOrderUptoCard : Claim7 := { stood := { row := objectOrderUptoRow, standIns := [], harness := (true, "42b40888156f048759e4c43b06dede4889919085f11df8ae4c2e1a7279a05536"), looks := true }, kinds := [], alts := [], laidByText := true, laidKinds := [.data, .handle, .pinned], laidTests := true, laidLooks := .later }
def ObjectOrderUptoCardSaid : Prop := Claim7.holds Tryz.pinned (.plain (OpenSpec.upto objectOrderSpec)) objectOrderUptoCard

/-- THE SECOND FORM's CARD OF 'flotillalaw08.ObjectKnown'. -/
def objectKnownUptoCard : Claim7 := { stood := { row := objectKnownUptoRow, standIns := [], harness := (true, "42b40888156f048759e4c43b06dede4889919085f11df8ae4c2e1a7279a05536"), looks := true }, kinds := [], alts := [], laidByText := true, laidKinds := [.data, .handle, .pinned], laidTests := true, laidLooks := .later }
def ObjectKnownUptoCardSaid : Prop := Claim7.holds Tryz.pinned (.plain (OpenSpec.upto objectKnownSpec)) objectKnownUptoCard
end Rows
end Go.Proofs.YtiepomeokhjcfaaGreatDoor
