/-
  DERIVED. GIVEN WITH THE SEED: THE CARDS: each row of YtiepomeokhjcfaaDoorRows.lean that lists a variable, with what it lists TIED to the program's text (the seventh form; the later family's looks); each row that meets fmt, with fmt's text TOLD by the authors' own Lean function (tested against real Go, not proved from fmt's source: count such statements apart). THE CARD IS WHAT COUNTS. Prove the row's statement (the work); the ties are given (YtiepomeokhjcfaaDoorTie.lean); close each card by the builder's one call (the guide's Derived/Test/ToyasCard.lean, 'card_holds'). Laid BY PROGRAM, IN A SANDBOX (cutbox-door.mjs). By AI agents, Wed Nov 11 2026. No macro, syntax, notation, axiom, sorry.
-/
import Derived.Test.YtiepomeokhjcfaaDoorRows
import GoSem.ClaimSeven
namespace Go.Proofs.YtiepomeokhjcfaaDoor
namespace Rows

/-- THE TIED CARD OF 'flotillalaw25.SetsNames'. -/
def setsNamesCard : Claim7 := { stood := { row := setsNamesRow, standIns := [], harness := (true, "9f0b2c44d8545857a093ceba63f5388a17251ebad8341c8bedef989ee29aa231"), looks := true }, kinds := [], alts := [], laidByText := true, laidKinds := [.data, .data, .data], laidTests := true, laidLooks := .later }
def SetsNamesCardSaid : Prop := Claim7.holds Tryd.pinned (.plain (OpenSpec.ofChange setsNamesSpec)) setsNamesCard

/-- THE TIED CARD OF 'flotillalaw08.ObjectFilled'. -/
def objectFilledCard : Claim7 := { stood := { row := objectFilledRow, standIns := [], harness := (true, "9f0b2c44d8545857a093ceba63f5388a17251ebad8341c8bedef989ee29aa231"), looks := true }, kinds := [], alts := [], laidByText := true, laidKinds := [.handle], laidTests := true, laidLooks := .later }
def ObjectFilledCardSaid : Prop := Claim7.holds Tryd.pinned (.plain (OpenSpec.ofChange objectFilledSpec)) objectFilledCard

/-- THE TIED CARD OF 'flotillalaw08.ObjectTurned'. -/
def objectTurnedCard : Claim7 := { stood := { row := objectTurnedRow, standIns := [], harness := (true, "9f0b2c44d8545857a093ceba63f5388a17251ebad8341c8bedef989ee29aa231"), looks := true }, kinds := [], alts := [], laidByText := true, laidKinds := [.handle], laidTests := true, laidLooks := .later }
def ObjectTurnedCardSaid : Prop := Claim7.holds Tryd.pinned (.plain (OpenSpec.ofChange objectTurnedSpec)) objectTurnedCard

/-- THE TIED CARD OF 'flotillalaw08.ObjectSelf'. -/
def objectSelfCard : Claim7 := { stood := { row := objectSelfRow, standIns := [], harness := (true, "9f0b2c44d8545857a093ceba63f5388a17251ebad8341c8bedef989ee29aa231"), looks := true }, kinds := [], alts := [], laidByText := true, laidKinds := [.handle], laidTests := true, laidLooks := .later }
def ObjectSelfCardSaid : Prop := Claim7.holds Tryd.pinned (.plain (OpenSpec.ofChange objectSelfSpec)) objectSelfCard

/-- THE TIED CARD OF 'flotillalaw25.SetsSettle'. -/
def setsSettleCard : Claim7 := { stood := { row := setsSettleRow, standIns := [], harness := (true, "9f0b2c44d8545857a093ceba63f5388a17251ebad8341c8bedef989ee29aa231"), looks := true }, kinds := [], alts := [], laidByText := true, laidKinds := [.data, .data, .data, .data, .pinned], laidTests := true, laidLooks := .later }
def SetsSettleCardSaid : Prop := Claim7.holds Tryd.pinned (.plain (OpenSpec.ofChange setsSettleSpec)) setsSettleCard

/-- THE TIED CARD OF 'flotillalaw25.SetsKnown'. -/
def setsKnownCard : Claim7 := { stood := { row := setsKnownRow, standIns := [], harness := (true, "9f0b2c44d8545857a093ceba63f5388a17251ebad8341c8bedef989ee29aa231"), looks := true }, kinds := [], alts := [], laidByText := true, laidKinds := [.data, .data, .data, .data, .pinned], laidTests := true, laidLooks := .later }
def SetsKnownCardSaid : Prop := Claim7.holds Tryd.pinned (.plain (OpenSpec.ofChange setsKnownSpec)) setsKnownCard

/-- THE SECOND FORM's CARD OF 'flotillalaw25.SetsNames'. -/
def setsNamesUptoCard : Claim7 := { stood := { row := setsNamesUptoRow, standIns := [], harness := (true, "9f0b2c44d8545857a093ceba63f5388a17251ebad8341c8bedef989ee29aa231"), looks := true }, kinds := [], alts := [], laidByText := true, laidKinds := [.data, .data, .data], laidTests := true, laidLooks := .later }
def SetsNamesUptoCardSaid : Prop := Claim7.holds Tryd.pinned (.plain (OpenSpec.upto setsNamesSpec)) setsNamesUptoCard

/-- THE SECOND FORM's CARD OF 'flotillalaw08.ObjectFilled'. -/
def objectFilledUptoCard : Claim7 := { stood := { row := objectFilledUptoRow, standIns := [], harness := (true, "9f0b2c44d8545857a093ceba63f5388a17251ebad8341c8bedef989ee29aa231"), looks := true }, kinds := [], alts := [], laidByText := true, laidKinds := [.handle], laidTests := true, laidLooks := .later }
def ObjectFilledUptoCardSaid : Prop := Claim7.holds Tryd.pinned (.plain (OpenSpec.upto objectFilledSpec)) objectFilledUptoCard

/-- THE SECOND FORM's CARD OF 'flotillalaw08.ObjectTurned'. -/
def objectTurnedUptoCard : Claim7 := { stood := { row := objectTurnedUptoRow, standIns := [], harness := (true, "9f0b2c44d8545857a093ceba63f5388a17251ebad8341c8bedef989ee29aa231"), looks := true }, kinds := [], alts := [], laidByText := true, laidKinds := [.handle], laidTests := true, laidLooks := .later }
def ObjectTurnedUptoCardSaid : Prop := Claim7.holds Tryd.pinned (.plain (OpenSpec.upto objectTurnedSpec)) objectTurnedUptoCard

/-- THE SECOND FORM's CARD OF 'flotillalaw08.ObjectSelf'. -/
def objectSelfUptoCard : Claim7 := { stood := { row := objectSelfUptoRow, standIns := [], harness := (true, "9f0b2c44d8545857a093ceba63f5388a17251ebad8341c8bedef989ee29aa231"), looks := true }, kinds := [], alts := [], laidByText := true, laidKinds := [.handle], laidTests := true, laidLooks := .later }
def ObjectSelfUptoCardSaid : Prop := Claim7.holds Tryd.pinned (.plain (OpenSpec.upto objectSelfSpec)) objectSelfUptoCard

/-- THE SECOND FORM's CARD OF 'flotillalaw25.SetsSettle'. -/
def setsSettleUptoCard : Claim7 := { stood := { row := setsSettleUptoRow, standIns := [], harness := (true, "9f0b2c44d8545857a093ceba63f5388a17251ebad8341c8bedef989ee29aa231"), looks := true }, kinds := [], alts := [], laidByText := true, laidKinds := [.data, .data, .data, .data, .pinned], laidTests := true, laidLooks := .later }
def SetsSettleUptoCardSaid : Prop := Claim7.holds Tryd.pinned (.plain (OpenSpec.upto setsSettleSpec)) setsSettleUptoCard

/-- THE SECOND FORM's CARD OF 'flotillalaw25.SetsKnown'. -/
def setsKnownUptoCard : Claim7 := { stood := { row := setsKnownUptoRow, standIns := [], harness := (true, "9f0b2c44d8545857a093ceba63f5388a17251ebad8341c8bedef989ee29aa231"), looks := true }, kinds := [], alts := [], laidByText := true, laidKinds := [.data, .data, .data, .data, .pinned], laidTests := true, laidLooks := .later }
def SetsKnownUptoCardSaid : Prop := Claim7.holds Tryd.pinned (.plain (OpenSpec.upto setsKnownSpec)) setsKnownUptoCard
end Rows
end Go.Proofs.YtiepomeokhjcfaaDoor
