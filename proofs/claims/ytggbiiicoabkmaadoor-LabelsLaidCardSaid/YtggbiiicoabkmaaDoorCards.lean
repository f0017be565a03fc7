/-
  DERIVED. GIVEN WITH THE SEED: THE CARDS: each row of YtggbiiicoabkmaaDoorRows.lean that lists a variable, with what it lists TIED to the program's text (the seventh form; the later family's looks); each row that meets fmt, with fmt's text TOLD by the authors' own Lean function (tested against real Go, not proved from fmt's source: count such statements apart). THE CARD IS WHAT COUNTS. Prove the row's statement (the work); the ties are given (YtggbiiicoabkmaaDoorTie.lean); close each card by the builder's one call (the guide's Derived/Test/ToyasCard.lean, 'card_holds'). Laid BY PROGRAM, IN A SANDBOX (cutbox-door.mjs). By AI agents, Wed Nov 11 2026. No macro, syntax, notation, axiom, sorry.
-/
import Derived.Test.YtggbiiicoabkmaaDoorRows
import GoSem.ClaimSeven
namespace Go.Proofs.YtggbiiicoabkmaaDoor
namespace Rows

/-- THE TIED CARD OF 'flotillalaw02.LabelsPrinted'. -/
def labelsPrintedCard : Claim7 := { stood := { row := labelsPrintedRow, standIns := [], harness := (true, "1bbf33266e1916574e981965c66f14c813c2c029b1f7835d58cd42a7acaf5bdb"), looks := true }, kinds := [], alts := [], laidByText := true, laidKinds := [.handle], laidTests := true, laidLooks := .later }
def LabelsPrintedCardSaid : Prop := Claim7.holds Tryd.pinned (.plain (OpenSpec.ofChange labelsPrintedSpec)) labelsPrintedCard

/-- THE TIED CARD OF 'flotillalaw02.LabelsThere'. -/
def labelsThereCard : Claim7 := { stood := { row := labelsThereRow, standIns := [], harness := (true, "1bbf33266e1916574e981965c66f14c813c2c029b1f7835d58cd42a7acaf5bdb"), looks := true }, kinds := [], alts := [], laidByText := true, laidKinds := [.data, .pinned], laidTests := true, laidLooks := .later }
def LabelsThereCardSaid : Prop := Claim7.holds Tryd.pinned (.plain (OpenSpec.ofChange labelsThereSpec)) labelsThereCard

/-- THE TIED CARD OF 'flotillalaw02.LabelsBack'. -/
def labelsBackCard : Claim7 := { stood := { row := labelsBackRow, standIns := [], harness := (true, "1bbf33266e1916574e981965c66f14c813c2c029b1f7835d58cd42a7acaf5bdb"), looks := true }, kinds := [], alts := [], laidByText := true, laidKinds := [.data, .pinned], laidTests := true, laidLooks := .later }
def LabelsBackCardSaid : Prop := Claim7.holds Tryd.pinned (.plain (OpenSpec.ofChange labelsBackSpec)) labelsBackCard

/-- THE TIED CARD OF 'flotillalaw02.LabelsParsed'. -/
def labelsParsedCard : Claim7 := { stood := { row := labelsParsedRow, standIns := [], harness := (true, "1bbf33266e1916574e981965c66f14c813c2c029b1f7835d58cd42a7acaf5bdb"), looks := true }, kinds := [], alts := [], laidByText := true, laidKinds := [.data, .handle, .pinned], laidTests := true, laidLooks := .later }
def LabelsParsedCardSaid : Prop := Claim7.holds Tryd.pinned (.plain (OpenSpec.ofChange labelsParsedSpec)) labelsParsedCard

/-- THE TIED CARD OF 'flotillalaw02.LabelsChecked'. -/
def labelsCheckedCard : Claim7 := { stood := { row := labelsCheckedRow, standIns := [], harness := (true, "1bbf33266e1916574e981965c66f14c813c2c029b1f7835d58cd42a7acaf5bdb"), looks := true }, kinds := [], alts := [], laidByText := true, laidKinds := [.handle], laidTests := true, laidLooks := .later }
def LabelsCheckedCardSaid : Prop := Claim7.holds Tryd.pinned (.plain (OpenSpec.ofChange labelsCheckedSpec)) labelsCheckedCard

/-- THE TIED CARD OF 'flotillalaw02.LabelsMerged'. -/
def labelsMergedCard : Claim7 := { stood := { row := labelsMergedRow, standIns := [], harness := (true, "1bbf33266e1916574e981965c66f14c813c2c029b1f7835d58cd42a7acaf5bdb"), looks := true }, kinds := [], alts := [], laidByText := true, laidKinds := [.handle], laidTests := true, laidLooks := .later }
def LabelsMergedCardSaid : Prop := Claim7.holds Tryd.pinned (.plain (OpenSpec.ofChange labelsMergedSpec)) labelsMergedCard

/-- THE TIED CARD OF 'flotillalaw01.WordsNumbered'. -/
def wordsNumberedCard : Claim7 := { stood := { row := wordsNumberedRow, standIns := [], harness := (true, "1bbf33266e1916574e981965c66f14c813c2c029b1f7835d58cd42a7acaf5bdb"), looks := true }, kinds := [], alts := [], laidByText := true, laidKinds := [.data, .data, .data, .handle, .sentinel, .sentinel], laidTests := true, laidLooks := .later }
def WordsNumberedCardSaid : Prop := Claim7.holds Tryd.pinned (.plain (OpenSpec.ofChange wordsNumberedSpec)) wordsNumberedCard

/-- THE TIED CARD OF 'flotillalaw02.LabelsSorted'. -/
def labelsSortedCard : Claim7 := { stood := { row := labelsSortedRow, standIns := [], harness := (true, "1bbf33266e1916574e981965c66f14c813c2c029b1f7835d58cd42a7acaf5bdb"), looks := true }, kinds := [], alts := [], laidByText := true, laidKinds := [.data, .pinned], laidTests := true, laidLooks := .later }
def LabelsSortedCardSaid : Prop := Claim7.holds Tryd.pinned (.plain (OpenSpec.ofChange labelsSortedSpec)) labelsSortedCard

/-- THE TIED CARD OF 'flotillalaw01.WordsOrder'. -/
def wordsOrderCard : Claim7 := { stood := { row := wordsOrderRow, standIns := [], harness := (true, "1bbf33266e1916574e981965c66f14c813c2c029b1f7835d58cd42a7acaf5bdb"), looks := true }, kinds := [], alts := [], laidByText := true, laidKinds := [.data, .data, .data, .data, .sentinel, .sentinel, .pinned], laidTests := true, laidLooks := .later }
def WordsOrderCardSaid : Prop := Claim7.holds Tryd.pinned (.plain (OpenSpec.ofChange wordsOrderSpec)) wordsOrderCard

/-- THE TIED CARD OF 'flotillalaw01.WordsBack'. -/
def wordsBackCard : Claim7 := { stood := { row := wordsBackRow, standIns := [], harness := (true, "1bbf33266e1916574e981965c66f14c813c2c029b1f7835d58cd42a7acaf5bdb"), looks := true }, kinds := [], alts := [], laidByText := true, laidKinds := [.data, .data, .data, .data, .sentinel, .sentinel, .pinned], laidTests := true, laidLooks := .later }
def WordsBackCardSaid : Prop := Claim7.holds Tryd.pinned (.plain (OpenSpec.ofChange wordsBackSpec)) wordsBackCard

/-- THE TIED CARD OF 'flotillalaw02.LabelsLaid'. -/
def labelsLaidCard : Claim7 := { stood := { row := labelsLaidRow, standIns := [], harness := (true, "1bbf33266e1916574e981965c66f14c813c2c029b1f7835d58cd42a7acaf5bdb"), looks := true }, kinds := [], alts := [], laidByText := true, laidKinds := [.data, .handle, .pinned], laidTests := true, laidLooks := .later }
def LabelsLaidCardSaid : Prop := Claim7.holds Tryd.pinned (.plain (OpenSpec.ofChange labelsLaidSpec)) labelsLaidCard

/-- THE SECOND FORM's CARD OF 'flotillalaw02.LabelsPrinted'. -/
def labelsPrintedUptoCard : Claim7 := { stood := { row := labelsPrintedUptoRow, standIns := [], harness := (true, "1bbf33266e1916574e981965c66f14c813c2c029b1f7835d58cd42a7acaf5bdb"), looks := true }, kinds := [], alts := [], laidByText := true, laidKinds := [.handle], laidTests := true, laidLooks := .later }
def LabelsPrintedUptoCardSaid : Prop := Claim7.holds Tryd.pinned (.plain (OpenSpec.upto labelsPrintedSpec)) labelsPrintedUptoCard

/-- THE SECOND FORM's CARD OF 'flotillalaw02.LabelsThere'. -/
def labelsThereUptoCard : Claim7 := { stood := { row := labelsThereUptoRow, standIns := [], harness := (true, "1bbf33266e1916574e981965c66f14c813c2c029b1f7835d58cd42a7acaf5bdb"), looks := true }, kinds := [], alts := [], laidByText := true, laidKinds := [.data, .pinned], laidTests := true, laidLooks := .later }
def LabelsThereUptoCardSaid : Prop := Claim7.holds Tryd.pinned (.plain (OpenSpec.upto labelsThereSpec)) labelsThereUptoCard

/-- THE SECOND FORM's CARD OF 'flotillalaw02.LabelsBack'. -/
def labelsBackUptoCard : Claim7 := { stood := { row := labelsBackUptoRow, standIns := [], harness := (true, "1bbf33266e1916574e981965c66f14c813c2c029b1f7835d58cd42a7acaf5bdb"), looks := true }, kinds := [], alts := [], laidByText := true, laidKinds := [.data, .pinned], laidTests := true, laidLooks := .later }
def LabelsBackUptoCardSaid : Prop := Claim7.holds Tryd.pinned (.plain (OpenSpec.upto labelsBackSpec)) labelsBackUptoCard

/-- THE SECOND FORM's CARD OF 'flotillalaw02.LabelsParsed'. -/
def labelsParsedUptoCard : Claim7 := { stood := { row := labelsParsedUptoRow, standIns := [], harness := (true, "1bbf33266e1916574e981965c66f14c813c2c029b1f7835d58cd42a7acaf5bdb"), looks := true }, kinds := [], alts := [], laidByText := true, laidKinds := [.data, .handle, .pinned], laidTests := true, laidLooks := .later }
def LabelsParsedUptoCardSaid : Prop := Claim7.holds Tryd.pinned (.plain (OpenSpec.upto labelsParsedSpec)) labelsParsedUptoCard

/-- THE SECOND FORM's CARD OF 'flotillalaw02.LabelsChecked'. -/
def labelsCheckedUptoCard : Claim7 := { stood := { row := labelsCheckedUptoRow, standIns := [], harness := (true, "1bbf33266e1916574e981965c66f14c813c2c029b1f7835d58cd42a7acaf5bdb"), looks := true }, kinds := [], alts := [], laidByText := true, laidKinds := [.handle], laidTests := true, laidLooks := .later }
def LabelsCheckedUptoCardSaid : Prop := Claim7.holds Tryd.pinned (.plain (OpenSpec.upto labelsCheckedSpec)) labelsCheckedUptoCard

/-- THE SECOND FORM's CARD OF 'flotillalaw02.LabelsMerged'. -/
def labelsMergedUptoCard : Claim7 := { stood := { row := labelsMergedUptoRow, standIns := [], harness := (true, "1bbf33266e1916574e981965c66f14c813c2c029b1f7835d58cd42a7acaf5bdb"), looks := true }, kinds := [], alts := [], laidByText := true, laidKinds := [.handle], laidTests := true, laidLooks := .later }
def LabelsMergedUptoCardSaid : Prop := Claim7.holds Tryd.pinned (.plain (OpenSpec.upto labelsMergedSpec)) labelsMergedUptoCard

/-- THE SECOND FORM's CARD OF 'flotillalaw01.WordsNumbered'. -/
def wordsNumberedUptoCard : Claim7 := { stood := { row := wordsNumberedUptoRow, standIns := [], harness := (true, "1bbf33266e1916574e981965c66f14c813c2c029b1f7835d58cd42a7acaf5bdb"), looks := true }, kinds := [], alts := [], laidByText := true, laidKinds := [.data, .data, .data, .handle, .sentinel, .sentinel], laidTests := true, laidLooks := .later }
def WordsNumberedUptoCardSaid : Prop := Claim7.holds Tryd.pinned (.plain (OpenSpec.upto wordsNumberedSpec)) wordsNumberedUptoCard

/-- THE SECOND FORM's CARD OF 'flotillalaw02.LabelsSorted'. -/
def labelsSortedUptoCard : Claim7 := { stood := { row := labelsSortedUptoRow, standIns := [], harness := (true, "1bbf33266e1916574e981965c66f14c813c2c029b1f7835d58cd42a7acaf5bdb"), looks := true }, kinds := [], alts := [], laidByText := true, laidKinds := [.data, .pinned], laidTests := true, laidLooks := .later }
def LabelsSortedUptoCardSaid : Prop := Claim7.holds Tryd.pinned (.plain (OpenSpec.upto labelsSortedSpec)) labelsSortedUptoCard

/-- THE SECOND FORM's CARD OF 'flotillalaw01.WordsOrder'. -/
def wordsOrderUptoCard : Claim7 := { stood := { row := wordsOrderUptoRow, standIns := [], harness := (true, "1bbf33266e1916574e981965c66f14c813c2c029b1f7835d58cd42a7acaf5bdb"), looks := true }, kinds := [], alts := [], laidByText := true, laidKinds := [.data, .data, .data, .data, .sentinel, .sentinel, .pinned], laidTests := true, laidLooks := .later }
def WordsOrderUptoCardSaid : Prop := Claim7.holds Tryd.pinned (.plain (OpenSpec.upto wordsOrderSpec)) wordsOrderUptoCard

/-- THE SECOND FORM's CARD OF 'flotillalaw01.WordsBack'. -/
def wordsBackUptoCard : Claim7 := { stood := { row := wordsBackUptoRow, standIns := [], harness := (true, "1bbf33266e1916574e981965c66f14c813c2c029b1f7835d58cd42a7acaf5bdb"), looks := true }, kinds := [], alts := [], laidByText := true, laidKinds := [.data, .data, .data, .data, .sentinel, .sentinel, .pinned], laidTests := true, laidLooks := .later }
def WordsBackUptoCardSaid : Prop := Claim7.holds Tryd.pinned (.plain (OpenSpec.upto wordsBackSpec)) wordsBackUptoCard

/-- THE SECOND FORM's CARD OF 'flotillalaw02.LabelsLaid'. -/
def labelsLaidUptoCard : Claim7 := { stood := { row := labelsLaidUptoRow, standIns := [], harness := (true, "1bbf33266e1916574e981965c66f14c813c2c029b1f7835d58cd42a7acaf5bdb"), looks := true }, kinds := [], alts := [], laidByText := true, laidKinds := [.data, .handle, .pinned], laidTests := true, laidLooks := .later }
def LabelsLaidUptoCardSaid : Prop := Claim7.holds Tryd.pinned (.plain (OpenSpec.upto labelsLaidSpec)) labelsLaidUptoCard
end Rows
end Go.Proofs.YtggbiiicoabkmaaDoor
