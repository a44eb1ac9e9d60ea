/-
  DERIVED. GIVEN WITH THE SEED: THE CARDS: each row of YtobhjlchpnpleaaGreatDoorRows.lean that lists a variable, with what it lists TIED to the program's text (the seventh form; the later family's looks); each row that meets fmt, with fmt's text TOLD by the authors' own Lean function (tested against real Go, not proved from fmt's source: count such statements apart). THE CARD IS WHAT COUNTS. Prove the row's statement (the work); the ties are given (YtobhjlchpnpleaaGreatDoorTie.lean); close each card by the builder's one call (the guide's Derived/Test/ToyasCard.lean, 'card_holds'). Laid BY PROGRAM, IN A SANDBOX (cutbox-door.mjs). By AI agents, Wed Nov 11 2026. No macro, syntax, notation, axiom, sorry.
-/
import Derived.Test.YtobhjlchpnpleaaGreatDoorRows
import GoSem.ClaimSeven
namespace Go.Proofs.YtobhjlchpnpleaaGreatDoor
namespace Rows

/-- THE TIED CARD OF 'quiverlaw12.Concats'. -/
def concatsCard : Claim7 := { stood := { row := concatsRow, standIns := [], harness := (true, "9b8391bc1551773e368ee446468776c7410d3a80eeafc025ee02588a8ab5ab2b"), looks := true }, kinds := [], alts := [], laidByText := true, laidKinds := [.data, .data, .data, .sentinel, .sentinel], laidTests := true, laidLooks := .later }
def ConcatsCardSaid : Prop := Claim7.holds Tryz.pinned (.plain (OpenSpec.ofChange concatsSpec)) concatsCard

/-- THE TIED CARD OF 'quiverlaw12.ConcatRows'. -/
def concatRowsCard : Claim7 := { stood := { row := concatRowsRow, standIns := [], harness := (true, "9b8391bc1551773e368ee446468776c7410d3a80eeafc025ee02588a8ab5ab2b"), looks := true }, kinds := [], alts := [], laidByText := true, laidKinds := [.data, .data, .data, .sentinel, .sentinel], laidTests := true, laidLooks := .later }
def ConcatRowsCardSaid : Prop := Claim7.holds Tryz.pinned (.plain (OpenSpec.ofChange concatRowsSpec)) concatRowsCard

/-- THE TIED CARD OF 'quiverlaw12.ConcatThree'. -/
def concatThreeCard : Claim7 := { stood := { row := concatThreeRow, standIns := [], harness := (true, "9b8391bc1551773e368ee446468776c7410d3a80eeafc025ee02588a8ab5ab2b"), looks := true }, kinds := [], alts := [], laidByText := true, laidKinds := [.data, .data, .data, .sentinel, .sentinel], laidTests := true, laidLooks := .later }
def ConcatThreeCardSaid : Prop := Claim7.holds Tryz.pinned (.plain (OpenSpec.ofChange concatThreeSpec)) concatThreeCard

/-- THE TIED CARD OF 'quiverlaw12.ConcatFull'. -/
def concatFullCard : Claim7 := { stood := { row := concatFullRow, standIns := [], harness := (true, "9b8391bc1551773e368ee446468776c7410d3a80eeafc025ee02588a8ab5ab2b"), looks := true }, kinds := [], alts := [], laidByText := true, laidKinds := [.data, .data, .data, .sentinel, .sentinel], laidTests := true, laidLooks := .later }
def ConcatFullCardSaid : Prop := Claim7.holds Tryz.pinned (.plain (OpenSpec.ofChange concatFullSpec)) concatFullCard

/-- THE TIED CARD OF 'quiverlaw12.ConcatParts'. -/
def concatPartsCard : Claim7 := { stood := { row := concatPartsRow, standIns := [], harness := (true, "9b8391bc1551773e368ee446468776c7410d3a80eeafc025ee02588a8ab5ab2b"), looks := true }, kinds := [], alts := [], laidByText := true, laidKinds := [.data, .data, .data, .sentinel, .sentinel], laidTests := true, laidLooks := .later }
def ConcatPartsCardSaid : Prop := Claim7.holds Tryz.pinned (.plain (OpenSpec.ofChange concatPartsSpec)) concatPartsCard

/-- THE TIED CARD OF 'quiverlaw13.Takes'. -/
def takesCard : Claim7 := { stood := { row := takesRow, standIns := [], harness := (true, "9b8391bc1551773e368ee446468776c7410d3a80eeafc025ee02588a8ab5ab2b"), looks := true }, kinds := [], alts := [], laidByText := true, laidKinds := [.data, .data, .data, .sentinel, .sentinel], laidTests := true, laidLooks := .later }
def TakesCardSaid : Prop := Claim7.holds Tryz.pinned (.plain (OpenSpec.ofChange takesSpec)) takesCard

/-- THE TIED CARD OF 'quiverlaw13.TakeTwice'. -/
def takeTwiceCard : Claim7 := { stood := { row := takeTwiceRow, standIns := [], harness := (true, "9b8391bc1551773e368ee446468776c7410d3a80eeafc025ee02588a8ab5ab2b"), looks := true }, kinds := [], alts := [], laidByText := true, laidKinds := [.data, .data, .data, .sentinel, .sentinel], laidTests := true, laidLooks := .later }
def TakeTwiceCardSaid : Prop := Claim7.holds Tryz.pinned (.plain (OpenSpec.ofChange takeTwiceSpec)) takeTwiceCard

/-- THE TIED CARD OF 'quiverlaw13.TakeRows'. -/
def takeRowsCard : Claim7 := { stood := { row := takeRowsRow, standIns := [], harness := (true, "9b8391bc1551773e368ee446468776c7410d3a80eeafc025ee02588a8ab5ab2b"), looks := true }, kinds := [], alts := [], laidByText := true, laidKinds := [.data, .data, .data, .sentinel, .sentinel], laidTests := true, laidLooks := .later }
def TakeRowsCardSaid : Prop := Claim7.holds Tryz.pinned (.plain (OpenSpec.ofChange takeRowsSpec)) takeRowsCard

/-- THE TIED CARD OF 'quiverlaw13.TakeForms'. -/
def takeFormsCard : Claim7 := { stood := { row := takeFormsRow, standIns := [], harness := (true, "9b8391bc1551773e368ee446468776c7410d3a80eeafc025ee02588a8ab5ab2b"), looks := true }, kinds := [], alts := [], laidByText := true, laidKinds := [.data, .data, .data, .sentinel, .sentinel], laidTests := true, laidLooks := .later }
def TakeFormsCardSaid : Prop := Claim7.holds Tryz.pinned (.plain (OpenSpec.ofChange takeFormsSpec)) takeFormsCard

/-- THE TIED CARD OF 'quiverlaw13.TakeSlice'. -/
def takeSliceCard : Claim7 := { stood := { row := takeSliceRow, standIns := [], harness := (true, "9b8391bc1551773e368ee446468776c7410d3a80eeafc025ee02588a8ab5ab2b"), looks := true }, kinds := [], alts := [], laidByText := true, laidKinds := [.data, .data, .data, .sentinel, .sentinel], laidTests := true, laidLooks := .later }
def TakeSliceCardSaid : Prop := Claim7.holds Tryz.pinned (.plain (OpenSpec.ofChange takeSliceSpec)) takeSliceCard

/-- THE SECOND FORM's CARD OF 'quiverlaw12.Concats'. -/
def concatsUptoCard : Claim7 := { stood := { row := concatsUptoRow, standIns := [], harness := (true, "9b8391bc1551773e368ee446468776c7410d3a80eeafc025ee02588a8ab5ab2b"), looks := true }, kinds := [], alts := [], laidByText := true, laidKinds := [.data, .data, .data, .sentinel, .sentinel], laidTests := true, laidLooks := .later }
def ConcatsUptoCardSaid : Prop := Claim7.holds Tryz.pinned (.plain (OpenSpec.upto concatsSpec)) concatsUptoCard

/-- THE SECOND FORM's CARD OF 'quiverlaw12.ConcatRows'. -/
def concatRowsUptoCard : Claim7 := { stood := { row := concatRowsUptoRow, standIns := [], harness := (true, "9b8391bc1551773e368ee446468776c7410d3a80eeafc025ee02588a8ab5ab2b"), looks := true }, kinds := [], alts := [], laidByText := true, laidKinds := [.data, .data, .data, .sentinel, .sentinel], laidTests := true, laidLooks := .later }
def ConcatRowsUptoCardSaid : Prop := Claim7.holds Tryz.pinned (.plain (OpenSpec.upto concatRowsSpec)) concatRowsUptoCard

/-- THE SECOND FORM's CARD OF 'quiverlaw12.ConcatThree'. -/
def concatThreeUptoCard : Claim7 := { stood := { row := concatThreeUptoRow, standIns := [], harness := (true, "9b8391bc1551773e368ee446468776c7410d3a80eeafc025ee02588a8ab5ab2b"), looks := true }, kinds := [], alts := [], laidByText := true, laidKinds := [.data, .data, .data, .sentinel, .sentinel], laidTests := true, laidLooks := .later }
def ConcatThreeUptoCardSaid : Prop := Claim7.holds Tryz.pinned (.plain (OpenSpec.upto concatThreeSpec)) concatThreeUptoCard

/-- THE SECOND FORM's CARD OF 'quiverlaw12.ConcatFull'. -/
def concatFullUptoCard : Claim7 := { stood := { row := concatFullUptoRow, standIns := [], harness := (true, "9b8391bc1551773e368ee446468776c7410d3a80eeafc025ee02588a8ab5ab2b"), looks := true }, kinds := [], alts := [], laidByText := true, laidKinds := [.data, .data, .data, .sentinel, .sentinel], laidTests := true, laidLooks := .later }
def ConcatFullUptoCardSaid : Prop := Claim7.holds Tryz.pinned (.plain (OpenSpec.upto concatFullSpec)) concatFullUptoCard

/-- THE SECOND FORM's CARD OF 'quiverlaw12.ConcatParts'. -/
def concatPartsUptoCard : Claim7 := { stood := { row := concatPartsUptoRow, standIns := [], harness := (true, "9b8391bc1551773e368ee446468776c7410d3a80eeafc025ee02588a8ab5ab2b"), looks := true }, kinds := [], alts := [], laidByText := true, laidKinds := [.data, .data, .data, .sentinel, .sentinel], laidTests := true, laidLooks := .later }
def ConcatPartsUptoCardSaid : Prop := Claim7.holds Tryz.pinned (.plain (OpenSpec.upto concatPartsSpec)) concatPartsUptoCard

/-- THE SECOND FORM's CARD OF 'quiverlaw13.Takes'. -/
def takesUptoCard : Claim7 := { stood := { row := takesUptoRow, standIns := [], harness := (true, "9b8391bc1551773e368ee446468776c7410d3a80eeafc025ee02588a8ab5ab2b"), looks := true }, kinds := [], alts := [], laidByText := true, laidKinds := [.data, .data, .data, .sentinel, .sentinel], laidTests := true, laidLooks := .later }
def TakesUptoCardSaid : Prop := Claim7.holds Tryz.pinned (.plain (OpenSpec.upto takesSpec)) takesUptoCard

/-- THE SECOND FORM's CARD OF 'quiverlaw13.TakeTwice'. -/
def takeTwiceUptoCard : Claim7 := { stood := { row := takeTwiceUptoRow, standIns := [], harness := (true, "9b8391bc1551773e368ee446468776c7410d3a80eeafc025ee02588a8ab5ab2b"), looks := true }, kinds := [], alts := [], laidByText := true, laidKinds := [.data, .data, .data, .sentinel, .sentinel], laidTests := true, laidLooks := .later }
def TakeTwiceUptoCardSaid : Prop := Claim7.holds Tryz.pinned (.plain (OpenSpec.upto takeTwiceSpec)) takeTwiceUptoCard

/-- THE SECOND FORM's CARD OF 'quiverlaw13.TakeRows'. -/
def takeRowsUptoCard : Claim7 := { stood := { row := takeRowsUptoRow, standIns := [], harness := (true, "9b8391bc1551773e368ee446468776c7410d3a80eeafc025ee02588a8ab5ab2b"), looks := true }, kinds := [], alts := [], laidByText := true, laidKinds := [.data, .data, .data, .sentinel, .sentinel], laidTests := true, laidLooks := .later }
def TakeRowsUptoCardSaid : Prop := Claim7.holds Tryz.pinned (.plain (OpenSpec.upto takeRowsSpec)) takeRowsUptoCard

/-- THE SECOND FORM's CARD OF 'quiverlaw13.TakeForms'. -/
def takeFormsUptoCard : Claim7 := { stood := { row := takeFormsUptoRow, standIns := [], harness := (true, "9b8391bc1551773e368ee446468776c7410d3a80eeafc025ee02588a8ab5ab2b"), looks := true }, kinds := [], alts := [], laidByText := true, laidKinds := [.data, .data, .data, .sentinel, .sentinel], laidTests := true, laidLooks := .later }
def TakeFormsUptoCardSaid : Prop := Claim7.holds Tryz.pinned (.plain (OpenSpec.upto takeFormsSpec)) takeFormsUptoCard

/-- THE SECOND FORM's CARD OF 'quiverlaw13.TakeSlice'. -/
def takeSliceUptoCard : Claim7 := { stood := { row := takeSliceUptoRow, standIns := [], harness := (true, "9b8391bc1551773e368ee446468776c7410d3a80eeafc025ee02588a8ab5ab2b"), looks := true }, kinds := [], alts := [], laidByText := true, laidKinds := [.data, .data, .data, .sentinel, .sentinel], laidTests := true, laidLooks := .later }
def TakeSliceUptoCardSaid : Prop := Claim7.holds Tryz.pinned (.plain (OpenSpec.upto takeSliceSpec)) takeSliceUptoCard
end Rows
end Go.Proofs.YtobhjlchpnpleaaGreatDoor
