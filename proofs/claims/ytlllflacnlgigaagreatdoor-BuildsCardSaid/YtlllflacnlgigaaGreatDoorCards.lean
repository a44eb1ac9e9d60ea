/-
  DERIVED. GIVEN WITH THE SEED: THE CARDS: each row of YtlllflacnlgigaaGreatDoorRows.lean that lists a variable, with what it lists TIED to the program's text (the seventh form; the later family's looks); each row that meets fmt, with fmt's text TOLD by the authors' own Lean function (tested against real Go, not proved from fmt's source: count such statements apart). THE CARD IS WHAT COUNTS. Prove the row's statement (the work); the ties are given (YtlllflacnlgigaaGreatDoorTie.lean); close each card by the builder's one call (the guide's Derived/Test/ToyasCard.lean, 'card_holds'). Laid BY PROGRAM, IN A SANDBOX (cutbox-door.mjs). By AI agents, Wed Nov 11 2026. No macro, syntax, notation, axiom, sorry.
-/
import Derived.Test.YtlllflacnlgigaaGreatDoorRows
import GoSem.ClaimSeven
namespace Go.Proofs.YtlllflacnlgigaaGreatDoor
namespace Rows

/-- THE TIED CARD OF 'quiverlaw7.Values'. -/
def valuesCard : Claim7 := { stood := { row := valuesRow, standIns := [], harness := (true, "f1ff550e623655b10e84aeabcfe7375b92bf7e23076465610f3061144532135b"), looks := true }, kinds := [], alts := [], laidByText := true, laidKinds := [.data, .data, .data, .sentinel, .sentinel], laidTests := true, laidLooks := .later }
def ValuesCardSaid : Prop := Claim7.holds Tryz.pinned (.plain (OpenSpec.ofChange valuesSpec)) valuesCard

/-- THE TIED CARD OF 'quiverlaw10.Builds'. -/
def buildsCard : Claim7 := { stood := { row := buildsRow, standIns := [], harness := (true, "f1ff550e623655b10e84aeabcfe7375b92bf7e23076465610f3061144532135b"), looks := true }, kinds := [], alts := [], laidByText := true, laidKinds := [.data, .data, .data, .sentinel, .sentinel], laidTests := true, laidLooks := .later }
def BuildsCardSaid : Prop := Claim7.holds Tryz.pinned (.plain (OpenSpec.ofChange buildsSpec)) buildsCard

/-- THE TIED CARD OF 'quiverlaw10.BuildBack'. -/
def buildBackCard : Claim7 := { stood := { row := buildBackRow, standIns := [], harness := (true, "f1ff550e623655b10e84aeabcfe7375b92bf7e23076465610f3061144532135b"), looks := true }, kinds := [], alts := [], laidByText := true, laidKinds := [.data, .data, .data, .sentinel, .sentinel], laidTests := true, laidLooks := .later }
def BuildBackCardSaid : Prop := Claim7.holds Tryz.pinned (.plain (OpenSpec.ofChange buildBackSpec)) buildBackCard

/-- THE SECOND FORM's CARD OF 'quiverlaw7.Values'. -/
def valuesUptoCard : Claim7 := { stood := { row := valuesUptoRow, standIns := [], harness := (true, "f1ff550e623655b10e84aeabcfe7375b92bf7e23076465610f3061144532135b"), looks := true }, kinds := [], alts := [], laidByText := true, laidKinds := [.data, .data, .data, .sentinel, .sentinel], laidTests := true, laidLooks := .later }
def ValuesUptoCardSaid : Prop := Claim7.holds Tryz.pinned (.plain (OpenSpec.upto valuesSpec)) valuesUptoCard

/-- THE SECOND FORM's CARD OF 'quiverlaw10.Builds'. -/
def buildsUptoCard : Claim7 := { stood := { row := buildsUptoRow, standIns := [], harness := (true, "f1ff550e623655b10e84aeabcfe7375b92bf7e23076465610f3061144532135b"), looks := true }, kinds := [], alts := [], laidByText := true, laidKinds := [.data, .data, .data, .sentinel, .sentinel], laidTests := true, laidLooks := .later }
def BuildsUptoCardSaid : Prop := Claim7.holds Tryz.pinned (.plain (OpenSpec.upto buildsSpec)) buildsUptoCard

/-- THE SECOND FORM's CARD OF 'quiverlaw10.BuildBack'. -/
def buildBackUptoCard : Claim7 := { stood := { row := buildBackUptoRow, standIns := [], harness := (true, "f1ff550e623655b10e84aeabcfe7375b92bf7e23076465610f3061144532135b"), looks := true }, kinds := [], alts := [], laidByText := true, laidKinds := [.data, .data, .data, .sentinel, .sentinel], laidTests := true, laidLooks := .later }
def BuildBackUptoCardSaid : Prop := Claim7.holds Tryz.pinned (.plain (OpenSpec.upto buildBackSpec)) buildBackUptoCard
end Rows
end Go.Proofs.YtlllflacnlgigaaGreatDoor
