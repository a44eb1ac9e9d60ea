/-
  DERIVED. GIVEN WITH THE SEED: THE CARDS: each row of YtlllflacnlgigaaDoorRows.lean that lists a variable, with what it lists TIED to the program's text (the seventh form; the later family's looks); each row that meets fmt, with fmt's text TOLD by the authors' own Lean function (tested against real Go, not proved from fmt's source: count such statements apart). THE CARD IS WHAT COUNTS. Prove the row's statement (the work); the ties are given (YtlllflacnlgigaaDoorTie.lean); close each card by the builder's one call (the guide's Derived/Test/ToyasCard.lean, 'card_holds'). Laid BY PROGRAM, IN A SANDBOX (cutbox-door.mjs). By AI agents, Wed Nov 11 2026. No macro, syntax, notation, axiom, sorry.
-/
import Derived.Test.YtlllflacnlgigaaDoorRows
import GoSem.ClaimSeven
namespace Go.Proofs.YtlllflacnlgigaaDoor
namespace Rows

/-- THE TIED CARD OF 'quiverlaw7.ValueBack'. -/
def valueBackCard : Claim7 := { stood := { row := valueBackRow, standIns := [], harness := (true, "4bb06f1ffdb3439265ab7b32d729b6c0ef3793fdd90c3fc71f0adb71ebd91cfd"), looks := true }, kinds := [], alts := [], laidByText := true, laidKinds := [.data, .data, .data, .sentinel, .sentinel], laidTests := true, laidLooks := .later }
def ValueBackCardSaid : Prop := Claim7.holds Tryd.pinned (.plain (OpenSpec.ofChange valueBackSpec)) valueBackCard

/-- THE TIED CARD OF 'quiverlaw7.ValueForms'. -/
def valueFormsCard : Claim7 := { stood := { row := valueFormsRow, standIns := [], harness := (true, "4bb06f1ffdb3439265ab7b32d729b6c0ef3793fdd90c3fc71f0adb71ebd91cfd"), looks := true }, kinds := [], alts := [], laidByText := true, laidKinds := [.data, .data, .data, .sentinel, .sentinel], laidTests := true, laidLooks := .later }
def ValueFormsCardSaid : Prop := Claim7.holds Tryd.pinned (.plain (OpenSpec.ofChange valueFormsSpec)) valueFormsCard

/-- THE TIED CARD OF 'quiverlaw7.ValueTable'. -/
def valueTableCard : Claim7 := { stood := { row := valueTableRow, standIns := [], harness := (true, "4bb06f1ffdb3439265ab7b32d729b6c0ef3793fdd90c3fc71f0adb71ebd91cfd"), looks := true }, kinds := [], alts := [], laidByText := true, laidKinds := [.data, .data, .data, .sentinel, .sentinel], laidTests := true, laidLooks := .later }
def ValueTableCardSaid : Prop := Claim7.holds Tryd.pinned (.plain (OpenSpec.ofChange valueTableSpec)) valueTableCard

/-- THE TIED CARD OF 'quiverlaw7.ValueFits'. -/
def valueFitsCard : Claim7 := { stood := { row := valueFitsRow, standIns := [], harness := (true, "4bb06f1ffdb3439265ab7b32d729b6c0ef3793fdd90c3fc71f0adb71ebd91cfd"), looks := true }, kinds := [], alts := [], laidByText := true, laidKinds := [.data, .data, .data, .sentinel, .sentinel], laidTests := true, laidLooks := .later }
def ValueFitsCardSaid : Prop := Claim7.holds Tryd.pinned (.plain (OpenSpec.ofChange valueFitsSpec)) valueFitsCard

/-- THE TIED CARD OF 'quiverlaw7.ValueMake'. -/
def valueMakeCard : Claim7 := { stood := { row := valueMakeRow, standIns := [], harness := (true, "4bb06f1ffdb3439265ab7b32d729b6c0ef3793fdd90c3fc71f0adb71ebd91cfd"), looks := true }, kinds := [], alts := [], laidByText := true, laidKinds := [.data, .data, .data, .sentinel, .sentinel], laidTests := true, laidLooks := .later }
def ValueMakeCardSaid : Prop := Claim7.holds Tryd.pinned (.plain (OpenSpec.ofChange valueMakeSpec)) valueMakeCard

/-- THE TIED CARD OF 'quiverlaw7.ValueInts'. -/
def valueIntsCard : Claim7 := { stood := { row := valueIntsRow, standIns := [], harness := (true, "4bb06f1ffdb3439265ab7b32d729b6c0ef3793fdd90c3fc71f0adb71ebd91cfd"), looks := true }, kinds := [], alts := [], laidByText := true, laidKinds := [.data, .data, .data, .sentinel, .sentinel], laidTests := true, laidLooks := .later }
def ValueIntsCardSaid : Prop := Claim7.holds Tryd.pinned (.plain (OpenSpec.ofChange valueIntsSpec)) valueIntsCard

/-- THE TIED CARD OF 'quiverlaw10.BuildForms'. -/
def buildFormsCard : Claim7 := { stood := { row := buildFormsRow, standIns := [], harness := (true, "4bb06f1ffdb3439265ab7b32d729b6c0ef3793fdd90c3fc71f0adb71ebd91cfd"), looks := true }, kinds := [], alts := [], laidByText := true, laidKinds := [.data, .data, .data, .sentinel, .sentinel], laidTests := true, laidLooks := .later }
def BuildFormsCardSaid : Prop := Claim7.holds Tryd.pinned (.plain (OpenSpec.ofChange buildFormsSpec)) buildFormsCard

/-- THE TIED CARD OF 'quiverlaw10.BuildZeros'. -/
def buildZerosCard : Claim7 := { stood := { row := buildZerosRow, standIns := [], harness := (true, "4bb06f1ffdb3439265ab7b32d729b6c0ef3793fdd90c3fc71f0adb71ebd91cfd"), looks := true }, kinds := [], alts := [], laidByText := true, laidKinds := [.data, .data, .data, .sentinel, .sentinel], laidTests := true, laidLooks := .later }
def BuildZerosCardSaid : Prop := Claim7.holds Tryd.pinned (.plain (OpenSpec.ofChange buildZerosSpec)) buildZerosCard

/-- THE TIED CARD OF 'quiverlaw10.BuildBools'. -/
def buildBoolsCard : Claim7 := { stood := { row := buildBoolsRow, standIns := [], harness := (true, "4bb06f1ffdb3439265ab7b32d729b6c0ef3793fdd90c3fc71f0adb71ebd91cfd"), looks := true }, kinds := [], alts := [], laidByText := true, laidKinds := [.data, .data, .data, .sentinel, .sentinel], laidTests := true, laidLooks := .later }
def BuildBoolsCardSaid : Prop := Claim7.holds Tryd.pinned (.plain (OpenSpec.ofChange buildBoolsSpec)) buildBoolsCard

/-- THE TIED CARD OF 'quiverlaw10.BuildUnlike'. -/
def buildUnlikeCard : Claim7 := { stood := { row := buildUnlikeRow, standIns := [], harness := (true, "4bb06f1ffdb3439265ab7b32d729b6c0ef3793fdd90c3fc71f0adb71ebd91cfd"), looks := true }, kinds := [], alts := [], laidByText := true, laidKinds := [.data, .data, .data, .sentinel, .sentinel], laidTests := true, laidLooks := .later }
def BuildUnlikeCardSaid : Prop := Claim7.holds Tryd.pinned (.plain (OpenSpec.ofChange buildUnlikeSpec)) buildUnlikeCard

/-- THE SECOND FORM's CARD OF 'quiverlaw7.ValueBack'. -/
def valueBackUptoCard : Claim7 := { stood := { row := valueBackUptoRow, standIns := [], harness := (true, "4bb06f1ffdb3439265ab7b32d729b6c0ef3793fdd90c3fc71f0adb71ebd91cfd"), looks := true }, kinds := [], alts := [], laidByText := true, laidKinds := [.data, .data, .data, .sentinel, .sentinel], laidTests := true, laidLooks := .later }
def ValueBackUptoCardSaid : Prop := Claim7.holds Tryd.pinned (.plain (OpenSpec.upto valueBackSpec)) valueBackUptoCard

/-- THE SECOND FORM's CARD OF 'quiverlaw7.ValueForms'. -/
def valueFormsUptoCard : Claim7 := { stood := { row := valueFormsUptoRow, standIns := [], harness := (true, "4bb06f1ffdb3439265ab7b32d729b6c0ef3793fdd90c3fc71f0adb71ebd91cfd"), looks := true }, kinds := [], alts := [], laidByText := true, laidKinds := [.data, .data, .data, .sentinel, .sentinel], laidTests := true, laidLooks := .later }
def ValueFormsUptoCardSaid : Prop := Claim7.holds Tryd.pinned (.plain (OpenSpec.upto valueFormsSpec)) valueFormsUptoCard

/-- THE SECOND FORM's CARD OF 'quiverlaw7.ValueTable'. -/
def valueTableUptoCard : Claim7 := { stood := { row := valueTableUptoRow, standIns := [], harness := (true, "4bb06f1ffdb3439265ab7b32d729b6c0ef3793fdd90c3fc71f0adb71ebd91cfd"), looks := true }, kinds := [], alts := [], laidByText := true, laidKinds := [.data, .data, .data, .sentinel, .sentinel], laidTests := true, laidLooks := .later }
def ValueTableUptoCardSaid : Prop := Claim7.holds Tryd.pinned (.plain (OpenSpec.upto valueTableSpec)) valueTableUptoCard

/-- THE SECOND FORM's CARD OF 'quiverlaw7.ValueFits'. -/
def valueFitsUptoCard : Claim7 := { stood := { row := valueFitsUptoRow, standIns := [], harness := (true, "4bb06f1ffdb3439265ab7b32d729b6c0ef3793fdd90c3fc71f0adb71ebd91cfd"), looks := true }, kinds := [], alts := [], laidByText := true, laidKinds := [.data, .data, .data, .sentinel, .sentinel], laidTests := true, laidLooks := .later }
def ValueFitsUptoCardSaid : Prop := Claim7.holds Tryd.pinned (.plain (OpenSpec.upto valueFitsSpec)) valueFitsUptoCard

/-- THE SECOND FORM's CARD OF 'quiverlaw7.ValueMake'. -/
def valueMakeUptoCard : Claim7 := { stood := { row := valueMakeUptoRow, standIns := [], harness := (true, "4bb06f1ffdb3439265ab7b32d729b6c0ef3793fdd90c3fc71f0adb71ebd91cfd"), looks := true }, kinds := [], alts := [], laidByText := true, laidKinds := [.data, .data, .data, .sentinel, .sentinel], laidTests := true, laidLooks := .later }
def ValueMakeUptoCardSaid : Prop := Claim7.holds Tryd.pinned (.plain (OpenSpec.upto valueMakeSpec)) valueMakeUptoCard

/-- THE SECOND FORM's CARD OF 'quiverlaw7.ValueInts'. -/
def valueIntsUptoCard : Claim7 := { stood := { row := valueIntsUptoRow, standIns := [], harness := (true, "4bb06f1ffdb3439265ab7b32d729b6c0ef3793fdd90c3fc71f0adb71ebd91cfd"), looks := true }, kinds := [], alts := [], laidByText := true, laidKinds := [.data, .data, .data, .sentinel, .sentinel], laidTests := true, laidLooks := .later }
def ValueIntsUptoCardSaid : Prop := Claim7.holds Tryd.pinned (.plain (OpenSpec.upto valueIntsSpec)) valueIntsUptoCard

/-- THE SECOND FORM's CARD OF 'quiverlaw10.BuildForms'. -/
def buildFormsUptoCard : Claim7 := { stood := { row := buildFormsUptoRow, standIns := [], harness := (true, "4bb06f1ffdb3439265ab7b32d729b6c0ef3793fdd90c3fc71f0adb71ebd91cfd"), looks := true }, kinds := [], alts := [], laidByText := true, laidKinds := [.data, .data, .data, .sentinel, .sentinel], laidTests := true, laidLooks := .later }
def BuildFormsUptoCardSaid : Prop := Claim7.holds Tryd.pinned (.plain (OpenSpec.upto buildFormsSpec)) buildFormsUptoCard

/-- THE SECOND FORM's CARD OF 'quiverlaw10.BuildZeros'. -/
def buildZerosUptoCard : Claim7 := { stood := { row := buildZerosUptoRow, standIns := [], harness := (true, "4bb06f1ffdb3439265ab7b32d729b6c0ef3793fdd90c3fc71f0adb71ebd91cfd"), looks := true }, kinds := [], alts := [], laidByText := true, laidKinds := [.data, .data, .data, .sentinel, .sentinel], laidTests := true, laidLooks := .later }
def BuildZerosUptoCardSaid : Prop := Claim7.holds Tryd.pinned (.plain (OpenSpec.upto buildZerosSpec)) buildZerosUptoCard

/-- THE SECOND FORM's CARD OF 'quiverlaw10.BuildBools'. -/
def buildBoolsUptoCard : Claim7 := { stood := { row := buildBoolsUptoRow, standIns := [], harness := (true, "4bb06f1ffdb3439265ab7b32d729b6c0ef3793fdd90c3fc71f0adb71ebd91cfd"), looks := true }, kinds := [], alts := [], laidByText := true, laidKinds := [.data, .data, .data, .sentinel, .sentinel], laidTests := true, laidLooks := .later }
def BuildBoolsUptoCardSaid : Prop := Claim7.holds Tryd.pinned (.plain (OpenSpec.upto buildBoolsSpec)) buildBoolsUptoCard

/-- THE SECOND FORM's CARD OF 'quiverlaw10.BuildUnlike'. -/
def buildUnlikeUptoCard : Claim7 := { stood := { row := buildUnlikeUptoRow, standIns := [], harness := (true, "4bb06f1ffdb3439265ab7b32d729b6c0ef3793fdd90c3fc71f0adb71ebd91cfd"), looks := true }, kinds := [], alts := [], laidByText := true, laidKinds := [.data, .data, .data, .sentinel, .sentinel], laidTests := true, laidLooks := .later }
def BuildUnlikeUptoCardSaid : Prop := Claim7.holds Tryd.pinned (.plain (OpenSpec.upto buildUnlikeSpec)) buildUnlikeUptoCard
end Rows
end Go.Proofs.YtlllflacnlgigaaDoor
