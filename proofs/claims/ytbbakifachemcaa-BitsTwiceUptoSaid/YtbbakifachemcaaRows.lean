/-
  No cell of these rows narrows 'for every input' (looked for: loops, veiled, ifaces, maps, wideKeys, modest, calm, conditions, laid).
  DERIVED. THE GIVEN ROWS OF THIS SEAT. 16 by the template 'for every input the law returns true; each argument reads behind the call as it read before'; 0 by the template 'total and deterministic' (their statements: YtbbakifachemcaaTotals.lean).
  GIVEN WITH THE SEED: the statements are not yours to turn. If you find one false, say at which input.
  Laid BY PROGRAM, IN A SANDBOX (cutbox-rows.mjs): the forced cells as the released guide's own fill.sh prints them over the translation b0ecfedfc9ad8c08… (all of the seat's roots in one cut). By AI agents, Wed Nov 11 2026. No macro, syntax, notation, axiom, sorry.
-/
import Derived.Test.YtbbakifachemcaaChecked
import GoSem.Claim
import GoSem.ClaimJoined
import GoSem.ClaimMapViews
import Derived.JoinedTies
import Derived.KernelRfl
namespace Go.Proofs.Ytbbakifachemcaa
/- THE CELL 'sum', in the pinned program and in every row, IS THE sha256 OF THE DUMP (.gsa) THAT YtbbakifachemcaaProg.lean LOADS. Nothing in Lean hashes anything: it is a label: what it is worth is what the hold of that sum in a sandbox is worth. -/
noncomputable def Try.pinned : Pinned := { name := "ytbbakifachemcaa", sum := "b0ecfedfc9ad8c0838e097ea6257576390b1dc0e3825a27bd0336c477f2eda43", checked := Try.checked }
namespace Rows
def none {H : Type} : Left H := { results := [], args := [] }

/-- 'quiverlaw0.QuiverNames': WHATEVER THE INPUT: true; the input reads as it did. -/
def quiverNamesSpec : ChangeSpec := { name := "quiverNames", fn := fun _ => fun
  | [] => { results := [.lit (.bool true)], args := [] }
  | _ => none }
def quiverNamesRow : OpenClaim := { program := "ytbbakifachemcaa", sum := "b0ecfedfc9ad8c0838e097ea6257576390b1dc0e3825a27bd0336c477f2eda43", func := "quiver/quiverlaw0.QuiverNames", spec := "quiverNames", apart := false }
def QuiverNamesSaid : Prop := quiverNamesRow.holds Try.pinned (OpenSpec.ofChange quiverNamesSpec)

/-- ITS FALSE NEIGHBOUR: 'it returns false'. Refute it at one input. -/
def quiverNamesWrong : ChangeSpec := { name := "quiverNames", fn := fun _ => fun
  | [] => { results := [.lit (.bool false)], args := [] }
  | _ => none }
def QuiverNamesWrongFalsely : Prop := quiverNamesRow.holds Try.pinned (OpenSpec.ofChange quiverNamesWrong)

/-- 'quiverlaw4.Crcs': WHATEVER THE INPUT: true; the input reads as it did. -/
def crcsSpec : ChangeSpec := { name := "crcs", fn := fun _ => fun
  | [d] => { results := [.lit (.bool true)], args := [d] }
  | _ => none }
def crcsRow : OpenClaim := { program := "ytbbakifachemcaa", sum := "b0ecfedfc9ad8c0838e097ea6257576390b1dc0e3825a27bd0336c477f2eda43", func := "quiver/quiverlaw4.Crcs", spec := "crcs", apart := false }
def CrcsSaid : Prop := crcsRow.holds Try.pinned (OpenSpec.ofChange crcsSpec)

/-- ITS FALSE NEIGHBOUR: 'it returns false'. Refute it at one input. -/
def crcsWrong : ChangeSpec := { name := "crcs", fn := fun _ => fun
  | [d] => { results := [.lit (.bool false)], args := [d] }
  | _ => none }
def CrcsWrongFalsely : Prop := crcsRow.holds Try.pinned (OpenSpec.ofChange crcsWrong)

/-- 'quiverlaw4.CrcBurst': WHATEVER THE INPUT: true; the input reads as it did. -/
def crcBurstSpec : ChangeSpec := { name := "crcBurst", fn := fun _ => fun
  | [d1, d2, d3] => { results := [.lit (.bool true)], args := [d1, d2, d3] }
  | _ => none }
def crcBurstRow : OpenClaim := { program := "ytbbakifachemcaa", sum := "b0ecfedfc9ad8c0838e097ea6257576390b1dc0e3825a27bd0336c477f2eda43", func := "quiver/quiverlaw4.CrcBurst", spec := "crcBurst", apart := false }
def CrcBurstSaid : Prop := crcBurstRow.holds Try.pinned (OpenSpec.ofChange crcBurstSpec)

/-- ITS FALSE NEIGHBOUR: 'it returns false'. Refute it at one input. -/
def crcBurstWrong : ChangeSpec := { name := "crcBurst", fn := fun _ => fun
  | [d1, d2, d3] => { results := [.lit (.bool false)], args := [d1, d2, d3] }
  | _ => none }
def CrcBurstWrongFalsely : Prop := crcBurstRow.holds Try.pinned (OpenSpec.ofChange crcBurstWrong)

/-- 'quiverlaw4.CrcKnown': WHATEVER THE INPUT: true; the input reads as it did. -/
def crcKnownSpec : ChangeSpec := { name := "crcKnown", fn := fun _ => fun
  | [d] => { results := [.lit (.bool true)], args := [d] }
  | _ => none }
def crcKnownRow : OpenClaim := { program := "ytbbakifachemcaa", sum := "b0ecfedfc9ad8c0838e097ea6257576390b1dc0e3825a27bd0336c477f2eda43", func := "quiver/quiverlaw4.CrcKnown", spec := "crcKnown", apart := false }
def CrcKnownSaid : Prop := crcKnownRow.holds Try.pinned (OpenSpec.ofChange crcKnownSpec)

/-- ITS FALSE NEIGHBOUR: 'it returns false'. Refute it at one input. -/
def crcKnownWrong : ChangeSpec := { name := "crcKnown", fn := fun _ => fun
  | [d] => { results := [.lit (.bool false)], args := [d] }
  | _ => none }
def CrcKnownWrongFalsely : Prop := crcKnownRow.holds Try.pinned (OpenSpec.ofChange crcKnownWrong)

/-- 'quiverlaw4.CrcTurned': WHATEVER THE INPUT: true; the input reads as it did. -/
def crcTurnedSpec : ChangeSpec := { name := "crcTurned", fn := fun _ => fun
  | [d1, d2, d3] => { results := [.lit (.bool true)], args := [d1, d2, d3] }
  | _ => none }
def crcTurnedRow : OpenClaim := { program := "ytbbakifachemcaa", sum := "b0ecfedfc9ad8c0838e097ea6257576390b1dc0e3825a27bd0336c477f2eda43", func := "quiver/quiverlaw4.CrcTurned", spec := "crcTurned", apart := false }
def CrcTurnedSaid : Prop := crcTurnedRow.holds Try.pinned (OpenSpec.ofChange crcTurnedSpec)

/-- ITS FALSE NEIGHBOUR: 'it returns false'. Refute it at one input. -/
def crcTurnedWrong : ChangeSpec := { name := "crcTurned", fn := fun _ => fun
  | [d1, d2, d3] => { results := [.lit (.bool false)], args := [d1, d2, d3] }
  | _ => none }
def CrcTurnedWrongFalsely : Prop := crcTurnedRow.holds Try.pinned (OpenSpec.ofChange crcTurnedWrong)

/-- 'quiverlaw1.Pads': WHATEVER THE INPUT: true; the input reads as it did. -/
def padsSpec : ChangeSpec := { name := "pads", fn := fun _ => fun
  | [d1, d2] => { results := [.lit (.bool true)], args := [d1, d2] }
  | _ => none }
def padsRow : OpenClaim := { program := "ytbbakifachemcaa", sum := "b0ecfedfc9ad8c0838e097ea6257576390b1dc0e3825a27bd0336c477f2eda43", func := "quiver/quiverlaw1.Pads", spec := "pads", apart := false }
def PadsSaid : Prop := padsRow.holds Try.pinned (OpenSpec.ofChange padsSpec)

/-- ITS FALSE NEIGHBOUR: 'it returns false'. Refute it at one input. -/
def padsWrong : ChangeSpec := { name := "pads", fn := fun _ => fun
  | [d1, d2] => { results := [.lit (.bool false)], args := [d1, d2] }
  | _ => none }
def PadsWrongFalsely : Prop := padsRow.holds Try.pinned (OpenSpec.ofChange padsWrong)

/-- 'quiverlaw1.PadUp': WHATEVER THE INPUT: true; the input reads as it did. -/
def padUpSpec : ChangeSpec := { name := "padUp", fn := fun _ => fun
  | [d] => { results := [.lit (.bool true)], args := [d] }
  | _ => none }
def padUpRow : OpenClaim := { program := "ytbbakifachemcaa", sum := "b0ecfedfc9ad8c0838e097ea6257576390b1dc0e3825a27bd0336c477f2eda43", func := "quiver/quiverlaw1.PadUp", spec := "padUp", apart := false }
def PadUpSaid : Prop := padUpRow.holds Try.pinned (OpenSpec.ofChange padUpSpec)

/-- ITS FALSE NEIGHBOUR: 'it returns false'. Refute it at one input. -/
def padUpWrong : ChangeSpec := { name := "padUp", fn := fun _ => fun
  | [d] => { results := [.lit (.bool false)], args := [d] }
  | _ => none }
def PadUpWrongFalsely : Prop := padUpRow.holds Try.pinned (OpenSpec.ofChange padUpWrong)

/-- 'quiverlaw1.PadForms': WHATEVER THE INPUT: true; the input reads as it did. -/
def padFormsSpec : ChangeSpec := { name := "padForms", fn := fun _ => fun
  | [d1, d2] => { results := [.lit (.bool true)], args := [d1, d2] }
  | _ => none }
def padFormsRow : OpenClaim := { program := "ytbbakifachemcaa", sum := "b0ecfedfc9ad8c0838e097ea6257576390b1dc0e3825a27bd0336c477f2eda43", func := "quiver/quiverlaw1.PadForms", spec := "padForms", apart := false }
def PadFormsSaid : Prop := padFormsRow.holds Try.pinned (OpenSpec.ofChange padFormsSpec)

/-- ITS FALSE NEIGHBOUR: 'it returns false'. Refute it at one input. -/
def padFormsWrong : ChangeSpec := { name := "padForms", fn := fun _ => fun
  | [d1, d2] => { results := [.lit (.bool false)], args := [d1, d2] }
  | _ => none }
def PadFormsWrongFalsely : Prop := padFormsRow.holds Try.pinned (OpenSpec.ofChange padFormsWrong)

/-- 'quiverlaw1.PadSums': WHATEVER THE INPUT: true; the input reads as it did. -/
def padSumsSpec : ChangeSpec := { name := "padSums", fn := fun _ => fun
  | [d1, d2] => { results := [.lit (.bool true)], args := [d1, d2] }
  | _ => none }
def padSumsRow : OpenClaim := { program := "ytbbakifachemcaa", sum := "b0ecfedfc9ad8c0838e097ea6257576390b1dc0e3825a27bd0336c477f2eda43", func := "quiver/quiverlaw1.PadSums", spec := "padSums", apart := false }
def PadSumsSaid : Prop := padSumsRow.holds Try.pinned (OpenSpec.ofChange padSumsSpec)

/-- ITS FALSE NEIGHBOUR: 'it returns false'. Refute it at one input. -/
def padSumsWrong : ChangeSpec := { name := "padSums", fn := fun _ => fun
  | [d1, d2] => { results := [.lit (.bool false)], args := [d1, d2] }
  | _ => none }
def PadSumsWrongFalsely : Prop := padSumsRow.holds Try.pinned (OpenSpec.ofChange padSumsWrong)

/-- 'quiverlaw1.PadRow': WHATEVER THE INPUT: true; the input reads as it did. -/
def padRowSpec : ChangeSpec := { name := "padRow", fn := fun _ => fun
  | [d] => { results := [.lit (.bool true)], args := [d] }
  | _ => none }
def padRowRow : OpenClaim := { program := "ytbbakifachemcaa", sum := "b0ecfedfc9ad8c0838e097ea6257576390b1dc0e3825a27bd0336c477f2eda43", func := "quiver/quiverlaw1.PadRow", spec := "padRow", apart := false }
def PadRowSaid : Prop := padRowRow.holds Try.pinned (OpenSpec.ofChange padRowSpec)

/-- ITS FALSE NEIGHBOUR: 'it returns false'. Refute it at one input. -/
def padRowWrong : ChangeSpec := { name := "padRow", fn := fun _ => fun
  | [d] => { results := [.lit (.bool false)], args := [d] }
  | _ => none }
def PadRowWrongFalsely : Prop := padRowRow.holds Try.pinned (OpenSpec.ofChange padRowWrong)

/-- 'quiverlaw2.Bits': WHATEVER THE INPUT: true; the input reads as it did. -/
def bitsSpec : ChangeSpec := { name := "bits", fn := fun _ => fun
  | [d1, d2, d3, d4] => { results := [.lit (.bool true)], args := [d1, d2, d3, d4] }
  | _ => none }
def bitsRow : OpenClaim := { program := "ytbbakifachemcaa", sum := "b0ecfedfc9ad8c0838e097ea6257576390b1dc0e3825a27bd0336c477f2eda43", func := "quiver/quiverlaw2.Bits", spec := "bits", unfollowed := true, recurses := true, apart := false }
def BitsSaid : Prop := bitsRow.holds Try.pinned (OpenSpec.ofChange bitsSpec)

/-- ITS FALSE NEIGHBOUR: 'it returns false'. Refute it at one input. -/
def bitsWrong : ChangeSpec := { name := "bits", fn := fun _ => fun
  | [d1, d2, d3, d4] => { results := [.lit (.bool false)], args := [d1, d2, d3, d4] }
  | _ => none }
def BitsWrongFalsely : Prop := bitsRow.holds Try.pinned (OpenSpec.ofChange bitsWrong)

/-- 'quiverlaw2.BitsCopied': WHATEVER THE INPUT: true; the input reads as it did. -/
def bitsCopiedSpec : ChangeSpec := { name := "bitsCopied", fn := fun _ => fun
  | [d1, d2, d3] => { results := [.lit (.bool true)], args := [d1, d2, d3] }
  | _ => none }
def bitsCopiedRow : OpenClaim := { program := "ytbbakifachemcaa", sum := "b0ecfedfc9ad8c0838e097ea6257576390b1dc0e3825a27bd0336c477f2eda43", func := "quiver/quiverlaw2.BitsCopied", spec := "bitsCopied", unfollowed := true, recurses := true, apart := false }
def BitsCopiedSaid : Prop := bitsCopiedRow.holds Try.pinned (OpenSpec.ofChange bitsCopiedSpec)

/-- ITS FALSE NEIGHBOUR: 'it returns false'. Refute it at one input. -/
def bitsCopiedWrong : ChangeSpec := { name := "bitsCopied", fn := fun _ => fun
  | [d1, d2, d3] => { results := [.lit (.bool false)], args := [d1, d2, d3] }
  | _ => none }
def BitsCopiedWrongFalsely : Prop := bitsCopiedRow.holds Try.pinned (OpenSpec.ofChange bitsCopiedWrong)

/-- 'quiverlaw2.BitsForms': WHATEVER THE INPUT: true; the input reads as it did. -/
def bitsFormsSpec : ChangeSpec := { name := "bitsForms", fn := fun _ => fun
  | [d1, d2] => { results := [.lit (.bool true)], args := [d1, d2] }
  | _ => none }
def bitsFormsRow : OpenClaim := { program := "ytbbakifachemcaa", sum := "b0ecfedfc9ad8c0838e097ea6257576390b1dc0e3825a27bd0336c477f2eda43", func := "quiver/quiverlaw2.BitsForms", spec := "bitsForms", unfollowed := true, recurses := true, apart := false }
def BitsFormsSaid : Prop := bitsFormsRow.holds Try.pinned (OpenSpec.ofChange bitsFormsSpec)

/-- ITS FALSE NEIGHBOUR: 'it returns false'. Refute it at one input. -/
def bitsFormsWrong : ChangeSpec := { name := "bitsForms", fn := fun _ => fun
  | [d1, d2] => { results := [.lit (.bool false)], args := [d1, d2] }
  | _ => none }
def BitsFormsWrongFalsely : Prop := bitsFormsRow.holds Try.pinned (OpenSpec.ofChange bitsFormsWrong)

/-- 'quiverlaw2.BitsSet': WHATEVER THE INPUT: true; the input reads as it did. -/
def bitsSetSpec : ChangeSpec := { name := "bitsSet", fn := fun _ => fun
  | [d1, d2, d3] => { results := [.lit (.bool true)], args := [d1, d2, d3] }
  | _ => none }
def bitsSetRow : OpenClaim := { program := "ytbbakifachemcaa", sum := "b0ecfedfc9ad8c0838e097ea6257576390b1dc0e3825a27bd0336c477f2eda43", func := "quiver/quiverlaw2.BitsSet", spec := "bitsSet", unfollowed := true, recurses := true, apart := false }
def BitsSetSaid : Prop := bitsSetRow.holds Try.pinned (OpenSpec.ofChange bitsSetSpec)

/-- ITS FALSE NEIGHBOUR: 'it returns false'. Refute it at one input. -/
def bitsSetWrong : ChangeSpec := { name := "bitsSet", fn := fun _ => fun
  | [d1, d2, d3] => { results := [.lit (.bool false)], args := [d1, d2, d3] }
  | _ => none }
def BitsSetWrongFalsely : Prop := bitsSetRow.holds Try.pinned (OpenSpec.ofChange bitsSetWrong)

/-- 'quiverlaw2.BitsParts': WHATEVER THE INPUT: true; the input reads as it did. -/
def bitsPartsSpec : ChangeSpec := { name := "bitsParts", fn := fun _ => fun
  | [d1, d2, d3] => { results := [.lit (.bool true)], args := [d1, d2, d3] }
  | _ => none }
def bitsPartsRow : OpenClaim := { program := "ytbbakifachemcaa", sum := "b0ecfedfc9ad8c0838e097ea6257576390b1dc0e3825a27bd0336c477f2eda43", func := "quiver/quiverlaw2.BitsParts", spec := "bitsParts", unfollowed := true, recurses := true, apart := false }
def BitsPartsSaid : Prop := bitsPartsRow.holds Try.pinned (OpenSpec.ofChange bitsPartsSpec)

/-- ITS FALSE NEIGHBOUR: 'it returns false'. Refute it at one input. -/
def bitsPartsWrong : ChangeSpec := { name := "bitsParts", fn := fun _ => fun
  | [d1, d2, d3] => { results := [.lit (.bool false)], args := [d1, d2, d3] }
  | _ => none }
def BitsPartsWrongFalsely : Prop := bitsPartsRow.holds Try.pinned (OpenSpec.ofChange bitsPartsWrong)

/-- 'quiverlaw2.BitsTwice': WHATEVER THE INPUT: true; the input reads as it did. -/
def bitsTwiceSpec : ChangeSpec := { name := "bitsTwice", fn := fun _ => fun
  | [d1, d2, d3, d4] => { results := [.lit (.bool true)], args := [d1, d2, d3, d4] }
  | _ => none }
def bitsTwiceRow : OpenClaim := { program := "ytbbakifachemcaa", sum := "b0ecfedfc9ad8c0838e097ea6257576390b1dc0e3825a27bd0336c477f2eda43", func := "quiver/quiverlaw2.BitsTwice", spec := "bitsTwice", unfollowed := true, recurses := true, apart := false }
def BitsTwiceSaid : Prop := bitsTwiceRow.holds Try.pinned (OpenSpec.ofChange bitsTwiceSpec)

/-- ITS FALSE NEIGHBOUR: 'it returns false'. Refute it at one input. -/
def bitsTwiceWrong : ChangeSpec := { name := "bitsTwice", fn := fun _ => fun
  | [d1, d2, d3, d4] => { results := [.lit (.bool false)], args := [d1, d2, d3, d4] }
  | _ => none }
def BitsTwiceWrongFalsely : Prop := bitsTwiceRow.holds Try.pinned (OpenSpec.ofChange bitsTwiceWrong)

/- THE SECOND FORM. 'bulk': how many values and letters a reading holds, each counted each time it is reached (what is shared counts as often as it is met; a slice's spare places count too). A statement '..UptoSaid' is the law's where the arguments, and the package variables that the reading takes, are together of bulk at most 1048576: NARROWER than '..Said'. Prove '..Said' where nothing that the law and all that it calls make is longer than what came in: it says more and counts as full. Else prove '..UptoSaid'. A law counts once. -/
mutual
def uptoBulk {H : Type} : DataW H → Nat
  | .lit (.string bytes) => bytes.length + 1
  | .lit _ => 1
  | .nil => 1
  | .ptr d => uptoBulk d + 1
  | .slice elems spare => uptoBulkAll elems + uptoBulkAll spare + 1
  | .agg parts => uptoBulkAll parts + 1
  | .iface _ d => uptoBulk d + 1
  | .map entries => uptoBulkEntries entries + 1
  | .held _ => 1
def uptoBulkAll {H : Type} : List (DataW H) → Nat
  | [] => 0
  | d :: r => uptoBulk d + uptoBulkAll r
def uptoBulkEntries {H : Type} : List (Lit × DataW H) → Nat
  | [] => 0
  | x :: r => uptoBulkEntry x + uptoBulkEntries r
def uptoBulkEntry {H : Type} : Lit × DataW H → Nat
  | (.string bytes, d) => bytes.length + uptoBulk d + 1
  | (_, d) => uptoBulk d + 1
 end
def uptoSmall : (H : Type) → List (DataW H) → Bool := fun _ ds => decide (uptoBulkAll ds ≤ 1048576)
def OpenSpec.upto (s : _root_.Go.ChangeSpec) : _root_.Go.OpenSpec := { _root_.Go.OpenSpec.ofChange s with cond := some uptoSmall }

/-- 'quiverlaw0.QuiverNames', WHERE WHAT IT READS IS OF BULK AT MOST 1048576: true; the input reads as it did. -/
def quiverNamesUptoRow : OpenClaim := { program := "ytbbakifachemcaa", sum := "b0ecfedfc9ad8c0838e097ea6257576390b1dc0e3825a27bd0336c477f2eda43", func := "quiver/quiverlaw0.QuiverNames", spec := "quiverNames", apart := false, narrowed := true }
def QuiverNamesUptoSaid : Prop := quiverNamesUptoRow.holds Try.pinned (OpenSpec.upto quiverNamesSpec)

/-- 'quiverlaw4.Crcs', WHERE WHAT IT READS IS OF BULK AT MOST 1048576: true; the input reads as it did. -/
def crcsUptoRow : OpenClaim := { program := "ytbbakifachemcaa", sum := "b0ecfedfc9ad8c0838e097ea6257576390b1dc0e3825a27bd0336c477f2eda43", func := "quiver/quiverlaw4.Crcs", spec := "crcs", apart := false, narrowed := true }
def CrcsUptoSaid : Prop := crcsUptoRow.holds Try.pinned (OpenSpec.upto crcsSpec)

/-- 'quiverlaw4.CrcBurst', WHERE WHAT IT READS IS OF BULK AT MOST 1048576: true; the input reads as it did. -/
def crcBurstUptoRow : OpenClaim := { program := "ytbbakifachemcaa", sum := "b0ecfedfc9ad8c0838e097ea6257576390b1dc0e3825a27bd0336c477f2eda43", func := "quiver/quiverlaw4.CrcBurst", spec := "crcBurst", apart := false, narrowed := true }
def CrcBurstUptoSaid : Prop := crcBurstUptoRow.holds Try.pinned (OpenSpec.upto crcBurstSpec)

/-- 'quiverlaw4.CrcKnown', WHERE WHAT IT READS IS OF BULK AT MOST 1048576: true; the input reads as it did. -/
def crcKnownUptoRow : OpenClaim := { program := "ytbbakifachemcaa", sum := "b0ecfedfc9ad8c0838e097ea6257576390b1dc0e3825a27bd0336c477f2eda43", func := "quiver/quiverlaw4.CrcKnown", spec := "crcKnown", apart := false, narrowed := true }
def CrcKnownUptoSaid : Prop := crcKnownUptoRow.holds Try.pinned (OpenSpec.upto crcKnownSpec)

/-- 'quiverlaw4.CrcTurned', WHERE WHAT IT READS IS OF BULK AT MOST 1048576: true; the input reads as it did. -/
def crcTurnedUptoRow : OpenClaim := { program := "ytbbakifachemcaa", sum := "b0ecfedfc9ad8c0838e097ea6257576390b1dc0e3825a27bd0336c477f2eda43", func := "quiver/quiverlaw4.CrcTurned", spec := "crcTurned", apart := false, narrowed := true }
def CrcTurnedUptoSaid : Prop := crcTurnedUptoRow.holds Try.pinned (OpenSpec.upto crcTurnedSpec)

/-- 'quiverlaw1.Pads', WHERE WHAT IT READS IS OF BULK AT MOST 1048576: true; the input reads as it did. -/
def padsUptoRow : OpenClaim := { program := "ytbbakifachemcaa", sum := "b0ecfedfc9ad8c0838e097ea6257576390b1dc0e3825a27bd0336c477f2eda43", func := "quiver/quiverlaw1.Pads", spec := "pads", apart := false, narrowed := true }
def PadsUptoSaid : Prop := padsUptoRow.holds Try.pinned (OpenSpec.upto padsSpec)

/-- 'quiverlaw1.PadUp', WHERE WHAT IT READS IS OF BULK AT MOST 1048576: true; the input reads as it did. -/
def padUpUptoRow : OpenClaim := { program := "ytbbakifachemcaa", sum := "b0ecfedfc9ad8c0838e097ea6257576390b1dc0e3825a27bd0336c477f2eda43", func := "quiver/quiverlaw1.PadUp", spec := "padUp", apart := false, narrowed := true }
def PadUpUptoSaid : Prop := padUpUptoRow.holds Try.pinned (OpenSpec.upto padUpSpec)

/-- 'quiverlaw1.PadForms', WHERE WHAT IT READS IS OF BULK AT MOST 1048576: true; the input reads as it did. -/
def padFormsUptoRow : OpenClaim := { program := "ytbbakifachemcaa", sum := "b0ecfedfc9ad8c0838e097ea6257576390b1dc0e3825a27bd0336c477f2eda43", func := "quiver/quiverlaw1.PadForms", spec := "padForms", apart := false, narrowed := true }
def PadFormsUptoSaid : Prop := padFormsUptoRow.holds Try.pinned (OpenSpec.upto padFormsSpec)

/-- 'quiverlaw1.PadSums', WHERE WHAT IT READS IS OF BULK AT MOST 1048576: true; the input reads as it did. -/
def padSumsUptoRow : OpenClaim := { program := "ytbbakifachemcaa", sum := "b0ecfedfc9ad8c0838e097ea6257576390b1dc0e3825a27bd0336c477f2eda43", func := "quiver/quiverlaw1.PadSums", spec := "padSums", apart := false, narrowed := true }
def PadSumsUptoSaid : Prop := padSumsUptoRow.holds Try.pinned (OpenSpec.upto padSumsSpec)

/-- 'quiverlaw1.PadRow', WHERE WHAT IT READS IS OF BULK AT MOST 1048576: true; the input reads as it did. -/
def padRowUptoRow : OpenClaim := { program := "ytbbakifachemcaa", sum := "b0ecfedfc9ad8c0838e097ea6257576390b1dc0e3825a27bd0336c477f2eda43", func := "quiver/quiverlaw1.PadRow", spec := "padRow", apart := false, narrowed := true }
def PadRowUptoSaid : Prop := padRowUptoRow.holds Try.pinned (OpenSpec.upto padRowSpec)

/-- 'quiverlaw2.Bits', WHERE WHAT IT READS IS OF BULK AT MOST 1048576: true; the input reads as it did. -/
def bitsUptoRow : OpenClaim := { program := "ytbbakifachemcaa", sum := "b0ecfedfc9ad8c0838e097ea6257576390b1dc0e3825a27bd0336c477f2eda43", func := "quiver/quiverlaw2.Bits", spec := "bits", unfollowed := true, recurses := true, apart := false, narrowed := true }
def BitsUptoSaid : Prop := bitsUptoRow.holds Try.pinned (OpenSpec.upto bitsSpec)

/-- 'quiverlaw2.BitsCopied', WHERE WHAT IT READS IS OF BULK AT MOST 1048576: true; the input reads as it did. -/
def bitsCopiedUptoRow : OpenClaim := { program := "ytbbakifachemcaa", sum := "b0ecfedfc9ad8c0838e097ea6257576390b1dc0e3825a27bd0336c477f2eda43", func := "quiver/quiverlaw2.BitsCopied", spec := "bitsCopied", unfollowed := true, recurses := true, apart := false, narrowed := true }
def BitsCopiedUptoSaid : Prop := bitsCopiedUptoRow.holds Try.pinned (OpenSpec.upto bitsCopiedSpec)

/-- 'quiverlaw2.BitsForms', WHERE WHAT IT READS IS OF BULK AT MOST 1048576: true; the input reads as it did. -/
def bitsFormsUptoRow : OpenClaim := { program := "ytbbakifachemcaa", sum := "b0ecfedfc9ad8c0838e097ea6257576390b1dc0e3825a27bd0336c477f2eda43", func := "quiver/quiverlaw2.BitsForms", spec := "bitsForms", unfollowed := true, recurses := true, apart := false, narrowed := true }
def BitsFormsUptoSaid : Prop := bitsFormsUptoRow.holds Try.pinned (OpenSpec.upto bitsFormsSpec)

/-- 'quiverlaw2.BitsSet', WHERE WHAT IT READS IS OF BULK AT MOST 1048576: true; the input reads as it did. -/
def bitsSetUptoRow : OpenClaim := { program := "ytbbakifachemcaa", sum := "b0ecfedfc9ad8c0838e097ea6257576390b1dc0e3825a27bd0336c477f2eda43", func := "quiver/quiverlaw2.BitsSet", spec := "bitsSet", unfollowed := true, recurses := true, apart := false, narrowed := true }
def BitsSetUptoSaid : Prop := bitsSetUptoRow.holds Try.pinned (OpenSpec.upto bitsSetSpec)

/-- 'quiverlaw2.BitsParts', WHERE WHAT IT READS IS OF BULK AT MOST 1048576: true; the input reads as it did. -/
def bitsPartsUptoRow : OpenClaim := { program := "ytbbakifachemcaa", sum := "b0ecfedfc9ad8c0838e097ea6257576390b1dc0e3825a27bd0336c477f2eda43", func := "quiver/quiverlaw2.BitsParts", spec := "bitsParts", unfollowed := true, recurses := true, apart := false, narrowed := true }
def BitsPartsUptoSaid : Prop := bitsPartsUptoRow.holds Try.pinned (OpenSpec.upto bitsPartsSpec)

/-- 'quiverlaw2.BitsTwice', WHERE WHAT IT READS IS OF BULK AT MOST 1048576: true; the input reads as it did. -/
def bitsTwiceUptoRow : OpenClaim := { program := "ytbbakifachemcaa", sum := "b0ecfedfc9ad8c0838e097ea6257576390b1dc0e3825a27bd0336c477f2eda43", func := "quiver/quiverlaw2.BitsTwice", spec := "bitsTwice", unfollowed := true, recurses := true, apart := false, narrowed := true }
def BitsTwiceUptoSaid : Prop := bitsTwiceUptoRow.holds Try.pinned (OpenSpec.upto bitsTwiceSpec)

end Rows
end Go.Proofs.Ytbbakifachemcaa
