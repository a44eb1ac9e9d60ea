/- What the rows' lists give: the library's variables; a world that holds them. -/
import Derived.Test.YtlllflacnlgigaaGreatDoorRows
import Derived.Test.YtlllflacnlgigaaGreatDoorMc5
import Derived.Deep.DeepHandedRow
import Derived.Deep.DeepWitnessRowRef
import Derived.Lib.LaidIn
import Derived.Lib.LaidTab
import Derived.Stop.LaidErr
import Derived.ProofKit
import Derived.SizedLaws
namespace Go.Proofs.YtlllflacnlgigaaGreatDoor
open Go.RowKit Go.ChangeShapes
set_option linter.unusedVariables false

theorem Tryz.own_ : ownKnob Tryz.prog.godebug = none := by kernel_rfl
theorem Tryz.star_ : "*" ++ "errors.errorString" = "*errors.errorString" := by decide
theorem Tryz.rowErr_ (u : TypeId) (h : Tryz.prog.typeName? 3 u = some "*errors.errorString") : u = 172 :=
  typeName_ptr_named (nm := "errors.errorString") (by rw [Tryz.star_]; kernel_rfl) (by kernel_rfl) (by decide) u (by rw [Tryz.star_]; exact h)

def laidAll : List (String × DataW Unit) := [("math/bits.deBruijn32tab", Rows.laid_math_bits_deBruijn32tab), ("math/bits.deBruijn64tab", Rows.laid_math_bits_deBruijn64tab), ("internal/strconv.uint64pow10", Rows.laid_internal_strconv_uint64pow10), ("strconv.ErrRange", Rows.laid_strconv_ErrRange), ("strconv.ErrSyntax", Rows.laid_strconv_ErrSyntax)]

theorem int_of_shape {W : World} (h : W.ShapedOpen Tryz.prog) : ∃ m : Int, W.cell? ⟨1, 0, none⟩ = some (.int .i64 m) := Tryz.laysM145.s1_3 W h
theorem vars_of_laid {W : World} (h : laidMet Tryz.prog laidAll W) (hs : W.ShapedOpen Tryz.prog) : Vars W where
  tab := Lib.tabIs_of_head (g := 0) (by kernel_rfl) (by kernel_rfl) Tryz.underlying158 Tryz.underlying96 (by kernel_rfl) (by kernel_rfl) (show laidMet Tryz.prog (("internal/strconv.uint64pow10", Lib.tabData .u64 Lib.pow10Tab) :: [("strconv.ErrRange", Rows.laid_strconv_ErrRange), ("strconv.ErrSyntax", Rows.laid_strconv_ErrSyntax)]) W from h.tail.tail)
  syn := by
    obtain ⟨a, t, hv, _⟩ := laid_sentinel (g := 2) h.tail.tail.tail.tail (by kernel_rfl) (by kernel_rfl) Tryz.underlying102 Tryz.rowErr_ Tryz.underlying172 Tryz.underlying174 rfl rfl Tryz.underlying9 (by kernel_rfl) (by kernel_rfl)
    exact ⟨_, _, hv⟩
  rng := by
    obtain ⟨a, t, hv, _⟩ := laid_sentinel (g := 3) h.tail.tail.tail (by kernel_rfl) (by kernel_rfl) Tryz.underlying102 Tryz.rowErr_ Tryz.underlying172 Tryz.underlying174 rfl rfl Tryz.underlying9 (by kernel_rfl) (by kernel_rfl)
    exact ⟨_, _, hv⟩
  max := int_of_shape hs
  six := by
    obtain ⟨ps, hv, _⟩ := h.tail
    obtain ⟨g, t, cs, fuel, p, q, hg, _, hvar, _⟩ := hv
    obtain rfl := Option.some.inj ((show Tryz.prog.globalNamed "math/bits.deBruijn64tab" = some 5 by kernel_rfl).symm.trans hg)
    unfold World.var? at hvar
    rw [hg, Option.bind_some] at hvar
    rcases Nat.lt_or_ge 5 W.heap.size with h6 | h6
    · exact h6
    · rw [Array.getElem?_eq_none h6] at hvar
      cases hvar

/-- A world for the witnesses: the settled one, two blocks more (the two errors' structs), the variables holding what their initialisers lay. -/
noncomputable def laidWorld (os : Os) : World :=
  let N := (World.settled Tryz.prog os).heap.size
  let w0 := World.holding Tryz.prog os ⟨#[.cells #[.string ⟨#[118, 97, 108, 117, 101, 32, 111, 117, 116, 32, 111, 102, 32, 114, 97, 110, 103, 101]⟩] 174, .cells #[.string ⟨#[105, 110, 118, 97, 108, 105, 100, 32, 115, 121, 110, 116, 97, 120]⟩] 174], #[], []⟩
  let put (h : Array Obj) (g : Nat) (cs : Array Value) : Array Obj := h.modify g fun
    | .cells _ t frozen => .cells cs t frozen
    | o => o
  let ints (k : IntKind) (d : DataW Unit) : Array Value := match d with
    | .agg l => (l.map fun x => match x with | .lit (.int _ n) => Value.int k n | _ => undef).toArray
    | _ => #[]
  let h0 := put (put w0.heap 3 #[.iface 172 (.pointer (some ⟨N, 0, none⟩))]) 2 #[.iface 172 (.pointer (some ⟨N + 1, 0, none⟩))]
  let h1 := put h0 4 (ints .u8 Rows.laid_math_bits_deBruijn32tab)
  let h2 := put h1 5 (ints .u8 Rows.laid_math_bits_deBruijn64tab)
  let h3 := put h2 0 (ints .u64 Rows.laid_internal_strconv_uint64pow10)
  { w0 with heap := h3 }
noncomputable abbrev N0 : Nat := (World.settled Tryz.prog default).heap.size
set_option maxRecDepth 1000000 in
theorem laid_in (os : Os) (args : Array Value) : LaidIn Tryz.prog ((laidWorld os).forCall (fun _ _ => 0) ⟨#[], args, []⟩).memory laidAll [4, 5, 0, 3, N0, 2, N0 + 1] :=
  LaidIn.of_run [4, 5, 0, 3, N0, 2, N0 + 1] 8 (by kernel_rfl) (by kernel_rfl) (by kernel_rfl) (by kernel_rfl)
theorem laid_met (os : Os) (args : Array Value) : laidMet Tryz.prog laidAll ((laidWorld os).forCall (fun _ _ => 0) ⟨#[], args, []⟩).memory := (laid_in os args).met
end Go.Proofs.YtlllflacnlgigaaGreatDoor
