/- The reference's value of a row, walked: the whole. -/
import Derived.Test.YtlllflacnlgigaaGreatDoorMb37
import Derived.Test.YtlllflacnlgigaaGreatDoorMb38
import Derived.Test.YtlllflacnlgigaaGreatDoorMb39
namespace Go.Proofs.YtlllflacnlgigaaGreatDoor
open Go.RowKit
set_option linter.unusedVariables false
set_option linter.unusedSimpArgs false

theorem refVal_succ (ns : List Tp.Nd) (N : Nat) (ih : RefValOK ns N) : RefValOK ns (N + 1) := by
  intro a i row u vv W hsz hm hr ha hn
  obtain ⟨l, f, n, v, e, d, ks⟩ := a
  obtain ⟨k, rfl, hk⟩ := ha
  have hih : ∀ a ∈ ks, RefValOK ns (SizeOf.sizeOf a + 1) := fun a ha b j r' u' vv' W' hb => ih b j r' u' vv' W' (by have := List.sizeOf_lt_of_mem ha; simp only [Arr.mk.sizeOf_spec] at hsz; omega)
  obtain ⟨hmy, hi, hf0, hn0, _⟩ := mayA_nums hm
  obtain ⟨f, rfl⟩ := Int.eq_ofNat_of_zero_le hf0
  obtain ⟨n, rfl⟩ := Int.eq_ofNat_of_zero_le hn0
  have hr : row < n := by
    have e : (Arr.mk l (f : Int) (n : Int) v e d ks).len = (n : Int) := rfl
    rw [e, Int.toNat_natCast] at hr
    exact hr
  cases hon : Vp.on v (f + row) with
  | false => exact value_leaf ns l f n v e d ks k vv i row W hm hr hk hn (.inl hon)
  | true =>
    by_cases h0 : l = 0
    · subst h0
      have hkr := Vp.may_kind ns hmy i hi
      by_cases h3 : Tp.kindOf ns i = 3
      · exact value_list ns f n v e d ks k vv i row W hm hr hk hn hon h3 hih
      by_cases h4 : Tp.kindOf ns i = 4
      · exact value_struct ns f n v e d ks k vv i row W hm hr hk hn hon h4 hih
      exact value_leaf ns 0 f n v e d ks k vv i row W hm hr hk hn (.inr ⟨rfl, by omega⟩)
    by_cases h1 : l = 1
    · subst h1
      exact value_dict ns f n v e d ks k vv i row W hm hr hk hn hon hih
    by_cases h2 : l = 2
    · subst h2
      exact value_run ns f n v e d ks k vv i row W hm hr hk hn hon hih
    rw [Vp.mayA, if_neg h0, if_neg h1, if_neg h2, Bool.and_false] at hm
    exact absurd hm (by decide)
theorem refVal_all (ns : List Tp.Nd) : ∀ N, RefValOK ns N
  | 0 => fun _ _ _ _ _ _ h => absurd h (Nat.not_lt_zero _)
  | N + 1 => refVal_succ ns N (refVal_all ns N)
theorem refValue_calls (ns : List Tp.Nd) (a : Arr) (i row : Nat) (u vv : Value) (W : World) (hm : Vp.mayA ns a i = true) (hr : row < a.len.toNat) (ha : ArrAt W a u) (hn : NodesAt W vv ns) :
    Calls Tryz.prog 58 #[typeV vv, .int .i64 (i : Int), u, .int .i64 (row : Int)] W fun e w' => e = .returned (tv (Vp.rowA ns a i row)) ∧ Below W.heap.size W w' :=
  refVal_all ns _ a i row u vv W (Nat.lt_succ_self _) hm hr ha hn
end Go.Proofs.YtlllflacnlgigaaGreatDoor
