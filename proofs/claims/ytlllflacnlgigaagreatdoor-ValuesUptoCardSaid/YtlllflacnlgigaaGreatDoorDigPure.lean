/- What the digits up to a place spell; plain Lean. No program. -/
import Derived.Test.YtlllflacnlgigaaGreatDoorNumPure
namespace Go.Proofs.YtlllflacnlgigaaGreatDoor
set_option linter.unusedVariables false

theorem itoa_split (x : Int) : ∃ i0 : Nat, (x < 0 ∧ i0 = 1 ∨ 0 ≤ x ∧ i0 = 0) ∧ i0 ≤ (Lib.itoa x).length ∧ (Lib.itoa x).drop i0 = Lib.decDigits x.natAbs := by
  unfold Lib.itoa
  by_cases h : x < 0
  · rw [if_pos h]
    exact ⟨1, .inl ⟨h, rfl⟩, by simp, rfl⟩
  · rw [if_neg h]
    exact ⟨0, .inr ⟨by omega, rfl⟩, by simp, by rw [List.drop_zero, show x.toNat = x.natAbs by omega]⟩
/-- What the digits up to a place spell. -/
def lowAt (l : Vp.Txt) (i0 k : Nat) : Nat := Vp.dval 0 ((l.drop i0).take (k - i0))
theorem lowAt_start (l : Vp.Txt) (i0 : Nat) : lowAt l i0 i0 = 0 := by simp [lowAt, Vp.dval_nil]
theorem lowAt_step (l : Vp.Txt) (i0 k : Nat) (h0 : i0 ≤ k) (hk : k < l.length) : lowAt l i0 (k + 1) = lowAt l i0 k * 10 + (l[k].toNat - 48) := by
  unfold lowAt
  rw [show k + 1 - i0 = (k - i0) + 1 by omega, List.take_succ_eq_append_getElem (by rw [List.length_drop]; omega), Vp.dval_append, Vp.dval_cons, Vp.dval_nil]
  have : (l.drop i0)[k - i0]'(by rw [List.length_drop]; omega) = l[k] := by
    rw [List.getElem_drop]
    congr 1
    omega
  rw [this]
theorem lowAt_end (x : Int) (i0 : Nat) (h : (Lib.itoa x).drop i0 = Lib.decDigits x.natAbs) : lowAt (Lib.itoa x) i0 (Lib.itoa x).length = x.natAbs := by
  unfold lowAt
  rw [List.take_of_length_le (by rw [List.length_drop]; exact Nat.le_refl _), h, Vp.dval_dec]
theorem dval_take_le (l : Vp.Txt) (j : Nat) : Vp.dval 0 (l.take j) ≤ Vp.dval 0 l := by
  have h := Vp.dval_append 0 (l.take j) (l.drop j)
  rw [List.take_append_drop] at h
  rw [h]
  exact Vp.dval_ge _ _
theorem lowAt_le (x : Int) (i0 k : Nat) (h : (Lib.itoa x).drop i0 = Lib.decDigits x.natAbs) : lowAt (Lib.itoa x) i0 k ≤ x.natAbs := by
  unfold lowAt
  rw [h]
  have := dval_take_le (Lib.decDigits x.natAbs) (k - i0)
  rw [Vp.dval_dec] at this
  exact this
theorem itoa_digit (x : Int) (i0 k : Nat) (h : (Lib.itoa x).drop i0 = Lib.decDigits x.natAbs) (h0 : i0 ≤ k) (hk : k < (Lib.itoa x).length) : 48 ≤ (Lib.itoa x)[k].toNat ∧ (Lib.itoa x)[k].toNat ≤ 57 := by
  refine Vp.dec_all x.natAbs _ ?_
  rw [← h]
  have : (Lib.itoa x)[k] = ((Lib.itoa x).drop i0)[k - i0]'(by rw [List.length_drop]; omega) := by
    rw [List.getElem_drop]
    congr 1
    omega
  rw [this]
  exact List.getElem_mem _
theorem itoa_head (x : Int) (hl : 0 < (Lib.itoa x).length) : (((Lib.itoa x)[0].toNat : Int) == 45) = decide (x < 0) := by
  unfold Lib.itoa at hl ⊢
  by_cases h : x < 0
  · simp [h]
  · simp only [if_neg h] at hl ⊢
    have := Vp.dec_all x.toNat _ (List.getElem_mem hl)
    rw [decide_eq_false h, beq_eq_false_iff_ne]
    omega
end Go.Proofs.YtlllflacnlgigaaGreatDoor
