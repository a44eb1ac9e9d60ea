/- Numbers as digits, in plain Lean: what is written comes back. No program. -/
import Derived.Test.YtlllflacnlgigaaDoorValPure
import Derived.Lib.AtoiAllCases
namespace Go.Proofs.YtlllflacnlgigaaDoor.Vp
set_option linter.unusedVariables false
open Go

def dval (a : Nat) (l : Txt) : Nat := l.foldl (fun a c => a * 10 + (c.toNat - 48)) a
theorem dval_nil (a : Nat) : dval a [] = a := rfl
theorem dval_cons (a : Nat) (c : UInt8) (l : Txt) : dval a (c :: l) = dval (a * 10 + (c.toNat - 48)) l := by unfold dval; rw [List.foldl_cons]
theorem dval_append (a : Nat) (l m : Txt) : dval a (l ++ m) = dval (dval a l) m := by unfold dval; rw [List.foldl_append]
theorem dval_ge (l : Txt) : ∀ a, a ≤ dval a l := by
  induction l with
  | nil => intro a; exact Nat.le_refl _
  | cons c l ih => intro a; rw [dval_cons]; exact Nat.le_trans (by omega) (ih _)
theorem parse_ok (l : Txt) : ∀ a, (∀ c ∈ l, 48 ≤ c.toNat ∧ c.toNat ≤ 57) → dval a l < 18446744073709551616 → Lib.parseUint10 a l = .ok (dval a l) := by
  induction l with
  | nil => intro a _ _; rfl
  | cons c l ih =>
    intro a hd hb
    have h1 := hd c (by simp)
    rw [dval_cons] at hb ⊢
    have h2 := dval_ge l (a * 10 + (c.toNat - 48))
    rw [Lib.parseUint10, if_pos h1, if_neg (by omega), if_neg (by omega)]
    exact ih _ (fun c hc => hd c (by simp [hc])) hb
theorem dig (u : Nat) (h : u < 10) : (UInt8.ofNat (48 + u)).toNat = 48 + u := by
  rw [UInt8.toNat_ofNat']; omega
theorem dec_all (u : Nat) : ∀ c ∈ Lib.decDigits u, 48 ≤ c.toNat ∧ c.toNat ≤ 57 := by
  induction u using Nat.strongRecOn with
  | ind u ih =>
    rw [Lib.decDigits]
    split
    · rename_i h
      intro c hc
      rw [List.mem_singleton] at hc
      subst hc
      rw [dig u h]
      omega
    · rename_i h
      intro c hc
      rw [List.mem_append, List.mem_singleton] at hc
      rcases hc with hc | rfl
      · exact ih (u / 10) (by omega) c hc
      · rw [dig _ (Nat.mod_lt _ (by omega))]
        omega
theorem dval_dec (u : Nat) : dval 0 (Lib.decDigits u) = u := by
  induction u using Nat.strongRecOn with
  | ind u ih =>
    rw [Lib.decDigits]
    split
    · rename_i h
      rw [dval_cons, dval_nil, dig u h]
      omega
    · rename_i h
      rw [dval_append, ih (u / 10) (by omega), dval_cons, dval_nil, dig _ (Nat.mod_lt _ (by omega))]
      omega
theorem dec_ne (u : Nat) : Lib.decDigits u ≠ [] := by
  rw [Lib.decDigits]
  split <;> simp
theorem parseMag_dec (u : Nat) (h : u < 18446744073709551616) : Lib.parseMag (Lib.decDigits u) = .ok u := by
  unfold Lib.parseMag
  rw [if_neg (dec_ne u), parse_ok _ 0 (dec_all u) (by rw [dval_dec]; exact h), dval_dec]
theorem atoiAll_itoa (x : Int) (h0 : -9223372036854775808 ≤ x) (h1 : x ≤ 9223372036854775807) : Lib.atoiAll (Lib.itoa x) = .ok x := by
  unfold Lib.itoa
  split
  · rename_i hx
    unfold Lib.atoiAll
    simp only
    rw [if_pos (Or.inr (by decide)), parseMag_dec _ (by omega)]
    simp only
    rw [if_neg (by simp), if_neg (by simp; omega), if_pos (by rfl)]
    congr 1
    omega
  · rename_i hx
    unfold Lib.atoiAll
    have hne := dec_ne x.toNat
    have hall := dec_all x.toNat
    have hm := parseMag_dec x.toNat (by omega)
    generalize Lib.decDigits x.toNat = l at hne hall hm
    cases l with
    | nil => exact absurd rfl hne
    | cons c r =>
      have hc := hall c (by simp)
      simp only
      rw [if_neg (by omega), hm]
      simp only
      rw [if_neg (by omega), if_neg (by omega), if_neg (by omega)]
      congr 1
      omega
theorem atoi_itoa (x : Int) (h0 : -9223372036854775808 ≤ x) (h1 : x ≤ 9223372036854775807) : atoi (Lib.itoa x) = (x, true) := by
  unfold atoi
  rw [atoiAll_itoa x h0 h1]
theorem atoi_range (l : Txt) (h : (atoi l).2 = true) : -9223372036854775808 ≤ (atoi l).1 ∧ (atoi l).1 ≤ 9223372036854775807 := by
  unfold atoi at h ⊢
  rcases ha : Lib.atoiAll l with v | _ | _
  · exact Lib.atoiAll_bounds ha
  · simp [ha] at h
  · simp [ha] at h
theorem itoa_sign (x : Int) : ∀ c ∈ Lib.itoa x, c.toNat = 45 ∨ (48 ≤ c.toNat ∧ c.toNat ≤ 57) := by
  unfold Lib.itoa
  split
  · intro c hc
    rw [List.mem_cons] at hc
    rcases hc with rfl | hc
    · exact .inl rfl
    · exact .inr (dec_all _ c hc)
  · intro c hc
    exact .inr (dec_all _ c hc)
theorem itoa_no (x : Int) (e : UInt8) (he : e.toNat = 58 ∨ e.toNat = 59) : e ∉ Lib.itoa x := by
  intro h
  have := itoa_sign x e h
  omega
theorem itoa_ne (x : Int) : Lib.itoa x ≠ [] := by
  unfold Lib.itoa
  split
  · simp
  · exact dec_ne _
theorem itoa_inj (x y : Int) (hx0 : -9223372036854775808 ≤ x) (hx1 : x ≤ 9223372036854775807) (hy0 : -9223372036854775808 ≤ y) (hy1 : y ≤ 9223372036854775807) (h : Lib.itoa x = Lib.itoa y) : x = y := by
  have h1 := atoi_itoa x hx0 hx1
  rw [h, atoi_itoa y hy0 hy1] at h1
  exact (congrArg Prod.fst h1).symm

theorem decLen (k : Nat) : ∀ n : Nat, n < 10 ^ (k + 1) → (Lib.decDigits n).length ≤ k + 1 := by
  induction k with
  | zero =>
    intro n h
    rw [Lib.decDigits, dif_pos (by omega)]
    simp
  | succ k ih =>
    intro n h
    rw [Lib.decDigits]
    split
    · simp
    · rw [List.length_append, List.length_singleton]
      have := ih (n / 10) (by rw [Nat.pow_succ] at h; omega)
      omega
theorem digitsLen (x : Int) (h0 : -9223372036854775808 ≤ x) (h1 : x ≤ 9223372036854775807) : (Lib.itoa x).length ≤ 20 := by
  unfold Lib.itoa
  split
  · rw [List.length_cons]
    have := decLen 18 x.natAbs (by omega)
    omega
  · have := decLen 18 x.toNat (by omega)
    omega

/-! cut at one sign. -/
theorem index_one (D r : Txt) (e : UInt8) (h : e ∉ D) : Lib.index (D ++ e :: r) [e] = (D.length : Int) := by
  induction D with
  | nil => simp [Lib.index, List.isPrefixOf]
  | cons c D ih =>
    have hc : ¬ e = c := fun hh => h (by simp [hh])
    have ih' := ih (fun hh => h (by simp [hh]))
    rw [List.cons_append, Lib.index, ih']
    have hp : List.isPrefixOf [e] (c :: (D ++ e :: r)) = false := by simp [List.isPrefixOf, hc]
    rw [hp]
    simp only [Bool.false_eq_true, if_false]
    rw [if_neg (by simp), List.length_cons]
    omega
theorem index_none (s : Txt) (e : UInt8) (h : e ∉ s) : Lib.index s [e] = -1 := by
  induction s with
  | nil => simp [Lib.index]
  | cons c D ih =>
    have hc : ¬ e = c := fun hh => h (by simp [hh])
    have hp : List.isPrefixOf [e] (c :: D) = false := by simp [List.isPrefixOf, hc]
    rw [Lib.index, hp, ih (fun hh => h (by simp [hh]))]
    simp
theorem cut_one (D r : Txt) (e : UInt8) (h : e ∉ D) : Lib.cut (D ++ e :: r) [e] = (D, r, true) := by
  unfold Lib.cut
  rw [index_one D r e h, if_pos (by omega)]
  simp
theorem cut_none (s : Txt) (e : UInt8) (h : e ∉ s) : Lib.cut s [e] = (s, [], false) := by
  unfold Lib.cut
  rw [index_none s e h, if_neg (by omega)]
theorem split_at (s : Txt) (e : UInt8) : e ∉ s ∨ ∃ D r, s = D ++ e :: r ∧ e ∉ D := by
  induction s with
  | nil => simp
  | cons c s ih =>
    by_cases hc : e = c
    · subst hc
      exact .inr ⟨[], s, rfl, by simp⟩
    · rcases ih with h | ⟨D, r, rfl, h⟩
      · exact .inl (by simp [hc, h])
      · exact .inr ⟨c :: D, r, rfl, by simp [hc, h]⟩

theorem number_ok (x : Int) (e : UInt8) (r : Txt) (he : e.toNat = 58 ∨ e.toNat = 59) (h0 : -9223372036854775808 ≤ x) (h1 : x ≤ 9223372036854775807) :
    number ⟨Lib.itoa x ++ e :: r, false⟩ e = (x, Lib.itoa x, ⟨r, false⟩) := by
  unfold number
  simp only [cut_one _ r e (itoa_no x e he), atoi_itoa x h0 h1]
  simp
theorem number_inv (t : Tk) (e : UInt8) (h : (number t e).2.2.bad = false) :
    t.bad = false ∧ ∃ x r, t.rest = Lib.itoa x ++ e :: r ∧ -9223372036854775808 ≤ x ∧ x ≤ 9223372036854775807 ∧ number t e = (x, Lib.itoa x, ⟨r, false⟩) := by
  obtain ⟨s, bad⟩ := t
  unfold number at h ⊢
  simp only at h ⊢
  rcases split_at s e with hs | ⟨D, r, rfl, hD⟩
  · rw [cut_none s e hs] at h
    simp at h
  · rw [cut_one D r e hD] at h ⊢
    simp only [Bool.not_true, Bool.or_false, Bool.or_eq_false_iff, Bool.not_eq_false', bne_eq_false_iff_eq] at h
    obtain ⟨⟨hb, ha⟩, hi⟩ := h
    have hr := atoi_range D ha
    refine ⟨hb, (atoi D).1, r, by rw [hi], hr.1, hr.2, ?_⟩
    rw [hi, ha, hb]
    simp
end Go.Proofs.YtlllflacnlgigaaDoor.Vp
