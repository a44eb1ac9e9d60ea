/- Where a value ends, in plain Lean. No program. -/
import Derived.Test.YtlllflacnlgigaaDoorValLaw
namespace Go.Proofs.YtlllflacnlgigaaDoor.Vp
set_option linter.unusedVariables false
open Go

/-- Where the value that begins at a place ends; -1: there is none. -/
def endP (l : Txt) (at_ d : Nat) : Int :=
  if (value (d + 1) ⟨l.drop at_, false⟩).2.2.bad = true then -1 else (l.length : Int) - ((value (d + 1) ⟨l.drop at_, false⟩).2.2.rest.length : Int)

theorem endP_eq (l : Txt) (at_ d : Nat) (h : at_ < l.length) (k : Int) (ps : List Txt) (t : Tk) (hv : value (d + 1) ⟨l[at_] :: l.drop (at_ + 1), false⟩ = (k, ps, t)) :
    endP l at_ d = if t.bad = true then -1 else (l.length : Int) - (t.rest.length : Int) := by
  unfold endP
  rw [List.drop_eq_getElem_cons h, hv]
theorem val_int (d : Nat) (c : UInt8) (r : Txt) (hc : c = 105) : value (d + 1) ⟨c :: r, false⟩ = (0, [(number ⟨r, false⟩ 59).2.1], (number ⟨r, false⟩ 59).2.2) := by
  subst hc; rfl
theorem val_str (d : Nat) (c : UInt8) (r : Txt) (hc : c = 115) : value (d + 1) ⟨c :: r, false⟩ = (2, [(bytes (number ⟨r, false⟩ 58).2.2 (number ⟨r, false⟩ 58).1).1], (bytes (number ⟨r, false⟩ 58).2.2 (number ⟨r, false⟩ 58).1).2) := by
  subst hc; rfl
theorem endP_past (l : Txt) (at_ d : Nat) (h : l.length ≤ at_) : endP l at_ d = -1 := by
  unfold endP
  rw [List.drop_of_length_le h]
  simp [value, byte]
theorem drop_cons (l : Txt) (at_ : Nat) (h : at_ < l.length) : l.drop at_ = l[at_] :: l.drop (at_ + 1) := List.drop_eq_getElem_cons h
theorem endP_one (l : Txt) (at_ d : Nat) (h : at_ < l.length) (hc : l[at_] = 110 ∨ l[at_] = 116 ∨ l[at_] = 102) : endP l at_ d = (at_ : Int) + 1 := by
  have hl : (l.length : Int) - ((l.drop (at_ + 1)).length : Int) = (at_ : Int) + 1 := by rw [List.length_drop]; omega
  have hv : ∃ k ps, value (d + 1) ⟨l[at_] :: l.drop (at_ + 1), false⟩ = (k, ps, ⟨l.drop (at_ + 1), false⟩) := by
    generalize l[at_] = c at hc
    rcases hc with rfl | rfl | rfl
    · exact ⟨_, _, rfl⟩
    · exact ⟨_, _, rfl⟩
    · exact ⟨_, _, rfl⟩
  obtain ⟨k, ps, hv⟩ := hv
  rw [endP_eq l at_ d h k ps _ hv]
  exact hl
theorem endP_other (l : Txt) (at_ d : Nat) (h : at_ < l.length) (h1 : l[at_] ≠ 110) (h2 : l[at_] ≠ 105) (h3 : l[at_] ≠ 116) (h4 : l[at_] ≠ 102) (h5 : l[at_] ≠ 115) (h6 : l[at_] ≠ 91) (h7 : l[at_] ≠ 123) : endP l at_ d = -1 := by
  have hv : value (d + 1) ⟨l[at_] :: l.drop (at_ + 1), false⟩ = (0, [], ⟨l.drop (at_ + 1), true⟩) := by
    rw [value_cons, if_neg h1, if_neg h2, if_neg (by simp [h3, h4]), if_neg h5, if_neg h6, if_neg h7]
  rw [endP_eq l at_ d h _ _ _ hv]
  rfl

/-- Between a place and a sign. -/
theorem split_sign (l : Txt) (a k : Nat) (c : UInt8) (hk : a ≤ k) (h : l[k]? = some c) : l.drop a = (l.take k).drop a ++ c :: l.drop (k + 1) := by
  obtain ⟨hl, hc⟩ := List.getElem?_eq_some_iff.1 h
  have h1 : l = l.take k ++ c :: l.drop (k + 1) := by
    rw [← hc, ← List.drop_eq_getElem_cons hl, List.take_append_drop]
  have h2 : l.drop a = (l.take k ++ c :: l.drop (k + 1)).drop a := congrArg (List.drop a) h1
  rw [h2, List.drop_append_of_le_length (by rw [List.length_take]; omega)]
theorem no_sign (l : Txt) (a k : Nat) (c : UInt8) (h : ∀ j, a ≤ j → j < k → l[j]? ≠ some c) : c ∉ (l.take k).drop a := by
  intro hm
  obtain ⟨i, hi, he⟩ := List.getElem_of_mem hm
  rw [List.length_drop, List.length_take] at hi
  refine h (a + i) (by omega) (by omega) ?_
  rw [List.getElem_drop, List.getElem_take] at he
  rw [List.getElem?_eq_getElem (by omega), he]
/-- A number that is good stands near. -/
theorem near (l : Txt) (a : Nat) (e : UInt8) (hbad : (number ⟨l.drop a, false⟩ e).2.2.bad = false) : ∃ j, a ≤ j ∧ j < l.length ∧ j ≤ a + 20 ∧ l[j]? = some e := by
  obtain ⟨_, x, r, hs, h0, h1, _⟩ := number_inv _ _ hbad
  simp only at hs
  have hl : (Lib.itoa x).length ≤ 20 := by
    have := digitsLen x h0 h1
    exact this
  have hlen : (l.drop a).length = (Lib.itoa x).length + (r.length + 1) := by rw [hs]; simp
  rw [List.length_drop] at hlen
  refine ⟨a + (Lib.itoa x).length, by omega, by omega, by omega, ?_⟩
  rw [← List.getElem?_drop, hs, List.getElem?_append_right (Nat.le_refl _)]
  simp
theorem number_bad (D r : Txt) (e : UInt8) (hD : e ∉ D) (hn : ∀ y, -9223372036854775808 ≤ y → y ≤ 9223372036854775807 → D ≠ Lib.itoa y) : (number ⟨D ++ e :: r, false⟩ e).2.2.bad = true := by
  cases hb : (number ⟨D ++ e :: r, false⟩ e).2.2.bad with
  | true => rfl
  | false =>
    exfalso
    unfold number at hb
    simp only [cut_one D r e hD, Bool.false_or, Bool.not_true, Bool.or_eq_false_iff, Bool.not_eq_false', bne_eq_false_iff_eq] at hb
    have hr := atoi_range D hb.1
    exact hn _ hr.1 hr.2 hb.2.symm

theorem endP_int_none (l : Txt) (at_ d : Nat) (h : at_ < l.length) (hc : l[at_] = 105) (hn : ∀ j, at_ ≤ j → j < l.length → j < at_ + 22 → l[j]? ≠ some 59) : endP l at_ d = -1 := by
  rw [endP_eq l at_ d h _ _ _ (val_int d _ _ hc)]
  cases hb : (number ⟨l.drop (at_ + 1), false⟩ 59).2.2.bad with
  | true => simp
  | false =>
    obtain ⟨j, h1, h2, h3, h4⟩ := near l (at_ + 1) 59 hb
    exact absurd h4 (hn j (by omega) h2 (by omega))
theorem endP_int_no (l : Txt) (at_ d k : Nat) (h : at_ < l.length) (hc : l[at_] = 105) (hk : at_ < k) (hs : l[k]? = some 59) (hf : ∀ j, at_ ≤ j → j < k → l[j]? ≠ some 59)
    (hn : ∀ y, -9223372036854775808 ≤ y → y ≤ 9223372036854775807 → (l.take k).drop (at_ + 1) ≠ Lib.itoa y) : endP l at_ d = -1 := by
  rw [endP_eq l at_ d h _ _ _ (val_int d _ _ hc)]
  rw [split_sign l (at_ + 1) k 59 (by omega) hs, number_bad _ _ _ (no_sign l (at_ + 1) k 59 (fun j h1 h2 => hf j (by omega) h2)) hn]
  simp
theorem endP_int_yes (l : Txt) (at_ d k : Nat) (x : Int) (h : at_ < l.length) (hc : l[at_] = 105) (hk : at_ < k) (hs : l[k]? = some 59) (h0 : -9223372036854775808 ≤ x) (h1 : x ≤ 9223372036854775807)
    (hn : (l.take k).drop (at_ + 1) = Lib.itoa x) : endP l at_ d = (k : Int) + 1 := by
  have hkl := (List.getElem?_eq_some_iff.1 hs).1
  rw [endP_eq l at_ d h _ _ _ (val_int d _ _ hc)]
  rw [split_sign l (at_ + 1) k 59 (by omega) hs, hn, number_ok x 59 _ (.inr rfl) h0 h1]
  simp only [Bool.false_eq_true, if_false]
  rw [List.length_drop]
  omega

theorem endP_str_none (l : Txt) (at_ d : Nat) (h : at_ < l.length) (hc : l[at_] = 115) (hn : ∀ j, at_ ≤ j → j < l.length → j < at_ + 22 → l[j]? ≠ some 58) : endP l at_ d = -1 := by
  rw [endP_eq l at_ d h _ _ _ (val_str d _ _ hc)]
  cases hb : (number ⟨l.drop (at_ + 1), false⟩ 58).2.2.bad with
  | true => simp [bytes, hb]
  | false =>
    obtain ⟨j, h1, h2, h3, h4⟩ := near l (at_ + 1) 58 hb
    exact absurd h4 (hn j (by omega) h2 (by omega))
theorem endP_str_no (l : Txt) (at_ d k : Nat) (h : at_ < l.length) (hc : l[at_] = 115) (hk : at_ < k) (hs : l[k]? = some 58) (hf : ∀ j, at_ ≤ j → j < k → l[j]? ≠ some 58)
    (hn : ∀ y, -9223372036854775808 ≤ y → y ≤ 9223372036854775807 → (l.take k).drop (at_ + 1) ≠ Lib.itoa y) : endP l at_ d = -1 := by
  rw [endP_eq l at_ d h _ _ _ (val_str d _ _ hc)]
  rw [split_sign l (at_ + 1) k 58 (by omega) hs]
  have hb := number_bad _ (l.drop (k + 1)) _ (no_sign l (at_ + 1) k 58 (fun j h1 h2 => hf j (by omega) h2)) hn
  simp [bytes, hb]
theorem endP_str_far (l : Txt) (at_ d k : Nat) (x : Int) (h : at_ < l.length) (hc : l[at_] = 115) (hk : at_ < k) (hs : l[k]? = some 58) (h0 : -9223372036854775808 ≤ x) (h1 : x ≤ 9223372036854775807)
    (hn : (l.take k).drop (at_ + 1) = Lib.itoa x) (hx : x < 0 ∨ (l.length : Int) - k - 1 < x) : endP l at_ d = -1 := by
  have hkl := (List.getElem?_eq_some_iff.1 hs).1
  rw [endP_eq l at_ d h _ _ _ (val_str d _ _ hc)]
  rw [split_sign l (at_ + 1) k 58 (by omega) hs, hn, number_ok x 58 _ (.inl rfl) h0 h1]
  have hb : bytes ⟨l.drop (k + 1), false⟩ x = ([], ⟨l.drop (k + 1), true⟩) := by
    unfold bytes
    rw [if_pos]
    rw [List.length_drop]
    rcases hx with hx | hx
    · exact Or.inr (Or.inl hx)
    · exact Or.inr (Or.inr (by omega))
  simp only [hb]
  rfl
theorem endP_str_yes (l : Txt) (at_ d k : Nat) (x : Int) (h : at_ < l.length) (hc : l[at_] = 115) (hk : at_ < k) (hs : l[k]? = some 58) (h0 : 0 ≤ x) (h1 : x ≤ 9223372036854775807)
    (hn : (l.take k).drop (at_ + 1) = Lib.itoa x) (hx : x ≤ (l.length : Int) - k - 1) : endP l at_ d = (k : Int) + 1 + x := by
  have hkl := (List.getElem?_eq_some_iff.1 hs).1
  rw [endP_eq l at_ d h _ _ _ (val_str d _ _ hc)]
  rw [split_sign l (at_ + 1) k 58 (by omega) hs, hn, number_ok x 58 _ (.inl rfl) (by omega) h1]
  have hb : bytes ⟨l.drop (k + 1), false⟩ x = ((l.drop (k + 1)).take x.toNat, ⟨(l.drop (k + 1)).drop x.toNat, false⟩) := by
    unfold bytes
    rw [if_neg]
    rw [List.length_drop]
    simp
    omega
  simp only [hb, Bool.false_eq_true, if_false]
  rw [List.length_drop, List.length_drop]
  omega

/-! A list or a struct. -/
def rowF (d : Nat) : Tk → Tk := fun t => (value d t).2.2
def Opens (c e : UInt8) : Prop := (c = 91 ∧ e = 93) ∨ (c = 123 ∧ e = 125)
theorem endP_row (l : Txt) (at_ d : Nat) (e : UInt8) (h : at_ < l.length) (hc : Opens l[at_] e) :
    endP l at_ d = if (byte (rowLoop (rowF d) e ((l.drop (at_ + 1)).length + 1) ⟨l.drop (at_ + 1), false⟩ []).2).2.bad = true then -1 else (l.length : Int) - ((byte (rowLoop (rowF d) e ((l.drop (at_ + 1)).length + 1) ⟨l.drop (at_ + 1), false⟩ []).2).2.rest.length : Int) := by
  have hv : ∃ k ps, value (d + 1) ⟨l[at_] :: l.drop (at_ + 1), false⟩ = (k, ps, (byte (rowLoop (rowF d) e ((l.drop (at_ + 1)).length + 1) ⟨l.drop (at_ + 1), false⟩ []).2).2) := by
    generalize l[at_] = c at hc
    rcases hc with ⟨rfl, rfl⟩ | ⟨rfl, rfl⟩
    · exact ⟨_, _, rfl⟩
    · exact ⟨_, _, rfl⟩
  obtain ⟨k, ps, hv⟩ := hv
  exact endP_eq l at_ d h k ps _ hv
/-- The row has come to a place. -/
def RowAt (l : Txt) (at_ d : Nat) (e : UInt8) (p : Nat) : Prop :=
  ∃ n out, left ⟨l.drop p, false⟩ ≤ n ∧ rowLoop (rowF d) e ((l.drop (at_ + 1)).length + 1) ⟨l.drop (at_ + 1), false⟩ [] = rowLoop (rowF d) e n ⟨l.drop p, false⟩ out
theorem row_start (l : Txt) (at_ d : Nat) (e : UInt8) : RowAt l at_ d e (at_ + 1) := ⟨_, [], by simp [left], rfl⟩
theorem goes_at (l : Txt) (p : Nat) (e : UInt8) (h : p < l.length) (hne : l[p] ≠ e) : goes e ⟨l.drop p, false⟩ = true := by
  rw [List.drop_eq_getElem_cons h]
  simp [goes, hne]
theorem value_rest (d : Nat) (l : Txt) (p : Nat) (h : (value (d + 1) ⟨l.drop p, false⟩).2.2.bad = false) :
    ∃ q, p < q ∧ q ≤ l.length ∧ endP l p d = (q : Int) ∧ (value (d + 1) ⟨l.drop p, false⟩).2.2 = ⟨l.drop q, false⟩ := by
  obtain ⟨k, ps, ⟨r, bad⟩, hv⟩ : ∃ k ps t, value (d + 1) ⟨l.drop p, false⟩ = (k, ps, t) := ⟨_, _, _, rfl⟩
  rw [hv] at h
  simp only at h
  subst h
  obtain ⟨V, hV, hIs, _, _⟩ := inv_all (d + 1) _ k ps r hv
  obtain ⟨c, s, hc, _⟩ := isv_ne ⟨k, ps, hIs⟩
  have hVl : 1 ≤ V.length := by rw [hc]; simp
  have hlen : (l.drop p).length = V.length + r.length := by rw [hV, List.length_append]
  rw [List.length_drop] at hlen
  have hr : r = l.drop (p + V.length) := by rw [← List.drop_drop, hV, List.drop_left]
  refine ⟨p + V.length, by omega, by omega, ?_, ?_⟩
  · unfold endP
    rw [hv]
    simp only [Bool.false_eq_true, if_false]
    omega
  · rw [hv, ← hr]
theorem row_step (l : Txt) (at_ d : Nat) (e : UInt8) (p : Nat) (q : Int) (hR : RowAt l at_ (d + 1) e p) (h : p < l.length) (hne : l[p] ≠ e) (hq : endP l p d = q) (h0 : 0 ≤ q) :
    ∃ q' : Nat, q = q' ∧ p < q' ∧ q' ≤ l.length ∧ RowAt l at_ (d + 1) e q' := by
  obtain ⟨n, out, hn, hr⟩ := hR
  obtain ⟨m, rfl, hst⟩ := rowLoop_go (rowF (d + 1)) e n ⟨l.drop p, false⟩ out (goes_at l p e h hne) hn
  have hb : (value (d + 1) ⟨l.drop p, false⟩).2.2.bad = false := by
    cases hb : (value (d + 1) ⟨l.drop p, false⟩).2.2.bad with
    | false => rfl
    | true =>
      unfold endP at hq
      rw [if_pos hb] at hq
      omega
  obtain ⟨q', h1, h2, h3, h4⟩ := value_rest d l p hb
  refine ⟨q', by omega, h1, h2, m, out ++ [(l.drop p).take ((l.drop p).length - (rowF (d + 1) ⟨l.drop p, false⟩).rest.length)], ?_, ?_⟩
  · have hl := left_step (d + 1) ⟨l.drop p, false⟩ e (goes_at l p e h hne)
    rw [h4] at hl
    omega
  · rw [hr, hst]
    have h5 : rowF (d + 1) ⟨l.drop p, false⟩ = ⟨l.drop q', false⟩ := h4
    rw [h5]
theorem byte_bad (t : Tk) (h : t.bad = true) : (byte t).2.bad = true := by
  obtain ⟨s, b⟩ := t
  simp only at h
  subst h
  cases s <;> rfl
theorem row_fail (l : Txt) (at_ d : Nat) (e : UInt8) (p : Nat) (ha : at_ < l.length) (hc : Opens l[at_] e) (hR : RowAt l at_ d e p) (h : p < l.length) (hne : l[p] ≠ e) (hf : d = 0 ∨ ∃ d', d = d' + 1 ∧ endP l p d' < 0) : endP l at_ d = -1 := by
  obtain ⟨n, out, hn, hr⟩ := hR
  obtain ⟨m, rfl, hst⟩ := rowLoop_go (rowF d) e n ⟨l.drop p, false⟩ out (goes_at l p e h hne) hn
  have hb : (rowF d ⟨l.drop p, false⟩).bad = true := by
    rcases hf with rfl | ⟨d', rfl, hf⟩
    · rfl
    · cases hb : (value (d' + 1) ⟨l.drop p, false⟩).2.2.bad with
      | true => exact hb
      | false =>
        obtain ⟨q', h1, h2, h3, h4⟩ := value_rest d' l p hb
        omega
  rw [endP_row l at_ d e ha hc, hr, hst, rowLoop_end _ _ _ _ _ (by
    generalize rowF d ⟨l.drop p, false⟩ = t at hb
    obtain ⟨s, b⟩ := t
    simp only at hb
    subst hb
    simp [goes]), if_pos (byte_bad _ hb)]
theorem row_yes (l : Txt) (at_ d : Nat) (e : UInt8) (p : Nat) (ha : at_ < l.length) (hc : Opens l[at_] e) (hR : RowAt l at_ d e p) (h : p < l.length) (hne : l[p] = e) : endP l at_ d = (p : Int) + 1 := by
  obtain ⟨n, out, hn, hr⟩ := hR
  rw [endP_row l at_ d e ha hc, hr, rowLoop_end _ _ _ _ _ (by rw [List.drop_eq_getElem_cons h]; simp [goes, hne]), List.drop_eq_getElem_cons h]
  simp only [byte, Bool.false_eq_true, if_false]
  rw [List.length_drop]
  omega
theorem row_past (l : Txt) (at_ d : Nat) (e : UInt8) (p : Nat) (ha : at_ < l.length) (hc : Opens l[at_] e) (hR : RowAt l at_ d e p) (h : l.length ≤ p) : endP l at_ d = -1 := by
  obtain ⟨n, out, hn, hr⟩ := hR
  rw [endP_row l at_ d e ha hc, hr, rowLoop_end _ _ _ _ _ (by rw [List.drop_of_length_le h]; simp [goes]), List.drop_of_length_le h]
  simp [byte]
end Go.Proofs.YtlllflacnlgigaaDoor.Vp
