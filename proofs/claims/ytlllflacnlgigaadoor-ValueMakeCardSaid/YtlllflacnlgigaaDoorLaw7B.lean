/- Chapter 7: the walk of ValueInts. -/
import Derived.Test.YtlllflacnlgigaaDoorAwake7
import Derived.Test.YtlllflacnlgigaaDoorValLaw
namespace Go.Proofs.YtlllflacnlgigaaDoor
open Go.RowKit
set_option linter.unusedVariables false
set_option linter.unusedSimpArgs false

theorem i64_le {x : Int} (h : (Lit.int .i64 x).wf = true) : -9223372036854775808 ≤ x ∧ x ≤ 9223372036854775807 := by
  simpa [Lit.wf, IntKind.min, IntKind.max, IntKind.signed, IntKind.bits] using h
theorem parts_int (x : Int) (h0 : -9223372036854775808 ≤ x) (h1 : x ≤ 9223372036854775807) : Vp.parts (Vp.int x) = (0, [Lib.itoa x], 0) :=
  Vp.parts_of_is (by have := itoa_length x h0 h1; simp [Vp.int]; omega) (Vp.is_int 4 x h0 h1)
theorem partsInt_calls (x : Int) (W : World) (hv : Vars W) (h0 : -9223372036854775808 ≤ x) (h1 : x ≤ 9223372036854775807) :
    Calls Tryd.prog 14 #[tv (Vp.int x)] W fun e w' => ∃ b o c, e = .returned (.tuple #[.int .i64 0, .slice (some ⟨b, o, none⟩) 1 c, .int .i64 0]) ∧ w'.cell? ⟨b, o, none⟩ = some (tv (Lib.itoa x)) ∧ b < w'.heap.size ∧ Below W.heap.size W w' := by
  have h := parts_calls (Vp.int x) W hv (by have := itoa_length x h0 h1; simp [Vp.int]; omega)
  rw [parts_int x h0 h1] at h
  refine h.mono fun e w' ⟨r, he, ho, hb⟩ => ?_
  obtain ⟨a, c, hr, _, _, hc⟩ := own_texts (xs := [Lib.itoa x]) ho
  obtain ⟨bk, o, rfl, hk, hc⟩ := hc (by simp)
  have := hc 0 _ rfl
  rw [Nat.add_zero] at this
  exact ⟨bk, o, c, by rw [he, hr]; rfl, this, hk, hb⟩


theorem itoa_split (x : Int) : ∃ i0 : Nat, (x < 0 ∧ i0 = 1 ∨ 0 ≤ x ∧ i0 = 0) ∧ i0 ≤ (Lib.itoa x).length ∧ (Lib.itoa x).drop i0 = Lib.decDigits x.natAbs := by
  unfold Lib.itoa
  by_cases h : x < 0
  · rw [if_pos h]
    exact ⟨1, .inl ⟨h, rfl⟩, by simp, rfl⟩
  · rw [if_neg h]
    exact ⟨0, .inr ⟨by omega, rfl⟩, by simp, by rw [List.drop_zero, show x.toNat = x.natAbs by omega]⟩
/-- What the digits up to a place spell. -/
def lowAt (l : Vp.Txt) (i0 k : Nat) : Nat := Vp.dval 0 ((l.drop i0).take (k - i0))
theorem lowAt_start (l : Vp.Txt) (i0 : Nat) : lowAt l i0 i0 = 0 := by simp [lowAt, Vp.dval_nil]
theorem lowAt_step (l : Vp.Txt) (i0 k : Nat) (h0 : i0 ≤ k) (hk : k < l.length) : lowAt l i0 (k + 1) = lowAt l i0 k * 10 + (l[k].toNat - 48) := by
  unfold lowAt
  rw [show k + 1 - i0 = (k - i0) + 1 by omega, List.take_succ_eq_append_getElem (by rw [List.length_drop]; omega), Vp.dval_append, Vp.dval_cons, Vp.dval_nil]
  have : (l.drop i0)[k - i0]'(by rw [List.length_drop]; omega) = l[k] := by
    rw [List.getElem_drop]
    congr 1
    omega
  rw [this]
theorem lowAt_end (x : Int) (i0 : Nat) (h : (Lib.itoa x).drop i0 = Lib.decDigits x.natAbs) : lowAt (Lib.itoa x) i0 (Lib.itoa x).length = x.natAbs := by
  unfold lowAt
  rw [List.take_of_length_le (by rw [List.length_drop]; exact Nat.le_refl _), h, Vp.dval_dec]
theorem dval_take_le (l : Vp.Txt) (j : Nat) : Vp.dval 0 (l.take j) ≤ Vp.dval 0 l := by
  have h := Vp.dval_append 0 (l.take j) (l.drop j)
  rw [List.take_append_drop] at h
  rw [h]
  exact Vp.dval_ge _ _
theorem lowAt_le (x : Int) (i0 k : Nat) (h : (Lib.itoa x).drop i0 = Lib.decDigits x.natAbs) : lowAt (Lib.itoa x) i0 k ≤ x.natAbs := by
  unfold lowAt
  rw [h]
  have := dval_take_le (Lib.decDigits x.natAbs) (k - i0)
  rw [Vp.dval_dec] at this
  exact this
theorem itoa_digit (x : Int) (i0 k : Nat) (h : (Lib.itoa x).drop i0 = Lib.decDigits x.natAbs) (h0 : i0 ≤ k) (hk : k < (Lib.itoa x).length) : 48 ≤ (Lib.itoa x)[k].toNat ∧ (Lib.itoa x)[k].toNat ≤ 57 := by
  refine Vp.dec_all x.natAbs _ ?_
  rw [← h]
  have : (Lib.itoa x)[k] = ((Lib.itoa x).drop i0)[k - i0]'(by rw [List.length_drop]; omega) := by
    rw [List.getElem_drop]
    congr 1
    omega
  rw [this]
  exact List.getElem_mem _
theorem itoa_head (x : Int) (hl : 0 < (Lib.itoa x).length) : (((Lib.itoa x)[0].toNat : Int) == 45) = decide (x < 0) := by
  unfold Lib.itoa at hl ⊢
  by_cases h : x < 0
  · simp [h]
  · simp only [if_neg h] at hl ⊢
    have := Vp.dec_all x.toNat _ (List.getElem_mem hl)
    rw [decide_eq_false h, beq_eq_false_iff_ne]
    omega

set_option maxHeartbeats 1600000 in
theorem valueInts_neg (a0 a1 : Int) (W : World) (hv : Vars W) (x0 : -9223372036854775808 ≤ a0) (x1 : a0 ≤ 9223372036854775807) (y0 : -9223372036854775808 ≤ a1) (y1 : a1 ≤ 9223372036854775807) (hneg : a0 < 0) :
    Calls Tryd.prog 8 #[.int .i64 a0, .int .i64 a1] W fun e w' => e = .returned (.bool true) ∧ Below W.heap.size W w' := by
  obtain ⟨i0, hi0, hil, hdrop⟩ := itoa_split a0
  obtain rfl : i0 = 1 := by omega
  clear hi0
  have hl := itoa_length a0 x0 x1
  have hz := mk_size (Lib.itoa a0)
  have hpos : 0 < (Lib.itoa a0).length := List.length_pos_iff.2 (Vp.itoa_ne a0)
  have HH := Lib.hid (itoa_head a0 hpos)
  have HD := Lib.hid (fun k (h0 : 1 ≤ k) hk => itoa_digit a0 1 k hdrop h0 hk)
  have HS := Lib.hid (fun k (h0 : 1 ≤ k) hk => lowAt_step (Lib.itoa a0) 1 k h0 hk)
  have HE := Lib.hid (lowAt_end a0 1 hdrop)
  have HZ := Lib.hid (lowAt_start (Lib.itoa a0) 1)
  have HL := Lib.hid (fun k => lowAt_le a0 1 k hdrop)
  have HV := Lib.hid (show (Vp.int a0 == Vp.int a1) = decide (a0 = a1) by
    by_cases h : a0 = a1
    · simp [h]
    · rw [decide_eq_false h, beq_eq_false_iff_ne]
      intro h1
      simp only [Vp.int, List.cons.injEq, true_and, List.append_cancel_right_eq] at h1
      exact h (Vp.itoa_inj a0 a1 x0 x1 y0 y1 h1))
  have hlt : ¬ ((Lib.itoa a0).length : Int) < 1 := by omega
  clear hdrop
  have HI0 := Lib.hid (fun W hv => int_calls a0 W hv x0 x1)
  have HI1 := Lib.hid (fun W hv => int_calls a1 W hv y0 y1)
  have HP := Lib.hid (fun W hv => partsInt_calls a0 W hv x0 x1)
  go_enter Tryd.func8, Tryd.ntmps8
  go_wp2_with (fail)
  refine (awake7_calls W hv).mono ?_; rintro e w1 ⟨rfl, HB⟩
  go_wp2_with (fail)
  refine (HI0.out _ (hv.below HB hv.six)).mono ?_; rintro e w2 ⟨rfl, hb⟩
  replace HB := below_then HB hb; clear hb
  go_wp2_with (fail)
  refine (HI1.out _ (hv.below HB hv.six)).mono ?_; rintro e w3 ⟨rfl, hb⟩
  replace HB := below_then HB hb; clear hb
  go_wp2_with (fail)
  refine (HP.out _ (hv.below HB hv.six)).mono ?_; rintro e w4 ⟨b, o, c, rfl, hc, hbs, hb⟩
  replace HB := below_then HB hb; clear hb
  go_wp2_with (fail)
  refine (num_calls _ _).mono ?_; rintro e w' ⟨rfl, rfl⟩
  have hs0 : ((((⟨(Lib.itoa a0).toArray⟩ : ByteArray)[0]'(by omega)).toNat : Int) == 45) = true := by
    have := HH.out
    rw [decide_eq_true hneg] at this
    exact this
  go_wp2_with (fail)
  go_loop [11, 12] (fun lo i => ∃ k : Nat, 1 ≤ k ∧ k ≤ (Lib.itoa a0).length ∧ i = .int .i64 k ∧ lo = .int .u64 (lowAt (Lib.itoa a0) 1 k : Nat)) (fun _ i => (Lib.itoa a0).length - (intOf i).toNat)
  case atStart => exact ⟨1, Nat.le_refl _, by omega, rfl, by rw [HZ.out]; rfl⟩
  case round =>
    obtain ⟨k, hk1, hk, rfl, rfl⟩ := hrel
    by_cases hlt : k < (Lib.itoa a0).length
    · have hd := HD.out k hk1 (by omega)
      have hle := HL.out (k + 1)
      have hst := HS.out k hk1 (by omega)
      rw [hst] at hle
      have HST := Lib.hid hst
      clear hst
      have hu : (Lib.itoa a0)[k]'(by omega) = (⟨(Lib.itoa a0).toArray⟩ : ByteArray)[k]'(by omega) := rfl
      rw [hu] at hd hle HST
      generalize lowAt (Lib.itoa a0) 1 k = D at *
      go_wp2
      exact ⟨⟨k + 1, by omega, by omega, by go_num, by rw [HST.out]; exact congrArg (Value.int .u64) (by omega)⟩, by simp [intOf]; omega⟩
    · obtain rfl : k = (Lib.itoa a0).length := by omega
      rw [HE.out]
      have hfin : wrap64 (IntKind.u64.wrap (-(a0.natAbs : Int))) = a0 := by
        have hw : ∀ z : Int, IntKind.u64.wrap z = z % 18446744073709551616 := fun z => by simp [IntKind.wrap, IntKind.bits, IntKind.signed]
        rw [hw]; simp only [wrap64]; omega
      by_cases hxy : a0 = a1
      · have hv' : (Vp.int a0 == Vp.int a1) = true := by rw [HV.out]; exact decide_eq_true hxy
        have hx' : (a0 == a1) = true := by simp [hxy]
        replace hv' := Lib.hid hv'
        subst hxy
        go_wp2
        go_ret
        exact ⟨rfl, HB⟩
      · have hv' : (Vp.int a0 == Vp.int a1) = false := by rw [HV.out]; exact decide_eq_false hxy
        have hx' : (a0 == a1) = false := by simp [hxy]
        go_wp2
        go_ret
        exact ⟨rfl, HB⟩
set_option maxHeartbeats 1600000 in
theorem valueInts_pos (a0 a1 : Int) (W : World) (hv : Vars W) (x0 : -9223372036854775808 ≤ a0) (x1 : a0 ≤ 9223372036854775807) (y0 : -9223372036854775808 ≤ a1) (y1 : a1 ≤ 9223372036854775807) (hneg : 0 ≤ a0) :
    Calls Tryd.prog 8 #[.int .i64 a0, .int .i64 a1] W fun e w' => e = .returned (.bool true) ∧ Below W.heap.size W w' := by
  obtain ⟨i0, hi0, hil, hdrop⟩ := itoa_split a0
  obtain rfl : i0 = 0 := by omega
  clear hi0
  have hl := itoa_length a0 x0 x1
  have hz := mk_size (Lib.itoa a0)
  have hpos : 0 < (Lib.itoa a0).length := List.length_pos_iff.2 (Vp.itoa_ne a0)
  have HH := Lib.hid (itoa_head a0 hpos)
  have HD := Lib.hid (fun k (h0 : 0 ≤ k) hk => itoa_digit a0 0 k hdrop h0 hk)
  have HS := Lib.hid (fun k (h0 : 0 ≤ k) hk => lowAt_step (Lib.itoa a0) 0 k h0 hk)
  have HE := Lib.hid (lowAt_end a0 0 hdrop)
  have HZ := Lib.hid (lowAt_start (Lib.itoa a0) 0)
  have HL := Lib.hid (fun k => lowAt_le a0 0 k hdrop)
  have HV := Lib.hid (show (Vp.int a0 == Vp.int a1) = decide (a0 = a1) by
    by_cases h : a0 = a1
    · simp [h]
    · rw [decide_eq_false h, beq_eq_false_iff_ne]
      intro h1
      simp only [Vp.int, List.cons.injEq, true_and, List.append_cancel_right_eq] at h1
      exact h (Vp.itoa_inj a0 a1 x0 x1 y0 y1 h1))
  have hlt : ¬ ((Lib.itoa a0).length : Int) < 1 := by omega
  clear hdrop
  have HI0 := Lib.hid (fun W hv => int_calls a0 W hv x0 x1)
  have HI1 := Lib.hid (fun W hv => int_calls a1 W hv y0 y1)
  have HP := Lib.hid (fun W hv => partsInt_calls a0 W hv x0 x1)
  go_enter Tryd.func8, Tryd.ntmps8
  go_wp2_with (fail)
  refine (awake7_calls W hv).mono ?_; rintro e w1 ⟨rfl, HB⟩
  go_wp2_with (fail)
  refine (HI0.out _ (hv.below HB hv.six)).mono ?_; rintro e w2 ⟨rfl, hb⟩
  replace HB := below_then HB hb; clear hb
  go_wp2_with (fail)
  refine (HI1.out _ (hv.below HB hv.six)).mono ?_; rintro e w3 ⟨rfl, hb⟩
  replace HB := below_then HB hb; clear hb
  go_wp2_with (fail)
  refine (HP.out _ (hv.below HB hv.six)).mono ?_; rintro e w4 ⟨b, o, c, rfl, hc, hbs, hb⟩
  replace HB := below_then HB hb; clear hb
  go_wp2_with (fail)
  refine (num_calls _ _).mono ?_; rintro e w' ⟨rfl, rfl⟩
  have hs0 : ((((⟨(Lib.itoa a0).toArray⟩ : ByteArray)[0]'(by omega)).toNat : Int) == 45) = false := by
    have := HH.out
    rw [decide_eq_false (by omega)] at this
    exact this
  go_wp2_with (fail)
  go_loop [11, 12] (fun lo i => ∃ k : Nat, 0 ≤ k ∧ k ≤ (Lib.itoa a0).length ∧ i = .int .i64 k ∧ lo = .int .u64 (lowAt (Lib.itoa a0) 0 k : Nat)) (fun _ i => (Lib.itoa a0).length - (intOf i).toNat)
  case atStart => exact ⟨0, Nat.le_refl _, by omega, rfl, by rw [HZ.out]; rfl⟩
  case round =>
    obtain ⟨k, hk1, hk, rfl, rfl⟩ := hrel
    by_cases hlt : k < (Lib.itoa a0).length
    · have hd := HD.out k hk1 (by omega)
      have hle := HL.out (k + 1)
      have hst := HS.out k hk1 (by omega)
      rw [hst] at hle
      have HST := Lib.hid hst
      clear hst
      have hu : (Lib.itoa a0)[k]'(by omega) = (⟨(Lib.itoa a0).toArray⟩ : ByteArray)[k]'(by omega) := rfl
      rw [hu] at hd hle HST
      generalize lowAt (Lib.itoa a0) 0 k = D at *
      go_wp2
      exact ⟨⟨k + 1, by omega, by omega, by go_num, by rw [HST.out]; exact congrArg (Value.int .u64) (by omega)⟩, by simp [intOf]; omega⟩
    · obtain rfl : k = (Lib.itoa a0).length := by omega
      rw [HE.out]
      have hfin : wrap64 (a0.natAbs : Int) = a0 := by
        simp only [wrap64]; omega
      have hng : decide (a0 < 0) = false := decide_eq_false (by omega)
      by_cases hxy : a0 = a1
      · have hv' : (Vp.int a0 == Vp.int a1) = true := by rw [HV.out]; exact decide_eq_true hxy
        have hx' : (a0 == a1) = true := by simp [hxy]
        replace hv' := Lib.hid hv'
        subst hxy
        go_wp2
        go_ret
        exact ⟨rfl, HB⟩
      · have hv' : (Vp.int a0 == Vp.int a1) = false := by rw [HV.out]; exact decide_eq_false hxy
        have hx' : (a0 == a1) = false := by simp [hxy]
        go_wp2
        go_ret
        exact ⟨rfl, HB⟩
theorem valueInts_walk (a0 a1 : Int) (W : World) (hv : Vars W) (h0 : (Lit.int .i64 a0).wf = true) (h1 : (Lit.int .i64 a1).wf = true) :
    Calls Tryd.prog 8 #[.int .i64 a0, .int .i64 a1] W fun e w' => e = .returned (.bool true) ∧ Below W.heap.size W w' := by
  obtain ⟨x0, x1⟩ := i64_le h0
  obtain ⟨y0, y1⟩ := i64_le h1
  by_cases h : a0 < 0
  · exact valueInts_neg a0 a1 W hv x0 x1 y0 y1 h
  · exact valueInts_pos a0 a1 W hv x0 x1 y0 y1 (by omega)
end Go.Proofs.YtlllflacnlgigaaDoor
