/- The reference's reading of values, walked: whole, upto. -/
import Derived.Test.YtlllflacnlgigaaGreatDoorMc28
import Derived.Test.YtlllflacnlgigaaGreatDoorMc1
import Derived.Test.YtlllflacnlgigaaGreatDoorMc2
namespace Go.Proofs.YtlllflacnlgigaaGreatDoor
open Go.RowKit
set_option linter.unusedVariables false
set_option linter.unusedSimpArgs false

/-- What whole answers. -/
def WholeOK (l : Vp.Txt) (W : World) (e : Ending) (w' : World) : Prop :=
  ∃ x b, e = .returned (.tuple #[.int .i64 x, .bool b]) ∧ (b = true → l = Lib.itoa x ∧ -9223372036854775808 ≤ x ∧ x ≤ 9223372036854775807) ∧ (b = false → ∀ y, -9223372036854775808 ≤ y → y ≤ 9223372036854775807 → l ≠ Lib.itoa y) ∧ Below W.heap.size W w'
def PartOK (l : Vp.Txt) (k : Nat) (X : Int) : Prop := (-9223372036854775808 ≤ X ∧ X ≤ 9223372036854775807) ∧ ∀ y, -9223372036854775808 ≤ y → y ≤ 9223372036854775807 → l = Lib.itoa y → X = if y < 0 then -(lowAt l 1 k : Int) else (lowAt l 0 k : Int)
theorem part_start (l : Vp.Txt) : PartOK l 0 0 := ⟨by omega, fun y _ _ _ => by split <;> simp [lowAt, Vp.dval_nil]⟩
theorem wid {x : Int} (h0 : -9223372036854775808 ≤ x) (h1 : x ≤ 9223372036854775807) : wrap64 x = x := by simp only [wrap64]; omega
theorem wrap64_rng (x : Int) : -9223372036854775808 ≤ wrap64 x ∧ wrap64 x ≤ 9223372036854775807 := by simp only [wrap64]; omega
theorem head_neg {y : Int} (hl : 0 < (Lib.itoa y).length) : ((Lib.itoa y)[0] = 45) ↔ y < 0 := by
  have h := itoa_head y hl
  constructor
  · intro e
    rw [e] at h
    simpa using h.symm
  · intro e
    rw [decide_eq_true e, beq_iff_eq] at h
    exact UInt8.toNat_inj.1 (show _ = 45 by omega)
/-- The sign. -/
theorem part_sign {l : Vp.Txt} {X : Int} (h : PartOK l 0 X) (hl : 0 < l.length) (hc : l[0] = 45) : PartOK l 1 X := by
  refine ⟨h.1, fun y h0 h1 he => ?_⟩
  have := h.2 y h0 h1 he
  subst he
  have hy := (head_neg hl).1 hc
  rw [if_pos hy] at this ⊢
  rw [this]
  simp [lowAt]
theorem low_neg {y : Int} (hy : y < 0) : (Lib.itoa y).drop 1 = Lib.decDigits y.natAbs := by unfold Lib.itoa; rw [if_pos hy]; rfl
theorem low_pos {y : Int} (hy : ¬ y < 0) : (Lib.itoa y).drop 0 = Lib.decDigits y.natAbs := by unfold Lib.itoa; rw [if_neg hy, List.drop_zero, show y.toNat = y.natAbs by omega]
theorem part_neg {l : Vp.Txt} {k : Nat} {X : Int} (h : PartOK l k X) (hl : 0 < l.length) (hs : l[0] = 45) (hk : k < l.length) (hd : 48 ≤ l[k].toNat) :
    PartOK l (k + 1) (wrap64 (wrap64 (10 * X) - ((l[k].toNat : Int) - 48))) := by
  refine ⟨wrap64_rng _, fun y h0 h1 he => ?_⟩
  have hx := h.2 y h0 h1 he
  subst he
  have hy := (head_neg hl).1 hs
  rw [if_pos hy] at hx ⊢
  have hk0 : 1 ≤ k := by
    rcases Nat.eq_zero_or_pos k with h | h
    · subst h; rw [hs] at hd; simp at hd
    · exact h
  have hst := lowAt_step (Lib.itoa y) 1 k hk0 hk
  have hle := lowAt_le y 1 (k + 1) (low_neg hy)
  generalize lowAt (Lib.itoa y) 1 (k + 1) = B at hst hle ⊢
  generalize lowAt (Lib.itoa y) 1 k = A at hst hx
  generalize (Lib.itoa y)[k].toNat = c at hst hd ⊢
  have hb : (B : Int) ≤ 9223372036854775808 := by omega
  subst hx
  rw [wid (x := 10 * -(A : Int)) (by omega) (by omega), wid (by omega) (by omega)]
  omega
theorem part_pos {l : Vp.Txt} {k : Nat} {X : Int} (h : PartOK l k X) (hl : 0 < l.length) (hs : l[0] ≠ 45) (hk : k < l.length) (hd : 48 ≤ l[k].toNat) :
    PartOK l (k + 1) (wrap64 (wrap64 (10 * X) + ((l[k].toNat : Int) - 48))) := by
  refine ⟨wrap64_rng _, fun y h0 h1 he => ?_⟩
  have hx := h.2 y h0 h1 he
  subst he
  have hy : ¬ y < 0 := fun h => hs ((head_neg hl).2 h)
  rw [if_neg hy] at hx ⊢
  have hst := lowAt_step (Lib.itoa y) 0 k (Nat.zero_le _) hk
  have hle := lowAt_le y 0 (k + 1) (low_pos hy)
  generalize lowAt (Lib.itoa y) 0 (k + 1) = B at hst hle ⊢
  generalize lowAt (Lib.itoa y) 0 k = A at hst hx
  generalize (Lib.itoa y)[k].toNat = c at hst hd ⊢
  have hb : (B : Int) ≤ 9223372036854775808 := by omega
  subst hx
  have hb' : (B : Int) ≤ 9223372036854775807 := by omega
  rw [wid (x := 10 * (A : Int)) (by omega) (by omega), wid (by omega) (by omega)]
  omega
theorem part_end {l : Vp.Txt} {X : Int} (h : PartOK l l.length X) (y : Int) (h0 : -9223372036854775808 ≤ y) (h1 : y ≤ 9223372036854775807) (he : l = Lib.itoa y) : X = y := by
  have hx := h.2 y h0 h1 he
  subst he
  split at hx
  · rename_i hy
    rw [lowAt_end y 1 (low_neg hy)] at hx
    omega
  · rename_i hy
    rw [lowAt_end y 0 (low_pos hy)] at hx
    omega
theorem not_digit {l : Vp.Txt} {k : Nat} (hk : k < l.length) (h : l[k].toNat < 48 ∨ 57 < l[k].toNat) (hm : ¬ (k = 0 ∧ l[k].toNat = 45)) (y : Int) : l ≠ Lib.itoa y := by
  intro he
  subst he
  by_cases hy : y < 0
  · rcases Nat.eq_zero_or_pos k with h0 | h0
    · subst h0
      have := (head_neg (y := y) hk).2 hy
      exact hm ⟨rfl, by rw [this]; rfl⟩
    · have := itoa_digit y 1 k (low_neg hy) h0 hk
      omega
  · have := itoa_digit y 0 k (low_pos hy) (Nat.zero_le _) hk
    omega

set_option maxHeartbeats 3200000 in
theorem whole_calls (l : Vp.Txt) (W : World) (hs : l.length ≤ 140737488351232) :
    Calls Tryz.prog 64 #[.string ⟨l.toArray⟩] W (WholeOK l W) := by
  have hz := mk_size l
  go_enter Tryz.func64, Tryz.ntmps64
  go_wp2
  go_loop [4, 5] (fun x i => ∃ (k : Nat) (X : Int), k ≤ l.length ∧ i = .int .i64 k ∧ x = .int .i64 X ∧ PartOK l k X) (fun _ i => l.length - (intOf i).toNat)
  case atStart => exact ⟨0, 0, Nat.zero_le _, rfl, rfl, part_start l⟩
  case round =>
    obtain ⟨k, X, hk, rfl, rfl, hP⟩ := hrel
    replace hP := Lib.hid hP
    by_cases hlt : k < l.length ∧ l.length < 21
    · obtain ⟨h1, h2⟩ := hlt
      have hu : l[k] = (⟨l.toArray⟩ : ByteArray)[k]'(by omega) := rfl
      have hu0 : l[0]'(by omega) = (⟨l.toArray⟩ : ByteArray)[0]'(by omega) := rfl
      by_cases hm : k = 0 ∧ l[k].toNat = 45
      · obtain ⟨rfl, hm⟩ := hm
        have hsg := part_sign hP.out h1 (UInt8.toNat_inj.1 hm)
        replace hsg := Lib.hid hsg
        rw [hu] at hm
        have hm' : ((((⟨l.toArray⟩ : ByteArray)[0]'(by omega)).toNat : Int) == 45) = true := by rw [beq_iff_eq]; omega
        clear hm
        go_wp2
        exact ⟨⟨1, X, by omega, rfl, rfl, hsg.out⟩, by simp [intOf]; omega⟩
      · by_cases hd : 48 ≤ l[k].toNat ∧ l[k].toNat ≤ 57
        · have d1 : ((((⟨l.toArray⟩ : ByteArray)[k]'(by omega)).toNat : Int) == 45) = false := by rw [beq_eq_false_iff_ne]; rw [← hu]; omega
          have d2 : 48 ≤ (((⟨l.toArray⟩ : ByteArray)[k]'(by omega)).toNat : Int) := by rw [← hu]; omega
          have d3 : (((⟨l.toArray⟩ : ByteArray)[k]'(by omega)).toNat : Int) ≤ 57 := by rw [← hu]; omega
          by_cases hsg : l[0] = 45
          · have hst := part_neg hP.out (by omega) hsg h1 hd.1
            rw [hu] at hst
            have HST := Lib.hid hst
            have s0 : ((((⟨l.toArray⟩ : ByteArray)[0]'(by omega)).toNat : Int) == 45) = true := by rw [beq_iff_eq, ← hu0, hsg]; rfl
            replace s0 := Lib.hid s0
            clear hst hsg hd hm hu hu0
            have s0 := s0.out
            go_wp2
            exact ⟨⟨k + 1, _, by omega, by go_num, rfl, HST.out⟩, by simp [intOf]; omega⟩
          · have hst := part_pos hP.out (by omega) hsg h1 hd.1
            rw [hu] at hst
            have HST := Lib.hid hst
            have s0 : ((((⟨l.toArray⟩ : ByteArray)[0]'(by omega)).toNat : Int) == 45) = false := by
              rw [beq_eq_false_iff_ne, ← hu0]
              intro h
              exact hsg (UInt8.toNat_inj.1 (show _ = 45 by omega))
            clear hst hsg hd hm hu hu0
            go_wp2
            exact ⟨⟨k + 1, _, by omega, by go_num, rfl, HST.out⟩, by simp [intOf]; omega⟩
        · have hno := Lib.hid (fun y => not_digit h1 (by omega) hm y)
          by_cases h45 : l[k].toNat = 45
          · have d1 : ((((⟨l.toArray⟩ : ByteArray)[k]'(by omega)).toNat : Int) == 45) = true := by rw [beq_iff_eq, ← hu]; omega
            have d0 : ((k : Int) == 0) = false := by rw [beq_eq_false_iff_ne]; intro h; exact hm ⟨by omega, h45⟩
            have d2 : ((((⟨l.toArray⟩ : ByteArray)[k]'(by omega)).toNat : Int)) < 48 := by rw [← hu]; omega
            clear hd hm hu hu0 h45
            go_wp2
            go_ret2
            exact ⟨0, false, rfl, fun h => (by cases h), fun _ y _ _ => hno.out y, Below.refl _ _⟩
          · have d1 : ((((⟨l.toArray⟩ : ByteArray)[k]'(by omega)).toNat : Int) == 45) = false := by rw [beq_eq_false_iff_ne, ← hu]; omega
            by_cases h48 : l[k].toNat < 48
            · have d2 : ((((⟨l.toArray⟩ : ByteArray)[k]'(by omega)).toNat : Int)) < 48 := by rw [← hu]; omega
              clear hd hm hu hu0 h45 h48
              go_wp2
              go_ret2
              exact ⟨0, false, rfl, fun h => (by cases h), fun _ y _ _ => hno.out y, Below.refl _ _⟩
            · have d2 : 48 ≤ ((((⟨l.toArray⟩ : ByteArray)[k]'(by omega)).toNat : Int)) := by rw [← hu]; omega
              have d3 : 57 < ((((⟨l.toArray⟩ : ByteArray)[k]'(by omega)).toNat : Int)) := by rw [← hu]; omega
              clear hd hm hu hu0 h45 h48
              go_wp2
              go_ret2
              exact ⟨0, false, rfl, fun h => (by cases h), fun _ y _ _ => hno.out y, Below.refl _ _⟩
    · obtain ⟨hr0, hr1⟩ := hP.out.1
      by_cases hkl : k < l.length
      · have h21 : ¬ l.length < 21 := fun h => hlt ⟨hkl, h⟩
        clear hlt
        go_wp2_with (fail)
        refine (digits_calls X _ hr0 hr1).mono ?_; rintro e w1 ⟨rfl, hb⟩
        by_cases he : Lib.itoa X = l
        · have he' : (Lib.itoa X == l) = true := by simp [he]
          have HE := Lib.hid he
          clear he
          go_wp2
          go_ret2
          exact ⟨X, true, rfl, fun _ => ⟨HE.out.symm, hr0, hr1⟩, (fun h => by cases h), hb⟩
        · have he' : (Lib.itoa X == l) = false := by simp [he]
          have HE := Lib.hid he
          clear he
          go_wp2
          go_ret2
          exact ⟨X, false, rfl, fun h => (by cases h), fun _ y y0 y1 hy => (by have := itoa_length y y0 y1; rw [hy] at h21; omega), hb⟩
      · obtain rfl : k = l.length := by omega
        clear hlt hkl
        go_wp2_with (fail)
        refine (digits_calls X _ hr0 hr1).mono ?_; rintro e w1 ⟨rfl, hb⟩
        by_cases he : Lib.itoa X = l
        · have he' : (Lib.itoa X == l) = true := by simp [he]
          have HE := Lib.hid he
          clear he
          go_wp2
          go_ret2
          exact ⟨X, true, rfl, fun _ => ⟨HE.out.symm, hr0, hr1⟩, (fun h => by cases h), hb⟩
        · have he' : (Lib.itoa X == l) = false := by simp [he]
          have HE := Lib.hid he
          clear he
          go_wp2
          go_ret2
          exact ⟨X, false, rfl, fun h => (by cases h), fun _ y y0 y1 hy => HE.out (by rw [part_end hP.out y y0 y1 hy]; exact hy.symm), hb⟩
end Go.Proofs.YtlllflacnlgigaaGreatDoor
