/- Rows of bits: plain law. No program stands here. -/
import Derived.Laws.BitsAllLaws
import Derived.IntWalk
namespace Go.Proofs.YtlllflacnlgigaaDoor.Bt

/-- Bit i of a text (0, where there is none). -/
def bit (l : List UInt8) (i : Nat) : Bool := (l.getD (i / 8) 0).toNat.testBit (i % 8)
theorem byte_bit (c : UInt8) (k : Nat) : (bits .and .u8 ((c.toNat : Int) / (2 : Int) ^ k) 1 == 1) = c.toNat.testBit k := by
  have h : ((c.toNat : Int) / (2 : Int) ^ k) = ((c.toNat >>> k : Nat) : Int) := by rw [Nat.shiftRight_eq_div_pow]; simp
  have hc := c.toNat_lt
  have hs : c.toNat >>> k ≤ c.toNat := by rw [Nat.shiftRight_eq_div_pow]; exact Nat.div_le_self _ _
  have h1 := u8_and_nat (c.toNat >>> k) 1 (by omega) (by decide)
  rw [show ((1 : Nat) : Int) = 1 from rfl] at h1
  rw [h, h1, nat_mask1]
  have e : (((c.toNat >>> k % 2 : Nat) : Int) == 1) = (c.toNat >>> k % 2 == 1) := by
    rw [Bool.eq_iff_iff, beq_iff_eq, beq_iff_eq]; omega
  rw [e]
  simp [Nat.testBit, Nat.and_comm 1, Nat.and_one_is_mod]

/-- The number of n bits from one on. -/
def num (f : Nat → Bool) (o : Nat) : Nat → Nat
  | 0 => 0
  | k + 1 => num f o k ||| (if f (o + k) then 2 ^ k else 0)
theorem num_bit (f : Nat → Bool) (o : Nat) : ∀ n k, (num f o n).testBit k = (decide (k < n) && f (o + k))
  | 0, k => by simp [num]
  | n + 1, k => by
    rw [num, Nat.testBit_or, num_bit f o n k]
    by_cases h : k = n
    · subst h
      cases hf : f (o + k) <;> simp
    · cases hf : f (o + n)
      · have : decide (k < n + 1) = decide (k < n) := by rw [decide_eq_decide]; omega
        simp [this]
      · rw [if_pos rfl, Nat.testBit_two_pow]
        have : decide (k < n + 1) = decide (k < n) := by rw [decide_eq_decide]; omega
        simp [this, Ne.symm h]
theorem num_lt (f : Nat → Bool) (o n : Nat) : num f o n < 2 ^ n := by
  apply Nat.lt_pow_two_of_testBit
  intro i hi
  rw [num_bit]
  simp; omega
def packB (f : Nat → Bool) (j : Nat) : UInt8 := UInt8.ofNat (num f (8 * j) 8)
theorem packB_bit (f : Nat → Bool) (j k : Nat) : (packB f j).toNat.testBit k = (decide (k < 8) && f (8 * j + k)) := by
  have h := num_lt f (8 * j) 8
  unfold packB
  rw [UInt8.toNat_ofNat', Nat.mod_eq_of_lt (by simpa using h), num_bit]
theorem u8_ext (a b : UInt8) (h : ∀ k, k < 8 → a.toNat.testBit k = b.toNat.testBit k) : a = b := by
  apply UInt8.toNat_inj.1
  apply Nat.eq_of_testBit_eq
  intro k
  by_cases hk : k < 8
  · exact h k hk
  · rw [Nat.testBit_lt_two_pow (Nat.lt_of_lt_of_le a.toNat_lt (Nat.pow_le_pow_right (by decide) (by omega))), Nat.testBit_lt_two_pow (Nat.lt_of_lt_of_le b.toNat_lt (Nat.pow_le_pow_right (by decide) (by omega)))]
def mask (k : Nat) : UInt8 := UInt8.ofNat (2 ^ k)
theorem mask_toNat (k : Nat) (h : k < 8) : (mask k).toNat = 2 ^ k := by
  unfold mask
  rw [UInt8.toNat_ofNat', Nat.mod_eq_of_lt (Nat.pow_lt_pow_right (by decide) h)]
theorem packB_or (f g : Nat → Bool) (i : Nat) (hi : g i = true) (h : ∀ j, j ≠ i → g j = f j) : packB f (i / 8) ||| mask (i % 8) = packB g (i / 8) := by
  apply u8_ext
  intro k hk
  rw [UInt8.toNat_or, Nat.testBit_or, packB_bit, packB_bit, mask_toNat _ (Nat.mod_lt _ (by decide)), Nat.testBit_two_pow]
  by_cases e : 8 * (i / 8) + k = i
  · have : i % 8 = k := by omega
    simp [e, this, hi, hk]
  · have : ¬ i % 8 = k := by omega
    simp [h _ e, this]
theorem packB_same (f g : Nat → Bool) (j : Nat) (h : ∀ k, k < 8 → f (8 * j + k) = g (8 * j + k)) : packB f j = packB g j := by
  apply u8_ext
  intro k hk
  rw [packB_bit, packB_bit, h k hk]

/-- The bytes of some bits. -/
def bytesOf (f : Nat → Bool) (m : Nat) : List UInt8 := (List.range m).map (packB f)
theorem bytesOf_length (f : Nat → Bool) (m : Nat) : (bytesOf f m).length = m := by simp [bytesOf]
def upto (xs : List Bool) (k : Nat) (i : Nat) : Bool := decide (i < k) && xs.getD i false
def packed (xs : List Bool) : List UInt8 := bytesOf (fun i => xs.getD i false) ((xs.length + 7) / 8)
theorem packed_all (xs : List Bool) : bytesOf (upto xs xs.length) ((xs.length + 7) / 8) = packed xs := by
  unfold packed bytesOf
  apply List.map_congr_left
  intro j _
  apply packB_same
  intro k _
  unfold upto
  by_cases h : 8 * j + k < xs.length
  · simp [h]
  · simp [h]
theorem packed_none (xs : List Bool) (m : Nat) : bytesOf (upto xs 0) m = List.replicate m 0 := by
  unfold bytesOf
  apply List.ext_getElem (by simp)
  intro j h1 h2
  simp only [List.getElem_map, List.getElem_range, List.getElem_replicate]
  apply u8_ext
  intro k hk
  rw [packB_bit]
  simp [upto]
theorem packed_set (xs : List Bool) (k m : Nat) (hx : xs.getD k false = true) (_hm : k / 8 < m) :
    (bytesOf (upto xs k) m).set (k / 8) (packB (upto xs k) (k / 8) ||| mask (k % 8)) = bytesOf (upto xs (k + 1)) m := by
  rw [packB_or (upto xs k) (upto xs (k + 1)) k (by unfold upto; rw [hx]; simp) (fun j hj => by unfold upto; congr 1; rw [decide_eq_decide]; omega)]
  unfold bytesOf
  apply List.ext_getElem (by simp)
  intro j h1 h2
  rw [List.getElem_set]
  by_cases e : k / 8 = j
  · subst e; simp
  · rw [if_neg e]
    simp only [List.getElem_map, List.getElem_range]
    apply packB_same
    intro i hi
    unfold upto
    congr 1
    rw [decide_eq_decide]
    omega
theorem packed_skip (xs : List Bool) (k m : Nat) (hx : xs.getD k false = false) : bytesOf (upto xs k) m = bytesOf (upto xs (k + 1)) m := by
  unfold bytesOf
  apply List.map_congr_left
  intro j _
  apply packB_same
  intro i _
  unfold upto
  by_cases e : 8 * j + i = k
  · rw [e, hx]; simp
  · congr 1; rw [decide_eq_decide]; omega

/-- Some bits of a text, from one on. -/
def some_ (l : List UInt8) (o n : Nat) : List Bool := (List.range n).map fun i => bit l (o + i)
theorem some_length (l : List UInt8) (o n : Nat) : (some_ l o n).length = n := by simp [some_]
theorem some_snoc (l : List UInt8) (o n : Nat) : some_ l o (n + 1) = some_ l o n ++ [bit l (o + n)] := by simp [some_, List.range_succ]
theorem packed_bit (xs : List Bool) (i : Nat) : bit (packed xs) i = xs.getD i false := by
  unfold bit packed
  by_cases h : i / 8 < (xs.length + 7) / 8
  · have : (bytesOf (fun i => xs.getD i false) ((xs.length + 7) / 8)).getD (i / 8) 0 = packB (fun i => xs.getD i false) (i / 8) := by
      rw [List.getD_eq_getElem?_getD, List.getElem?_eq_getElem (by rw [bytesOf_length]; exact h)]
      simp [bytesOf]
    rw [this, packB_bit]
    have e : 8 * (i / 8) + i % 8 = i := by omega
    have h8 : i % 8 < 8 := Nat.mod_lt _ (by decide)
    simp [e, h8]
  · rw [List.getD_eq_getElem?_getD, List.getElem?_eq_none (by rw [bytesOf_length]; omega)]
    have hx : xs.length ≤ i := by omega
    simp [hx]

/-- A byte with a bit so. -/
def setByte (c : UInt8) (k : Nat) (on : Bool) : UInt8 := if on then c ||| mask k else (c ||| mask k) ^^^ mask k
theorem setByte_bit (c : UInt8) (k : Nat) (on : Bool) (j : Nat) (hk : k < 8) : (setByte c k on).toNat.testBit j = if j = k then on else c.toNat.testBit j := by
  unfold setByte
  cases on
  · simp only [Bool.false_eq_true, if_false, UInt8.toNat_xor, UInt8.toNat_or, Nat.testBit_xor, Nat.testBit_or, mask_toNat k hk, Nat.testBit_two_pow]
    by_cases h : j = k
    · subst h; simp
    · simp [h, Ne.symm h]
  · simp only [if_true, UInt8.toNat_or, Nat.testBit_or, mask_toNat k hk, Nat.testBit_two_pow]
    by_cases h : j = k
    · subst h; simp
    · simp [h, Ne.symm h]
theorem setByte_ref (c : UInt8) (k : Nat) (on : Bool) (hk : k < 8) : (if on then (c &&& (255 - mask k)) ||| mask k else c &&& (255 - mask k)) = setByte c k on := by
  have hm : ∀ j, j < 8 → (255 - mask k).toNat.testBit j = !decide (k = j) := by
    intro j hj
    rw [UInt8.toNat_sub_of_le]
    · rw [mask_toNat k hk]
      have : ∀ k j : Fin 8, (255 - 2 ^ k.val).testBit j.val = !decide (k.val = j.val) := by decide
      exact this ⟨k, hk⟩ ⟨j, hj⟩
    · rw [UInt8.le_iff_toNat_le, mask_toNat k hk]
      have : 2 ^ k < 2 ^ 8 := Nat.pow_lt_pow_right (by decide) hk
      have e : (255 : UInt8).toNat = 255 := rfl
      omega
  apply u8_ext
  intro j hj
  rw [setByte_bit c k on j hk]
  cases on
  · simp only [Bool.false_eq_true, if_false, UInt8.toNat_and, Nat.testBit_and, hm j hj]
    by_cases h : j = k
    · subst h; simp
    · simp [h, Ne.symm h]
  · simp only [if_true, UInt8.toNat_or, UInt8.toNat_and, Nat.testBit_or, Nat.testBit_and, hm j hj, mask_toNat k hk, Nat.testBit_two_pow]
    by_cases h : j = k
    · subst h; simp
    · simp [h, Ne.symm h]
def setBit (l : List UInt8) (i : Nat) (on : Bool) : List UInt8 := l.set (i / 8) (setByte (l.getD (i / 8) 0) (i % 8) on)
theorem setBit_length (l : List UInt8) (i : Nat) (on : Bool) : (setBit l i on).length = l.length := by simp [setBit]
theorem setBit_bit (l : List UInt8) (i : Nat) (on : Bool) (j : Nat) (hi : i < 8 * l.length) : bit (setBit l i on) j = if j = i then on else bit l j := by
  unfold bit setBit
  by_cases h : j / 8 = i / 8
  · rw [h, List.getD_eq_getElem?_getD, List.getElem?_set_self (by omega), Option.getD_some, setByte_bit _ _ _ _ (Nat.mod_lt _ (by decide))]
    by_cases e : j % 8 = i % 8
    · rw [if_pos e, if_pos (by omega)]
    · rw [if_neg e, if_neg (by rintro rfl; exact e rfl)]
  · rw [List.getD_eq_getElem?_getD, List.getElem?_set_ne (by omega), ← List.getD_eq_getElem?_getD, if_neg (by rintro rfl; exact h rfl)]
end Go.Proofs.YtlllflacnlgigaaDoor.Bt
