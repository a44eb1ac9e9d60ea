/- A turned stretch of four bytes is always told: the algebra. No program stands here. -/
import Derived.Test.YtbbakifachemcaaCrcPure
namespace Go.Proofs.Ytbbakifachemcaa.Crc

theorem it_shift : ∀ (k : Nat) (f : BitVec 32), (∀ j, 32 - k ≤ j → f.getLsbD j = false) → k ≤ 32 → it k (f <<< k) = f
  | 0, f, _, _ => by simp [it]
  | k + 1, f, h, hk => by
    have e : f <<< (k + 1) = (f <<< k) <<< 1 := by rw [BitVec.shiftLeft_add]
    simp only [it]
    rw [e, st_shift]
    · exact it_shift k f (fun j hj => h j (by omega)) (by omega)
    · rw [BitVec.getLsbD_shiftLeft]
      have := h (31 - k) (by omega)
      simp [this]

theorem upd_diff (s e : BitVec 32) (a b : UInt8) : upd (s ^^^ e) (a ^^^ b) = upd s a ^^^ it 8 (e ^^^ by8 b) := by
  unfold upd
  rw [← it_xor]
  congr 1
  have : by8 (a ^^^ b) = by8 a ^^^ by8 b := by
    unfold by8
    apply BitVec.eq_of_getLsbD_eq
    intro i hi
    simp
  rw [this]
  ac_rfl

/-- byte k of a number of 32 bits -/
def byt (x : BitVec 32) (k : Nat) : UInt8 := UInt8.ofNat (x.toNat / 2 ^ (8 * k))
theorem part (x : BitVec 32) (k : Nat) : x >>> (8 * k) = by8 (byt x k) ^^^ ((x >>> (8 * (k + 1))) <<< 8) := by
  apply BitVec.eq_of_getLsbD_eq
  intro i hi
  have hb : (by8 (byt x k)).getLsbD i = (decide (i < 8) && x.getLsbD (8 * k + i)) := by
    rw [show (by8 (byt x k)).getLsbD i = (by8 (byt x k)).toNat.testBit i from rfl, by8_toNat]
    unfold byt
    rw [UInt8.toNat_ofNat', Nat.testBit_mod_two_pow, ← Nat.shiftRight_eq_div_pow, Nat.testBit_shiftRight]
    rfl
  rw [BitVec.getLsbD_xor, hb, BitVec.getLsbD_shiftLeft, BitVec.getLsbD_ushiftRight, BitVec.getLsbD_ushiftRight]
  by_cases h8 : i < 8
  · simp [h8]
  · have : 8 * (k + 1) + (i - 8) = 8 * k + i := by omega
    simp [h8, hi, this]
theorem turn8 (e x : BitVec 32) (k : Nat) : it 8 (e ^^^ x >>> (8 * k)) = it 8 (e ^^^ by8 (byt x k)) ^^^ x >>> (8 * (k + 1)) := by
  have h := it_shift 8 (x >>> (8 * (k + 1))) (fun j hj => by rw [BitVec.getLsbD_ushiftRight]; exact BitVec.getLsbD_of_ge _ _ (by omega)) (by omega)
  rw [part x k, ← BitVec.xor_assoc, it_xor, h]
theorem four (s x : BitVec 32) (a b c d : UInt8) :
    upd (upd (upd (upd s (a ^^^ byt x 0)) (b ^^^ byt x 1)) (c ^^^ byt x 2)) (d ^^^ byt x 3) = upd (upd (upd (upd s a) b) c) d ^^^ it 32 x := by
  have h0 : s = s ^^^ 0#32 := by simp
  rw [show upd s (a ^^^ byt x 0) = upd (s ^^^ 0#32) (a ^^^ byt x 0) by rw [← h0], upd_diff, upd_diff, upd_diff, upd_diff]
  congr 1
  have t0 := turn8 0#32 x 0
  have t1 := turn8 (it 8 (0#32 ^^^ by8 (byt x 0))) x 1
  have t2 := turn8 (it 8 (it 8 (0#32 ^^^ by8 (byt x 0)) ^^^ by8 (byt x 1))) x 2
  have t3 := turn8 (it 8 (it 8 (it 8 (0#32 ^^^ by8 (byt x 0)) ^^^ by8 (byt x 1)) ^^^ by8 (byt x 2))) x 3
  simp only [Nat.mul_zero, BitVec.ushiftRight_zero, BitVec.zero_xor, Nat.zero_add, Nat.mul_one, Nat.reduceAdd, Nat.reduceMul] at t0 t1 t2 t3 ⊢
  have z : x >>> 32 = 0#32 := BitVec.ushiftRight_eq_zero (by omega)
  rw [z, BitVec.xor_zero] at t3
  rw [← t3, ← t2, ← t1, ← t0, ← it_add, ← it_add, ← it_add]

/-- The text with its bytes from i on, n of them, turned by B. -/
def burst (l : List UInt8) (i n : Nat) (B : Nat → UInt8) : List UInt8 := l.mapIdx fun j c => if i ≤ j ∧ j < i + n then c ^^^ B (j - i) else c
theorem burst_length (l : List UInt8) (i n : Nat) (B : Nat → UInt8) : (burst l i n B).length = l.length := by simp [burst]
theorem burst_zero (l : List UInt8) (i : Nat) (B : Nat → UInt8) : burst l i 0 B = l := by
  unfold burst
  apply List.ext_getElem (by simp)
  intro j h1 h2
  rw [List.getElem_mapIdx, if_neg (by omega)]
theorem burst_at (l : List UInt8) (i n : Nat) (B : Nat → UInt8) (h : i + n < l.length) : (burst l i n B)[i + n]? = some (l[i + n]) := by
  unfold burst
  rw [List.getElem?_mapIdx, List.getElem?_eq_getElem h, Option.map_some, if_neg (by omega)]
theorem burst_set (l : List UInt8) (i n : Nat) (B : Nat → UInt8) (h : i + n < l.length) : (burst l i n B).set (i + n) (l[i + n] ^^^ B n) = burst l i (n + 1) B := by
  unfold burst
  apply List.ext_getElem (by simp)
  intro j h1 h2
  rw [List.getElem_set, List.getElem_mapIdx, List.getElem_mapIdx]
  by_cases e : i + n = j
  · subst e
    rw [if_pos rfl, if_pos (by omega), show i + n - i = n by omega]
  · rw [if_neg e]
    by_cases hj : i ≤ j ∧ j < i + n
    · rw [if_pos hj, if_pos (by omega)]
    · rw [if_neg hj, if_neg (by omega)]
theorem burst_four (l : List UInt8) (i : Nat) (B : Nat → UInt8) (h : i + 4 ≤ l.length) :
    burst l i 4 B = l.take i ++ [l[i] ^^^ B 0, l[i + 1] ^^^ B 1, l[i + 2] ^^^ B 2, l[i + 3] ^^^ B 3] ++ l.drop (i + 4) := by
  apply List.ext_getElem?
  intro j
  unfold burst
  rw [List.getElem?_mapIdx]
  by_cases h1 : j < i
  · rw [List.append_assoc, List.getElem?_append_left (by simp; omega), List.getElem?_take, if_pos h1]
    cases l[j]? with
    | none => rfl
    | some c => simp only [Option.map_some]; rw [if_neg (by omega)]
  · by_cases h2 : j < i + 4
    · rw [List.getElem?_append_left (by simp; omega), List.getElem?_append_right (by simp; omega), List.length_take, Nat.min_eq_left (by omega)]
      obtain rfl | rfl | rfl | rfl : j = i ∨ j = i + 1 ∨ j = i + 2 ∨ j = i + 3 := by omega
      all_goals
        rw [List.getElem?_eq_getElem (by omega), Option.map_some, if_pos (by omega)]
        simp [Nat.add_sub_cancel_left]
    · rw [List.getElem?_append_right (by simp; omega), List.getElem?_drop]
      have : i + 4 + (j - (l.take i ++ [l[i] ^^^ B 0, l[i + 1] ^^^ B 1, l[i + 2] ^^^ B 2, l[i + 3] ^^^ B 3]).length) = j := by simp; omega
      rw [this]
      cases l[j]? with
      | none => rfl
      | some c => simp only [Option.map_some]; rw [if_neg (by omega)]
theorem sum_burst (l : List UInt8) (i : Nat) (x : BitVec 32) (hx : x ≠ 0#32) (h : i + 4 ≤ l.length) : sumI l ≠ sumI (burst l i 4 (byt x)) := by
  have e : l = l.take i ++ [l[i], l[i + 1], l[i + 2], l[i + 3]] ++ l.drop (i + 4) := by
    have := burst_four l i (fun _ => 0) h
    have z : burst l i 4 (fun _ => 0) = l := by
      unfold burst
      apply List.ext_getElem (by simp)
      intro j h1 h2
      rw [List.getElem_mapIdx]
      split <;> simp
    rw [z] at this
    simp
  rw [burst_four l i _ h]
  generalize l.drop (i + 4) = q at e ⊢
  generalize l.take i = p at e ⊢
  generalize l[i] = a at e ⊢
  generalize l[i + 1] = b at e ⊢
  generalize l[i + 2] = c at e ⊢
  generalize l[i + 3] = d at e ⊢
  subst e
  intro hs
  have hs' : sumB (p ++ [a, b, c, d] ++ q) = sumB (p ++ [a ^^^ byt x 0, b ^^^ byt x 1, c ^^^ byt x 2, d ^^^ byt x 3] ++ q) := by
    unfold sumI at hs
    exact BitVec.eq_of_toNat_eq (by omega)
  unfold sumB at hs'
  simp only [List.foldl_append, List.foldl_cons, List.foldl_nil] at hs'
  rw [four, fold_diff] at hs'
  generalize q.foldl upd (upd (upd (upd (upd (p.foldl upd ones) a) b) c) d) = y at hs'
  have h0 : it (8 * q.length) (it 32 x) = 0#32 := by
    have := congrArg (fun z => z ^^^ ones ^^^ y) hs'
    simp only [BitVec.xor_assoc] at this
    rw [← BitVec.xor_assoc ones ones, BitVec.xor_self, BitVec.zero_xor, BitVec.xor_self] at this
    rw [BitVec.xor_comm (it (8 * q.length) (it 32 x)) y, ← BitVec.xor_assoc, BitVec.xor_self, BitVec.zero_xor] at this
    exact this.symm
  exact hx (it_zero _ _ (it_zero _ _ h0))
end Go.Proofs.Ytbbakifachemcaa.Crc
