/- The sum's algebra: a state of 32 bits, a turn that is linear and loses nothing. No program stands here. -/
import Derived.Laws.BitsAllLaws
import Derived.IntWalk
namespace Go.Proofs.Ytbbakifachemcaa.Crc
open Go.RowKit

def poly : BitVec 32 := 0xedb88320#32
def st (b : BitVec 32) : BitVec 32 := (b >>> 1) ^^^ (if b.getLsbD 0 then poly else 0#32)
def it : Nat → BitVec 32 → BitVec 32
  | 0, b => b
  | k + 1, b => it k (st b)
def by8 (c : UInt8) : BitVec 32 := c.toBitVec.setWidth 32
def upd (b : BitVec 32) (c : UInt8) : BitVec 32 := it 8 (b ^^^ by8 c)
def ones : BitVec 32 := 0xffffffff#32
def sumB (l : List UInt8) : BitVec 32 := l.foldl upd ones ^^^ ones

theorem st_xor (a b : BitVec 32) : st (a ^^^ b) = st a ^^^ st b := by
  unfold st
  rw [BitVec.ushiftRight_xor_distrib, BitVec.getLsbD_xor]
  cases a.getLsbD 0 <;> cases b.getLsbD 0 <;> simp
  · rw [BitVec.xor_assoc]
  · ac_rfl
  · rw [show a >>> 1 ^^^ poly ^^^ (b >>> 1 ^^^ poly) = a >>> 1 ^^^ (poly ^^^ (poly ^^^ b >>> 1)) by rw [BitVec.xor_assoc, BitVec.xor_comm (b >>> 1)], ← BitVec.xor_assoc poly, BitVec.xor_self, BitVec.zero_xor]

theorem it_xor : ∀ (k : Nat) (a b : BitVec 32), it k (a ^^^ b) = it k a ^^^ it k b
  | 0, _, _ => rfl
  | k + 1, a, b => by simp only [it, st_xor, it_xor k]

theorem st_zero (d : BitVec 32) (h : st d = 0#32) : d = 0#32 := by
  unfold st at h
  cases hl : d.getLsbD 0
  · rw [hl] at h
    simp at h
    apply BitVec.eq_of_getLsbD_eq
    intro i hi
    cases i with
    | zero => rw [hl]; simp
    | succ j =>
      have := congrArg (fun x => x.getLsbD j) h
      simp [BitVec.getLsbD_ushiftRight] at this
      rw [Nat.add_comm] at this
      simpa using this
  · rw [hl] at h
    have := congrArg (fun x => x.getLsbD 31) h
    simp [poly] at this

theorem it_zero : ∀ (k : Nat) (d : BitVec 32), it k d = 0#32 → d = 0#32
  | 0, _, h => h
  | k + 1, d, h => st_zero d (it_zero k (st d) h)

theorem it_add : ∀ (j k : Nat) (b : BitVec 32), it (j + k) b = it k (it j b)
  | 0, k, b => by simp [it]
  | j + 1, k, b => by rw [Nat.add_right_comm]; simp only [it]; exact it_add j k (st b)

theorem upd_three (a b c : BitVec 32) (p q r : UInt8) : upd (a ^^^ b ^^^ c) (p ^^^ q ^^^ r) = upd a p ^^^ upd b q ^^^ upd c r := by
  unfold upd
  rw [← it_xor, ← it_xor]
  congr 1
  have : by8 (p ^^^ q ^^^ r) = by8 p ^^^ by8 q ^^^ by8 r := by
    unfold by8
    apply BitVec.eq_of_getLsbD_eq
    intro i hi
    simp
  rw [this]
  ac_rfl

def xor3 : List UInt8 → List UInt8 → List UInt8 → List UInt8
  | p :: s, q :: t, r :: u => (p ^^^ q ^^^ r) :: xor3 s t u
  | _, _, _ => []

theorem fold_three : ∀ (s t u : List UInt8) (a b c : BitVec 32), s.length = t.length → t.length = u.length →
    (xor3 s t u).foldl upd (a ^^^ b ^^^ c) = s.foldl upd a ^^^ t.foldl upd b ^^^ u.foldl upd c
  | [], [], [], _, _, _, _, _ => rfl
  | p :: s, q :: t, r :: u, a, b, c, h1, h2 => by
    simp only [xor3, List.foldl_cons, upd_three]
    exact fold_three s t u _ _ _ (by simpa using h1) (by simpa using h2)

theorem sum_three (s t u : List UInt8) (h1 : s.length = t.length) (h2 : t.length = u.length) : sumB (xor3 s t u) = sumB s ^^^ sumB t ^^^ sumB u := by
  unfold sumB
  have h := fold_three s t u ones ones ones h1 h2
  rw [show ones ^^^ ones ^^^ ones = ones from rfl] at h
  rw [h]
  generalize s.foldl upd ones = x
  generalize t.foldl upd ones = y
  generalize u.foldl upd ones = z
  rw [show x ^^^ ones ^^^ (y ^^^ ones) ^^^ (z ^^^ ones) = (x ^^^ y ^^^ z ^^^ ones) ^^^ (ones ^^^ ones) by ac_rfl, BitVec.xor_self, BitVec.xor_zero]

/-- A turned stretch: what the state turns by. -/
theorem fold_diff : ∀ (l : List UInt8) (a d : BitVec 32), l.foldl upd (a ^^^ d) = l.foldl upd a ^^^ it (8 * l.length) d
  | [], _, _ => rfl
  | c :: l, a, d => by
    have h : upd (a ^^^ d) c = upd a c ^^^ it 8 d := by
      unfold upd
      rw [← it_xor]
      congr 1
      ac_rfl
    rw [List.foldl_cons, List.foldl_cons, h, fold_diff l, List.length_cons, show 8 * (l.length + 1) = 8 + 8 * l.length by omega, it_add]

theorem st_shift (c : BitVec 32) (h : c.getLsbD 31 = false) : st (c <<< 1) = c := by
  unfold st
  have h0 : (c <<< 1).getLsbD 0 = false := by simp
  rw [h0]
  simp
  apply BitVec.eq_of_getLsbD_eq
  intro i hi
  by_cases h31 : i = 31
  · subst h31; rw [h]; simp
  · simp [BitVec.getLsbD_ushiftRight, BitVec.getLsbD_shiftLeft]
    omega

/-! The same turn over the model's whole numbers. -/
theorem xor_int (a b : BitVec 32) : bits .xor .u32 (a.toNat : Int) (b.toNat : Int) = ((a ^^^ b).toNat : Int) := by
  rw [u32_xor_nat _ _ a.isLt b.isLt, BitVec.toNat_xor]
theorem and_one (a : BitVec 32) : bits .and .u32 (a.toNat : Int) 1 = if a.getLsbD 0 then 1 else 0 := by
  have h := u32_and_nat a.toNat 1 a.isLt (by decide)
  rw [show ((1 : Nat) : Int) = 1 from rfl] at h
  rw [h, nat_mask1, show a.getLsbD 0 = a.toNat.testBit 0 from rfl, Nat.testBit_zero]
  rcases Nat.mod_two_eq_zero_or_one a.toNat with e | e <;> simp [e]
theorem half (a : BitVec 32) : (a.toNat : Int) / (2 : Int) = ((a >>> 1).toNat : Int) := by
  rw [BitVec.toNat_ushiftRight, Nat.shiftRight_eq_div_pow]; rfl
theorem stepS (a : BitVec 32) : bits .xor .u32 ((a.toNat : Int) / 2) ((3988292384 * bits .and .u32 (a.toNat : Int) 1) % 4294967296) = ((st a).toNat : Int) := by
  rw [half, and_one]
  unfold st
  cases a.getLsbD 0
  · exact xor_int (a >>> 1) 0#32
  · exact xor_int (a >>> 1) poly
theorem stepR (a : BitVec 32) : (if bits .and .u32 (a.toNat : Int) 1 = 1 then bits .xor .u32 ((a.toNat : Int) / 2) 3988292384 else (a.toNat : Int) / 2) = ((st a).toNat : Int) := by
  rw [half, and_one]
  unfold st
  cases a.getLsbD 0
  · simp
  · exact xor_int (a >>> 1) poly
theorem by8_toNat (c : UInt8) : (by8 c).toNat = c.toNat := by
  unfold by8
  rw [BitVec.toNat_setWidth, Nat.mod_eq_of_lt]
  · rfl
  · exact Nat.lt_of_lt_of_le c.toBitVec.isLt (by decide)
theorem in_int (a : BitVec 32) (c : UInt8) : bits .xor .u32 (a.toNat : Int) (c.toNat : Int) = ((a ^^^ by8 c).toNat : Int) := by
  rw [← by8_toNat c]; exact xor_int a (by8 c)
theorem out_int (a : BitVec 32) : bits .xor .u32 (a.toNat : Int) 4294967295 = ((a ^^^ ones).toNat : Int) := xor_int a ones
theorem out_int' (a : BitVec 32) : bits .xor .u32 IntKind.u32.max (a.toNat : Int) = ((a ^^^ ones).toNat : Int) := by
  rw [BitVec.xor_comm]; exact xor_int ones a
theorem it_succ : ∀ (k : Nat) (b : BitVec 32), it (k + 1) b = st (it k b)
  | 0, _ => rfl
  | k + 1, b => it_succ k (st b)
theorem wrap_nat (a : BitVec 32) : wrap64 (a.toNat : Int) = a.toNat := by
  have := a.isLt
  unfold wrap64
  omega
/-- A text's sum. -/
def sumI (l : List UInt8) : Int := ((sumB l).toNat : Int)
theorem sumI_bd (l : List UInt8) : 0 ≤ sumI l ∧ sumI l < 4294967296 := by
  have := (sumB l).isLt
  unfold sumI
  omega
end Go.Proofs.Ytbbakifachemcaa.Crc
