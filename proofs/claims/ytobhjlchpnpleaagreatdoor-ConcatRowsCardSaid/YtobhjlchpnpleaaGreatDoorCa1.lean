/- Several texts in one: ValPure, TypPure, FitsPure, BitsPure, NumPure, ValLaw, BldPure, EndPure, PartsPure, MayPure, FitPure, PtsPure, ArrPure. -/
import Derived.Lib.AtoiAll
import Derived.Lib.IndexMore
import Derived.Lib.ItoaNum
import Derived.Laws.BitsAllLaws
import Derived.IntWalk
import Derived.Lib.AtoiAllCases
import Derived.Laws.Entries
/- Values as texts, in plain Lean: the taker's steps. No program. -/
namespace Go.Proofs.YtobhjlchpnpleaaGreatDoor.Vp
set_option linter.unusedVariables false
open Go

abbrev Txt := List UInt8

/-- A taker: what is left; whether something was not as it should be. -/
structure Tk where
 rest : Txt
 bad : Bool
 deriving DecidableEq

def byte : Tk → UInt8 × Tk
 | ⟨[], _⟩ => (0, ⟨[], true⟩)
 | ⟨c :: r, bad⟩ => (c, ⟨r, bad⟩)

/-- What Atoi gives: the number, and whether it is one. -/
def atoi (l : Txt) : Int × Bool :=
 match Lib.atoiAll l with
 | .ok v => (v, true)
 | .range => (Lib.atoiSat l, false)
 | _ => (0, false)

def number (t : Tk) (e : UInt8) : Int × Txt × Tk :=
 let c := Lib.cut t.rest [e]
 let a := atoi c.1
 (a.1, c.1, ⟨c.2.1, t.bad || !c.2.2 || !a.2 || (Lib.itoa a.1 != c.1)⟩)

def bytes (t : Tk) (n : Int) : Txt × Tk :=
 if t.bad = true ∨ n < 0 ∨ (t.rest.length : Int) < n then ([], ⟨t.rest, true⟩) else (t.rest.take n.toNat, ⟨t.rest.drop n.toNat, t.bad⟩)

/-- Does the row go on? -/
def goes (e : UInt8) (t : Tk) : Bool := !t.bad && (match t.rest with | [] => false | c :: _ => c != e)

def rowLoop (f : Tk → Tk) (e : UInt8) : Nat → Tk → List Txt → List Txt × Tk
 | 0, t, out => (out, t)
 | n + 1, t, out => if goes e t then rowLoop f e n (f t) (out ++ [t.rest.take (t.rest.length - (f t).rest.length)]) else (out, t)

def row (f : Tk → Tk) (e : UInt8) (t : Tk) : List Txt × Tk :=
 let r := rowLoop f e (t.rest.length + 1) t []
 (r.1, (byte r.2).2)

/-- A value that may hold so many others in one another, less one. -/
def value : Nat → Tk → Int × List Txt × Tk
 | 0, t => (0, [], ⟨t.rest, true⟩)
 | d + 1, t =>
  let b := byte t
  if b.1 = 110 then (-1, [], b.2)
  else if b.1 = 105 then let n := number b.2 59; (0, [n.2.1], n.2.2)
  else if b.1 = 116 ∨ b.1 = 102 then (1, [[b.1]], b.2)
  else if b.1 = 115 then let n := number b.2 58; let s := bytes n.2.2 n.1; (2, [s.1], s.2)
  else if b.1 = 91 then let r := row (fun t => (value d t).2.2) 93 b.2; (3, r.1, r.2)
  else if b.1 = 123 then let r := row (fun t => (value d t).2.2) 125 b.2; (4, r.1, r.2)
  else (0, [], ⟨b.2.rest, true⟩)

/-- The kind, the parts, and whether it is a value. -/
def parts (v : Txt) : Int × List Txt × Int :=
 if 65536 < v.length then (0, [], 700)
 else
  let r := value 5 ⟨v, false⟩
  if r.2.2.bad = true ∨ r.2.2.rest ≠ [] then (0, [], 700) else (r.1, r.2.1, 0)

def join (vs : List Txt) : Txt := vs.flatten
def int (x : Int) : Txt := 105 :: (Lib.itoa x ++ [59])
def bool (on : Bool) : Txt := if on then [116] else [102]
def str (s : Txt) : Txt := 115 :: (Lib.itoa s.length ++ 58 :: s)
def list (vs : List Txt) : Txt := 91 :: (join vs ++ [93])
def struct (vs : List Txt) : Txt := 123 :: (join vs ++ [125])

/-! What is left never grows; a step of a row takes something, or fails. -/
theorem byte_le (t : Tk) : (byte t).2.rest.length ≤ t.rest.length := by
 obtain ⟨s, bad⟩ := t
 cases s <;> simp [byte]
theorem byte_lt (t : Tk) (h : t.rest ≠ []) : (byte t).2.rest.length < t.rest.length := by
 obtain ⟨s, bad⟩ := t
 cases s <;> simp_all [byte]
theorem cut_le (s sep : Txt) : (Lib.cut s sep).2.1.length ≤ s.length := by
 unfold Lib.cut
 split <;> simp
theorem number_le (t : Tk) (e : UInt8) : (number t e).2.2.rest.length ≤ t.rest.length := cut_le _ _
theorem bytes_le (t : Tk) (n : Int) : (bytes t n).2.rest.length ≤ t.rest.length := by
 unfold bytes
 split <;> simp
theorem rowLoop_le (f : Tk → Tk) (e : UInt8) (hf : ∀ t, (f t).rest.length ≤ t.rest.length) : ∀ (n : Nat) (t : Tk) (out : List Txt), (rowLoop f e n t out).2.rest.length ≤ t.rest.length
 | 0, t, out => by simp [rowLoop]
 | n + 1, t, out => by
  rw [rowLoop]
  split
  ·exact Nat.le_trans (rowLoop_le f e hf n _ _) (hf t)
  ·exact Nat.le_refl _
theorem row_le (f : Tk → Tk) (e : UInt8) (hf : ∀ t, (f t).rest.length ≤ t.rest.length) (t : Tk) : (row f e t).2.rest.length ≤ t.rest.length :=
 Nat.le_trans (byte_le _) (rowLoop_le f e hf _ _ _)
theorem value_le : ∀ (d : Nat) (t : Tk), (value d t).2.2.rest.length ≤ t.rest.length
 | 0, t => by simp [value]
 | d + 1, t => by
  have hb := byte_le t
  have hr : ∀ e, (row (fun t => (value d t).2.2) e (byte t).2).2.rest.length ≤ t.rest.length := fun e => Nat.le_trans (row_le _ _ (value_le d) _) hb
  have hn : ∀ e, (number (byte t).2 e).2.2.rest.length ≤ t.rest.length := fun e => Nat.le_trans (number_le _ _) hb
  simp only [value]
  split
  ·exact hb
  split
  ·exact hn 59
  split
  ·exact hb
  split
  ·exact Nat.le_trans (bytes_le _ _) (hn 58)
  split
  ·exact hr 93
  split
  ·exact hr 125
  ·exact hb
theorem value_step (d : Nat) (t : Tk) (h : t.rest ≠ []) : (value d t).2.2.rest.length < t.rest.length ∨ (value d t).2.2.bad = true := by
 cases d with
 | zero => simp [value]
 | succ d =>
  have hb := byte_lt t h
  have hr : ∀ e, (row (fun t => (value d t).2.2) e (byte t).2).2.rest.length < t.rest.length := fun e => Nat.lt_of_le_of_lt (row_le _ _ (value_le d) _) hb
  have hn : ∀ e, (number (byte t).2 e).2.2.rest.length < t.rest.length := fun e => Nat.lt_of_le_of_lt (number_le _ _) hb
  simp only [value]
  split
  ·exact .inl hb
  split
  ·exact .inl (hn 59)
  split
  ·exact .inl hb
  split
  ·exact .inl (Nat.lt_of_le_of_lt (bytes_le _ _) (hn 58))
  split
  ·exact .inl (hr 93)
  split
  ·exact .inl (hr 125)
  ·exact .inr rfl

/-- How many rounds are left at most. -/
def left (t : Tk) : Nat := if t.bad then 0 else t.rest.length
theorem rowLoop_end (f : Tk → Tk) (e : UInt8) (n : Nat) (t : Tk) (out : List Txt) (h : goes e t = false) : rowLoop f e n t out = (out, t) := by
 cases n with
 | zero => rfl
 | succ n => rw [rowLoop, if_neg (by simp [h])]
theorem goes_iff (e : UInt8) (t : Tk) : goes e t = true ↔ t.bad = false ∧ ∃ c r, t.rest = c :: r ∧ c ≠ e := by
 obtain ⟨s, bad⟩ := t
 cases s with
 | nil => simp [goes]
 | cons c r =>
  simp only [goes, Bool.and_eq_true, bne_iff_ne, ne_eq]
  constructor
  ·rintro ⟨h1, h2⟩
   exact ⟨by simpa using h1, c, r, rfl, h2⟩
  ·rintro ⟨h1, c', r', h2, h3⟩
   obtain ⟨rfl, rfl⟩ := List.cons.inj h2
   exact ⟨by simpa using h1, h3⟩
theorem rowLoop_go (f : Tk → Tk) (e : UInt8) (n : Nat) (t : Tk) (out : List Txt) (h : goes e t = true) (hn : left t ≤ n) :
  ∃ m, n = m + 1 ∧ rowLoop f e n t out = rowLoop f e m (f t) (out ++ [t.rest.take (t.rest.length - (f t).rest.length)]) := by
 obtain ⟨hb, c, r, hr, _⟩ := (goes_iff e t).1 h
 cases n with
 | zero => simp [left, hb, hr] at hn
 | succ m => exact ⟨m, rfl, by rw [rowLoop, if_pos h]⟩
theorem left_step (d : Nat) (t : Tk) (e : UInt8) (h : goes e t = true) : left (value d t).2.2 < left t := by
 obtain ⟨hb, c, r, hr, _⟩ := (goes_iff e t).1 h
 have hs := value_step d t (by simp [hr])
 unfold left
 rw [hb]
 simp only [Bool.false_eq_true, if_false]
 split
 ·simp [hr]
 ·rcases hs with hs | hs
  ·exact hs
  ·contradiction
end Go.Proofs.YtobhjlchpnpleaaGreatDoor.Vp

/- Types, in plain Lean. No program. -/
namespace Go.Proofs.YtobhjlchpnpleaaGreatDoor.Tp
set_option linter.unusedVariables false

structure Nd where
 kind : Int
 parent : Int
 null : Bool
 deriving DecidableEq, Inhabited

def inner (k : Int) : Bool := k == 3 || k == 4
def kindOf (ns : List Nd) (i : Nat) : Int := (ns.getD i default).kind
def parentOf (ns : List Nd) (i : Nat) : Int := (ns.getD i default).parent

def stands (ns : List Nd) (i : Nat) : Bool :=
 if i = 0 then parentOf ns i == -1 else decide (0 ≤ parentOf ns i) && (decide (parentOf ns i < i) && inner (kindOf ns (parentOf ns i).toNat))

def isKid (ns : List Nd) (p : Int) (i : Nat) : Bool := decide (0 < i) && parentOf ns i == p
def kidsTo (ns : List Nd) (p : Int) (n : Nat) : List Nat := (List.range n).filter (isKid ns p)
def kids (ns : List Nd) (p : Int) : List Nat := kidsTo ns p ns.length
theorem kidsTo_succ (ns : List Nd) (p : Int) (n : Nat) : kidsTo ns p (n + 1) = kidsTo ns p n ++ (if isKid ns p n then [n] else []) := by
 unfold kidsTo
 rw [List.range_succ, List.filter_append]
 simp only [List.filter_cons, List.filter_nil]

/-- The way up from a node, so many steps at most. -/
def way (ns : List Nd) : Nat → Int → List Int
 | 0, _ => []
 | n + 1, i => if 0 ≤ i then i :: way ns n (parentOf ns i.toNat) else []

def okOne (ns : List Nd) (i : Nat) : Bool := decide (0 ≤ kindOf ns i) && (decide (kindOf ns i ≤ 4) && stands ns i)
def okTwo (ns : List Nd) (i : Nat) : Bool :=
 !((kindOf ns i == 3 && (kids ns i).length != 1) || ((kindOf ns i == 4 && (kids ns i).length == 0) || decide (5 < (way ns (ns.length + 1) i).length)))
def may (ns : List Nd) : Bool := decide (ns ≠ [] ∧ ns.length ≤ 8) && ((List.range ns.length).all (okOne ns) && (List.range ns.length).all (okTwo ns))
def node (ns : List Nd) (at_ : Int) : Bool := may ns && decide (0 ≤ at_ ∧ at_ < ns.length)

theorem node_two (ns : List Nd) (m : Nat) (hm : m < ns.length) (hnd : node ns m = true) : okTwo ns m = true := by
 unfold node may at hnd
 simp only [Bool.and_eq_true] at hnd
 exact (List.all_eq_true.1 hnd.1.2.2) m (List.mem_range.2 hm)
theorem kids_one (ns : List Nd) (m : Nat) (hm : m < ns.length) (hnd : node ns m = true) (hk : kindOf ns m = 3) : ∃ k, kids ns m = [k] ∧ k ≤ 65536 := by
 have h := node_two ns m hm hnd
 unfold okTwo at h
 rw [hk] at h
 simp only [beq_self_eq_true, Bool.true_and, Bool.not_eq_true', Bool.or_eq_false_iff, bne_eq_false_iff_eq] at h
 obtain ⟨k, hk⟩ := List.length_eq_one_iff.1 h.1
 refine ⟨k, hk, ?_⟩
 have hmem : k ∈ kids ns m := by rw [hk]; simp
 unfold kids kidsTo at hmem
 have h1 := (List.mem_filter.1 hmem).1
 rw [List.mem_range] at h1
 unfold node may at hnd
 simp only [Bool.and_eq_true, decide_eq_true_eq] at hnd
 omega
end Go.Proofs.YtobhjlchpnpleaaGreatDoor.Tp

/- Which values fit a node, in plain Lean. No program. -/
namespace Go.Proofs.YtobhjlchpnpleaaGreatDoor.Vp
set_option linter.unusedVariables false
open Tp

def allOf (f : Nat → Txt → Bool) (ks : List Nat) (ps : List Txt) : Bool :=
 (List.range (min ks.length ps.length)).all (fun i => f (ks.getD i 0) (ps.getD i [])) && (ks.length == ps.length)

/-- The fuel: more than the text's length. -/
def fits (ns : List Nd) : Nat → Int → Txt → Bool
 | 0, _, _ => false
 | n + 1, x, v =>
  if node ns x then
   let r := parts v
   let nd := ns.getD x.toNat default
   if r.2.2 ≠ 0 ∨ r.1 = -1 then (r.2.2 == 0) && nd.null
   else if r.1 ≠ nd.kind then false
   else if r.1 = 2 then decide ((r.2.1.getD 0 []).length ≤ 16)
   else if r.1 = 4 then allOf (fun k p => fits ns n k p) (kids ns x) r.2.1
   else (r.2.1.all fun p => !(r.1 == 3 && !(fits ns n ((kids ns x).getD 0 0) p))) && decide (r.2.1.length ≤ 64)
  else false

/-! The parts of a list or a struct are shorter than it; bytes and numbers have one part. -/
theorem rowLoop_short (f : Tk → Tk) (e : UInt8) (m : Nat) (hf : ∀ t, (f t).rest.length ≤ t.rest.length) : ∀ (n : Nat) (t : Tk) (out : List Txt), t.rest.length ≤ m → (∀ p ∈ out, p.length ≤ m) → ∀ p ∈ (rowLoop f e n t out).1, p.length ≤ m
 | 0, t, out, _, ho, p, hp => ho p (by simpa [rowLoop] using hp)
 | n + 1, t, out, ht, ho, p, hp => by
  rw [rowLoop] at hp
  split at hp
  ·refine rowLoop_short f e m hf n _ _ (Nat.le_trans (hf t) ht) ?_ p hp
   intro q hq
   rw [List.mem_append, List.mem_singleton] at hq
   rcases hq with hq | rfl
   ·exact ho q hq
   ·exact Nat.le_trans (by simp) ht
  ·exact ho p hp
theorem row_short (f : Tk → Tk) (e : UInt8) (hf : ∀ t, (f t).rest.length ≤ t.rest.length) (t : Tk) : ∀ p ∈ (row f e t).1, p.length ≤ t.rest.length :=
 rowLoop_short f e _ hf _ t [] (Nat.le_refl _) (fun p hp => by simp at hp)
theorem value_short (d : Nat) (t : Tk) (h : t.rest ≠ []) (hk : 3 ≤ (value d t).1) : ∀ p ∈ (value d t).2.1, p.length < t.rest.length := by
 cases d with
 | zero => simp [value] at hk
 | succ d =>
  have hb := byte_lt t h
  have hr : ∀ e, ∀ p ∈ (row (fun t => (value d t).2.2) e (byte t).2).1, p.length < t.rest.length := fun e p hp => Nat.lt_of_le_of_lt (row_short _ e (value_le d) _ p hp) hb
  simp only [value] at hk ⊢
  split at hk
  ·simp at hk
  split at hk
  ·simp at hk
  split at hk
  ·simp at hk
  split at hk
  ·simp at hk
  rename_i h1 h2 h3 h4
  rw [if_neg h1, if_neg h2, if_neg h3, if_neg h4]
  split
  ·exact hr 93
  split
  ·exact hr 125
  ·intro p hp; simp at hp
theorem parts_short (v : Txt) (hk : 3 ≤ (parts v).1) : ∀ p ∈ (parts v).2.1, p.length < v.length := by
 unfold parts at hk ⊢
 split at hk
 ·simp at hk
 ·rename_i hl
  rw [if_neg hl]
  simp only at hk ⊢
  split at hk
  ·simp at hk
  ·rename_i hb
   rw [if_neg hb]
   cases v with
   | nil => simp [value, byte] at hb
   | cons c r => exact value_short 5 ⟨c :: r, false⟩ (by simp) hk
theorem value_one (d : Nat) (t : Tk) (hk : (value d t).1 = 2) : (value d t).2.1.length = 1 := by
 cases d with
 | zero => simp [value] at hk
 | succ d =>
  simp only [value] at hk ⊢
  split at hk
  ·simp at hk
  split at hk
  ·simp at hk
  split at hk
  ·simp at hk
  rename_i h1 h2 h3
  rw [if_neg h1, if_neg h2, if_neg h3]
  split at hk
  ·rename_i h4
   rw [if_pos h4]; rfl
  split at hk
  ·simp at hk
  split at hk
  ·simp at hk
  ·simp at hk
theorem parts_one (v : Txt) (hk : (parts v).1 = 2) : (parts v).2.1.length = 1 := by
 unfold parts at hk ⊢
 split at hk
 ·simp at hk
 ·rename_i hl
  rw [if_neg hl]
  simp only at hk ⊢
  split at hk
  ·simp at hk
  ·rename_i hb
   rw [if_neg hb]
   exact value_one 5 _ hk
theorem parts_len (v : Txt) (p : Txt) (hp : p ∈ (parts v).2.1) (hk : 3 ≤ (parts v).1) : p.length ≤ 65536 := by
 have := parts_short v hk p hp
 unfold parts at hk
 split at hk
 ·simp at hk
 ·omega
theorem list_all_of (f : Txt → Bool) (ps : List Txt) (h : ∀ j, j < ps.length → f (ps.getD j []) = true) : ∀ p ∈ ps, f p = true := by
 intro p hp
 obtain ⟨j, hj, rfl⟩ := List.getElem_of_mem hp
 have := h j hj
 rwa [List.getD_eq_getElem?_getD, List.getElem?_eq_getElem hj] at this
end Go.Proofs.YtobhjlchpnpleaaGreatDoor.Vp

/- Rows of bits: plain law. No program stands here. -/
namespace Go.Proofs.YtobhjlchpnpleaaGreatDoor.Bt

/-- Bit i of a text (0, where there is none). -/
def bit (l : List UInt8) (i : Nat) : Bool := (l.getD (i / 8) 0).toNat.testBit (i % 8)
theorem byte_bit (c : UInt8) (k : Nat) : (bits .and .u8 ((c.toNat : Int) / (2 : Int) ^ k) 1 == 1) = c.toNat.testBit k := by
 have h : ((c.toNat : Int) / (2 : Int) ^ k) = ((c.toNat >>> k : Nat) : Int) := by rw [Nat.shiftRight_eq_div_pow]; simp
 have hc := c.toNat_lt
 have hs : c.toNat >>> k ≤ c.toNat := by rw [Nat.shiftRight_eq_div_pow]; exact Nat.div_le_self _ _
 have h1 := u8_and_nat (c.toNat >>> k) 1 (by omega) (by decide)
 rw [show ((1 : Nat) : Int) = 1 from rfl] at h1
 rw [h, h1, nat_mask1]
 have e : (((c.toNat >>> k % 2 : Nat) : Int) == 1) = (c.toNat >>> k % 2 == 1) := by
  rw [Bool.eq_iff_iff, beq_iff_eq, beq_iff_eq]; omega
 rw [e]
 simp [Nat.testBit, Nat.and_comm 1, Nat.and_one_is_mod]

/-- The number of n bits from one on. -/
def num (f : Nat → Bool) (o : Nat) : Nat → Nat
 | 0 => 0
 | k + 1 => num f o k ||| (if f (o + k) then 2 ^ k else 0)
theorem num_bit (f : Nat → Bool) (o : Nat) : ∀ n k, (num f o n).testBit k = (decide (k < n) && f (o + k))
 | 0, k => by simp [num]
 | n + 1, k => by
  rw [num, Nat.testBit_or, num_bit f o n k]
  by_cases h : k = n
  ·subst h
   cases hf : f (o + k) <;> simp
  ·cases hf : f (o + n)
   ·have : decide (k < n + 1) = decide (k < n) := by rw [decide_eq_decide]; omega
    simp [this]
   ·rw [if_pos rfl, Nat.testBit_two_pow]
    have : decide (k < n + 1) = decide (k < n) := by rw [decide_eq_decide]; omega
    simp [this, Ne.symm h]
theorem num_lt (f : Nat → Bool) (o n : Nat) : num f o n < 2 ^ n := by
 apply Nat.lt_pow_two_of_testBit
 intro i hi
 rw [num_bit]
 simp; omega
def packB (f : Nat → Bool) (j : Nat) : UInt8 := UInt8.ofNat (num f (8 * j) 8)
theorem packB_bit (f : Nat → Bool) (j k : Nat) : (packB f j).toNat.testBit k = (decide (k < 8) && f (8 * j + k)) := by
 have h := num_lt f (8 * j) 8
 unfold packB
 rw [UInt8.toNat_ofNat', Nat.mod_eq_of_lt (by simpa using h), num_bit]
theorem u8_ext (a b : UInt8) (h : ∀ k, k < 8 → a.toNat.testBit k = b.toNat.testBit k) : a = b := by
 apply UInt8.toNat_inj.1
 apply Nat.eq_of_testBit_eq
 intro k
 by_cases hk : k < 8
 ·exact h k hk
 ·rw [Nat.testBit_lt_two_pow (Nat.lt_of_lt_of_le a.toNat_lt (Nat.pow_le_pow_right (by decide) (by omega))), Nat.testBit_lt_two_pow (Nat.lt_of_lt_of_le b.toNat_lt (Nat.pow_le_pow_right (by decide) (by omega)))]
def mask (k : Nat) : UInt8 := UInt8.ofNat (2 ^ k)
theorem mask_toNat (k : Nat) (h : k < 8) : (mask k).toNat = 2 ^ k := by
 unfold mask
 rw [UInt8.toNat_ofNat', Nat.mod_eq_of_lt (Nat.pow_lt_pow_right (by decide) h)]
theorem packB_or (f g : Nat → Bool) (i : Nat) (hi : g i = true) (h : ∀ j, j ≠ i → g j = f j) : packB f (i / 8) ||| mask (i % 8) = packB g (i / 8) := by
 apply u8_ext
 intro k hk
 rw [UInt8.toNat_or, Nat.testBit_or, packB_bit, packB_bit, mask_toNat _ (Nat.mod_lt _ (by decide)), Nat.testBit_two_pow]
 by_cases e : 8 * (i / 8) + k = i
 ·have : i % 8 = k := by omega
  simp [e, this, hi, hk]
 ·have : ¬ i % 8 = k := by omega
  simp [h _ e, this]
theorem packB_same (f g : Nat → Bool) (j : Nat) (h : ∀ k, k < 8 → f (8 * j + k) = g (8 * j + k)) : packB f j = packB g j := by
 apply u8_ext
 intro k hk
 rw [packB_bit, packB_bit, h k hk]

/-- The bytes of some bits. -/
def bytesOf (f : Nat → Bool) (m : Nat) : List UInt8 := (List.range m).map (packB f)
theorem bytesOf_length (f : Nat → Bool) (m : Nat) : (bytesOf f m).length = m := by simp [bytesOf]
def upto (xs : List Bool) (k : Nat) (i : Nat) : Bool := decide (i < k) && xs.getD i false
def packed (xs : List Bool) : List UInt8 := bytesOf (fun i => xs.getD i false) ((xs.length + 7) / 8)
theorem packed_all (xs : List Bool) : bytesOf (upto xs xs.length) ((xs.length + 7) / 8) = packed xs := by
 unfold packed bytesOf
 apply List.map_congr_left
 intro j _
 apply packB_same
 intro k _
 unfold upto
 by_cases h : 8 * j + k < xs.length
 ·simp [h]
 ·simp [h]
theorem packed_none (xs : List Bool) (m : Nat) : bytesOf (upto xs 0) m = List.replicate m 0 := by
 unfold bytesOf
 apply List.ext_getElem (by simp)
 intro j h1 h2
 simp only [List.getElem_map, List.getElem_range, List.getElem_replicate]
 apply u8_ext
 intro k hk
 rw [packB_bit]
 simp [upto]
theorem packed_set (xs : List Bool) (k m : Nat) (hx : xs.getD k false = true) (_hm : k / 8 < m) :
  (bytesOf (upto xs k) m).set (k / 8) (packB (upto xs k) (k / 8) ||| mask (k % 8)) = bytesOf (upto xs (k + 1)) m := by
 rw [packB_or (upto xs k) (upto xs (k + 1)) k (by unfold upto; rw [hx]; simp) (fun j hj => by unfold upto; congr 1; rw [decide_eq_decide]; omega)]
 unfold bytesOf
 apply List.ext_getElem (by simp)
 intro j h1 h2
 rw [List.getElem_set]
 by_cases e : k / 8 = j
 ·subst e; simp
 ·rw [if_neg e]
  simp only [List.getElem_map, List.getElem_range]
  apply packB_same
  intro i hi
  unfold upto
  congr 1
  rw [decide_eq_decide]
  omega
theorem packed_skip (xs : List Bool) (k m : Nat) (hx : xs.getD k false = false) : bytesOf (upto xs k) m = bytesOf (upto xs (k + 1)) m := by
 unfold bytesOf
 apply List.map_congr_left
 intro j _
 apply packB_same
 intro i _
 unfold upto
 by_cases e : 8 * j + i = k
 ·rw [e, hx]; simp
 ·congr 1; rw [decide_eq_decide]; omega

theorem packed_bit (xs : List Bool) (i : Nat) : bit (packed xs) i = xs.getD i false := by
 unfold bit packed
 by_cases h : i / 8 < (xs.length + 7) / 8
 ·have : (bytesOf (fun i => xs.getD i false) ((xs.length + 7) / 8)).getD (i / 8) 0 = packB (fun i => xs.getD i false) (i / 8) := by
   rw [List.getD_eq_getElem?_getD, List.getElem?_eq_getElem (by rw [bytesOf_length]; exact h)]
   simp [bytesOf]
  rw [this, packB_bit]
  have e : 8 * (i / 8) + i % 8 = i := by omega
  have h8 : i % 8 < 8 := Nat.mod_lt _ (by decide)
  simp [e, h8]
 ·rw [List.getD_eq_getElem?_getD, List.getElem?_eq_none (by rw [bytesOf_length]; omega)]
  have hx : xs.length ≤ i := by omega
  simp [hx]

end Go.Proofs.YtobhjlchpnpleaaGreatDoor.Bt

/- Numbers as digits, in plain Lean: what is written comes back. No program. -/
namespace Go.Proofs.YtobhjlchpnpleaaGreatDoor.Vp
set_option linter.unusedVariables false
open Go

def dval (a : Nat) (l : Txt) : Nat := l.foldl (fun a c => a * 10 + (c.toNat - 48)) a
theorem dval_nil (a : Nat) : dval a [] = a := rfl
theorem dval_cons (a : Nat) (c : UInt8) (l : Txt) : dval a (c :: l) = dval (a * 10 + (c.toNat - 48)) l := by unfold dval; rw [List.foldl_cons]
theorem dval_append (a : Nat) (l m : Txt) : dval a (l ++ m) = dval (dval a l) m := by unfold dval; rw [List.foldl_append]
theorem dval_ge (l : Txt) : ∀ a, a ≤ dval a l := by
 induction l with
 | nil => intro a; exact Nat.le_refl _
 | cons c l ih => intro a; rw [dval_cons]; exact Nat.le_trans (by omega) (ih _)
theorem parse_ok (l : Txt) : ∀ a, (∀ c ∈ l, 48 ≤ c.toNat ∧ c.toNat ≤ 57) → dval a l < 18446744073709551616 → Lib.parseUint10 a l = .ok (dval a l) := by
 induction l with
 | nil => intro a _ _; rfl
 | cons c l ih =>
  intro a hd hb
  have h1 := hd c (by simp)
  rw [dval_cons] at hb ⊢
  have h2 := dval_ge l (a * 10 + (c.toNat - 48))
  rw [Lib.parseUint10, if_pos h1, if_neg (by omega), if_neg (by omega)]
  exact ih _ (fun c hc => hd c (by simp [hc])) hb
theorem dig (u : Nat) (h : u < 10) : (UInt8.ofNat (48 + u)).toNat = 48 + u := by
 rw [UInt8.toNat_ofNat']; omega
theorem dec_all (u : Nat) : ∀ c ∈ Lib.decDigits u, 48 ≤ c.toNat ∧ c.toNat ≤ 57 := by
 induction u using Nat.strongRecOn with
 | ind u ih =>
  rw [Lib.decDigits]
  split
  ·rename_i h
   intro c hc
   rw [List.mem_singleton] at hc
   subst hc
   rw [dig u h]
   omega
  ·rename_i h
   intro c hc
   rw [List.mem_append, List.mem_singleton] at hc
   rcases hc with hc | rfl
   ·exact ih (u / 10) (by omega) c hc
   ·rw [dig _ (Nat.mod_lt _ (by omega))]
    omega
theorem dval_dec (u : Nat) : dval 0 (Lib.decDigits u) = u := by
 induction u using Nat.strongRecOn with
 | ind u ih =>
  rw [Lib.decDigits]
  split
  ·rename_i h
   rw [dval_cons, dval_nil, dig u h]
   omega
  ·rename_i h
   rw [dval_append, ih (u / 10) (by omega), dval_cons, dval_nil, dig _ (Nat.mod_lt _ (by omega))]
   omega
theorem dec_ne (u : Nat) : Lib.decDigits u ≠ [] := by
 rw [Lib.decDigits]
 split <;> simp
theorem parseMag_dec (u : Nat) (h : u < 18446744073709551616) : Lib.parseMag (Lib.decDigits u) = .ok u := by
 unfold Lib.parseMag
 rw [if_neg (dec_ne u), parse_ok _ 0 (dec_all u) (by rw [dval_dec]; exact h), dval_dec]
theorem atoiAll_itoa (x : Int) (h0 : -9223372036854775808 ≤ x) (h1 : x ≤ 9223372036854775807) : Lib.atoiAll (Lib.itoa x) = .ok x := by
 unfold Lib.itoa
 split
 ·rename_i hx
  unfold Lib.atoiAll
  simp only
  rw [if_pos (Or.inr (by decide)), parseMag_dec _ (by omega)]
  simp only
  rw [if_neg (by simp), if_neg (by simp; omega), if_pos (by rfl)]
  congr 1
  omega
 ·rename_i hx
  unfold Lib.atoiAll
  have hne := dec_ne x.toNat
  have hall := dec_all x.toNat
  have hm := parseMag_dec x.toNat (by omega)
  generalize Lib.decDigits x.toNat = l at hne hall hm
  cases l with
  | nil => exact absurd rfl hne
  | cons c r =>
   have hc := hall c (by simp)
   simp only
   rw [if_neg (by omega), hm]
   simp only
   rw [if_neg (by omega), if_neg (by omega), if_neg (by omega)]
   congr 1
   omega
theorem atoi_itoa (x : Int) (h0 : -9223372036854775808 ≤ x) (h1 : x ≤ 9223372036854775807) : atoi (Lib.itoa x) = (x, true) := by
 unfold atoi
 rw [atoiAll_itoa x h0 h1]
theorem atoi_range (l : Txt) (h : (atoi l).2 = true) : -9223372036854775808 ≤ (atoi l).1 ∧ (atoi l).1 ≤ 9223372036854775807 := by
 unfold atoi at h ⊢
 rcases ha : Lib.atoiAll l with v | _ | _
 ·exact Lib.atoiAll_bounds ha
 ·simp [ha] at h
 ·simp [ha] at h
theorem itoa_sign (x : Int) : ∀ c ∈ Lib.itoa x, c.toNat = 45 ∨ (48 ≤ c.toNat ∧ c.toNat ≤ 57) := by
 unfold Lib.itoa
 split
 ·intro c hc
  rw [List.mem_cons] at hc
  rcases hc with rfl | hc
  ·exact .inl rfl
  ·exact .inr (dec_all _ c hc)
 ·intro c hc
  exact .inr (dec_all _ c hc)
theorem itoa_no (x : Int) (e : UInt8) (he : e.toNat = 58 ∨ e.toNat = 59) : e ∉ Lib.itoa x := by
 intro h
 have := itoa_sign x e h
 omega
theorem itoa_inj (x y : Int) (hx0 : -9223372036854775808 ≤ x) (hx1 : x ≤ 9223372036854775807) (hy0 : -9223372036854775808 ≤ y) (hy1 : y ≤ 9223372036854775807) (h : Lib.itoa x = Lib.itoa y) : x = y := by
 have h1 := atoi_itoa x hx0 hx1
 rw [h, atoi_itoa y hy0 hy1] at h1
 exact (congrArg Prod.fst h1).symm

theorem decLen (k : Nat) : ∀ n : Nat, n < 10 ^ (k + 1) → (Lib.decDigits n).length ≤ k + 1 := by
 induction k with
 | zero =>
  intro n h
  rw [Lib.decDigits, dif_pos (by omega)]
  simp
 | succ k ih =>
  intro n h
  rw [Lib.decDigits]
  split
  ·simp
  ·rw [List.length_append, List.length_singleton]
   have := ih (n / 10) (by rw [Nat.pow_succ] at h; omega)
   omega
theorem digitsLen (x : Int) (h0 : -9223372036854775808 ≤ x) (h1 : x ≤ 9223372036854775807) : (Lib.itoa x).length ≤ 20 := by
 unfold Lib.itoa
 split
 ·rw [List.length_cons]
  have := decLen 18 x.natAbs (by omega)
  omega
 ·have := decLen 18 x.toNat (by omega)
  omega

/-! cut at one sign. -/
theorem index_one (D r : Txt) (e : UInt8) (h : e ∉ D) : Lib.index (D ++ e :: r) [e] = (D.length : Int) := by
 induction D with
 | nil => simp [Lib.index, List.isPrefixOf]
 | cons c D ih =>
  have hc : ¬ e = c := fun hh => h (by simp [hh])
  have ih' := ih (fun hh => h (by simp [hh]))
  rw [List.cons_append, Lib.index, ih']
  have hp : List.isPrefixOf [e] (c :: (D ++ e :: r)) = false := by simp [List.isPrefixOf, hc]
  rw [hp]
  simp only [Bool.false_eq_true, if_false]
  rw [if_neg (by simp), List.length_cons]
  omega
theorem index_none (s : Txt) (e : UInt8) (h : e ∉ s) : Lib.index s [e] = -1 := by
 induction s with
 | nil => simp [Lib.index]
 | cons c D ih =>
  have hc : ¬ e = c := fun hh => h (by simp [hh])
  have hp : List.isPrefixOf [e] (c :: D) = false := by simp [List.isPrefixOf, hc]
  rw [Lib.index, hp, ih (fun hh => h (by simp [hh]))]
  simp
theorem cut_one (D r : Txt) (e : UInt8) (h : e ∉ D) : Lib.cut (D ++ e :: r) [e] = (D, r, true) := by
 unfold Lib.cut
 rw [index_one D r e h, if_pos (by omega)]
 simp
theorem cut_none (s : Txt) (e : UInt8) (h : e ∉ s) : Lib.cut s [e] = (s, [], false) := by
 unfold Lib.cut
 rw [index_none s e h, if_neg (by omega)]
theorem split_at (s : Txt) (e : UInt8) : e ∉ s ∨ ∃ D r, s = D ++ e :: r ∧ e ∉ D := by
 induction s with
 | nil => simp
 | cons c s ih =>
  by_cases hc : e = c
  ·subst hc
   exact .inr ⟨[], s, rfl, by simp⟩
  ·rcases ih with h | ⟨D, r, rfl, h⟩
   ·exact .inl (by simp [hc, h])
   ·exact .inr ⟨c :: D, r, rfl, by simp [hc, h]⟩

theorem number_ok (x : Int) (e : UInt8) (r : Txt) (he : e.toNat = 58 ∨ e.toNat = 59) (h0 : -9223372036854775808 ≤ x) (h1 : x ≤ 9223372036854775807) :
  number ⟨Lib.itoa x ++ e :: r, false⟩ e = (x, Lib.itoa x, ⟨r, false⟩) := by
 unfold number
 simp only [cut_one _ r e (itoa_no x e he), atoi_itoa x h0 h1]
 simp
theorem number_inv (t : Tk) (e : UInt8) (h : (number t e).2.2.bad = false) :
  t.bad = false ∧ ∃ x r, t.rest = Lib.itoa x ++ e :: r ∧ -9223372036854775808 ≤ x ∧ x ≤ 9223372036854775807 ∧ number t e = (x, Lib.itoa x, ⟨r, false⟩) := by
 obtain ⟨s, bad⟩ := t
 unfold number at h ⊢
 simp only at h ⊢
 rcases split_at s e with hs | ⟨D, r, rfl, hD⟩
 ·rw [cut_none s e hs] at h
  simp at h
 ·rw [cut_one D r e hD] at h ⊢
  simp only [Bool.not_true, Bool.or_false, Bool.or_eq_false_iff, Bool.not_eq_false', bne_eq_false_iff_eq] at h
  obtain ⟨⟨hb, ha⟩, hi⟩ := h
  have hr := atoi_range D ha
  refine ⟨hb, (atoi D).1, r, by rw [hi], hr.1, hr.2, ?_⟩
  rw [hi, ha, hb]
  simp
end Go.Proofs.YtobhjlchpnpleaaGreatDoor.Vp

/- Values as texts: which texts are values, and of what parts; plain Lean. No program. -/
namespace Go.Proofs.YtobhjlchpnpleaaGreatDoor.Vp
set_option linter.unusedVariables false
open Go

/-- V is a value within d, of this kind and these parts, whatever stands behind it. -/
def Is (d : Nat) (V : Txt) (k : Int) (ps : List Txt) : Prop := ∀ r, value d ⟨V ++ r, false⟩ = (k, ps, ⟨r, false⟩)
def IsV (d : Nat) (V : Txt) : Prop := ∃ k ps, Is d V k ps

theorem value_cons (d : Nat) (c : UInt8) (r : Txt) (bad : Bool) : value (d + 1) ⟨c :: r, bad⟩ =
  if c = 110 then (-1, [], ⟨r, bad⟩)
  else if c = 105 then (0, [(number ⟨r, bad⟩ 59).2.1], (number ⟨r, bad⟩ 59).2.2)
  else if c = 116 ∨ c = 102 then (1, [[c]], ⟨r, bad⟩)
  else if c = 115 then (2, [(bytes (number ⟨r, bad⟩ 58).2.2 (number ⟨r, bad⟩ 58).1).1], (bytes (number ⟨r, bad⟩ 58).2.2 (number ⟨r, bad⟩ 58).1).2)
  else if c = 91 then (3, (row (fun t => (value d t).2.2) 93 ⟨r, bad⟩).1, (row (fun t => (value d t).2.2) 93 ⟨r, bad⟩).2)
  else if c = 123 then (4, (row (fun t => (value d t).2.2) 125 ⟨r, bad⟩).1, (row (fun t => (value d t).2.2) 125 ⟨r, bad⟩).2)
  else (0, [], ⟨r, true⟩) := rfl
theorem is_null (d : Nat) : Is (d + 1) [110] (-1) [] := fun r => by simp [value, byte]
theorem is_int (d : Nat) (x : Int) (h0 : -9223372036854775808 ≤ x) (h1 : x ≤ 9223372036854775807) : Is (d + 1) (int x) 0 [Lib.itoa x] := fun r => by
 have hn := number_ok x 59 r (by decide) h0 h1
 have e : int x ++ r = 105 :: (Lib.itoa x ++ 59 :: r) := by simp [int]
 rw [e]
 simp only [value, byte]
 rw [if_neg (by decide), if_pos trivial, hn]
theorem is_bool (d : Nat) (b : Bool) : Is (d + 1) (bool b) 1 [bool b] := fun r => by
 cases b <;> simp [value, byte, bool]
theorem is_str (d : Nat) (s : Txt) (h : s.length ≤ 9223372036854775807) : Is (d + 1) (str s) 2 [s] := fun r => by
 have hn := number_ok (s.length : Int) 58 (s ++ r) (by decide) (by omega) (by omega)
 have e : str s ++ r = 115 :: (Lib.itoa s.length ++ 58 :: (s ++ r)) := by simp [str]
 rw [e]
 simp only [value, byte]
 rw [if_neg (by decide), if_neg (by decide), if_neg (by decide), if_pos trivial, hn]
 have hb : bytes ⟨s ++ r, false⟩ (s.length : Int) = (s, ⟨r, false⟩) := by
  unfold bytes
  rw [if_neg (by simp; omega)]
  simp
 simp only [hb]

theorem isv_ne {d : Nat} {V : Txt} (h : IsV d V) : ∃ c r, V = c :: r ∧ c ≠ 93 ∧ c ≠ 125 := by
 obtain ⟨k, ps, h⟩ := h
 have h0 := h []
 rw [List.append_nil] at h0
 cases d with
 | zero => simp [value] at h0
 | succ d =>
  cases V with
  | nil => simp [value, byte] at h0
  | cons c r =>
   refine ⟨c, r, rfl, ?_, ?_⟩
   ·rintro rfl
    simp [value, byte] at h0
   ·rintro rfl
    simp [value, byte] at h0

/-- A row of values, and its end. -/
theorem rowLoop_is (d : Nat) (e : UInt8) (he : e = 93 ∨ e = 125) (r : Txt) : ∀ (vs : List Txt) (n : Nat) (out : List Txt), (∀ v ∈ vs, IsV d v) → (join vs).length < n →
  rowLoop (fun t => (value d t).2.2) e n ⟨join vs ++ e :: r, false⟩ out = (out ++ vs, ⟨e :: r, false⟩) := by
 intro vs
 induction vs with
 | nil =>
  intro n out _ hn
  rw [rowLoop_end]
  ·simp [join]
  ·simp [goes, join]
 | cons v vs ih =>
  intro n out hv hn
  obtain ⟨c, s, hc, h1, h2⟩ := isv_ne (hv v (by simp))
  obtain ⟨k, ps, hk⟩ := hv v (by simp)
  have hj : join (v :: vs) ++ e :: r = v ++ (join vs ++ e :: r) := by simp [join]
  have hlen : (join (v :: vs)).length = v.length + (join vs).length := by simp [join]
  have hgo : goes e ⟨join (v :: vs) ++ e :: r, false⟩ = true := by
   rw [hj, hc]
   rcases he with rfl | rfl <;> simp [goes, h1, h2]
  have hvl : 1 ≤ v.length := by rw [hc]; simp
  obtain ⟨m, rfl⟩ : ∃ m, n = m + 1 := ⟨n - 1, by omega⟩
  rw [rowLoop, if_pos hgo]
  have hst := hk (join vs ++ e :: r)
  rw [hj]
  simp only [hst]
  rw [ih m _ (fun v hv' => hv v (by simp [hv'])) (by omega)]
  congr 1
  rw [List.append_assoc]
  congr 1
  rw [List.length_append, Nat.add_sub_cancel, List.take_left]
  rfl
theorem row_is (d : Nat) (e : UInt8) (he : e = 93 ∨ e = 125) (r : Txt) (vs : List Txt) (hv : ∀ v ∈ vs, IsV d v) :
  row (fun t => (value d t).2.2) e ⟨join vs ++ e :: r, false⟩ = (vs, ⟨r, false⟩) := by
 unfold row
 simp only
 rw [rowLoop_is d e he r vs _ [] hv (by simp; omega)]
 simp [byte]
theorem is_list (d : Nat) (vs : List Txt) (hv : ∀ v ∈ vs, IsV d v) : Is (d + 1) (list vs) 3 vs := fun r => by
 have e : list vs ++ r = 91 :: (join vs ++ 93 :: r) := by simp [list]
 rw [e]
 simp only [value, byte]
 rw [if_neg (by decide), if_neg (by decide), if_neg (by decide), if_neg (by decide), if_pos trivial, row_is d 93 (.inl rfl) r vs hv]
theorem is_struct (d : Nat) (vs : List Txt) (hv : ∀ v ∈ vs, IsV d v) : Is (d + 1) (struct vs) 4 vs := fun r => by
 have e : struct vs ++ r = 123 :: (join vs ++ 125 :: r) := by simp [struct]
 rw [e]
 simp only [value, byte]
 rw [if_neg (by decide), if_neg (by decide), if_neg (by decide), if_neg (by decide), if_neg (by decide), if_pos trivial, row_is d 125 (.inr rfl) r vs hv]

/-! And back: what is taken was a value. -/
/-- A value's text is made of its kind and parts. -/
inductive Made : Int → List Txt → Txt → Prop where
 | null : Made (-1) [] [110]
 | int (x : Int) (h0 : -9223372036854775808 ≤ x) (h1 : x ≤ 9223372036854775807) : Made 0 [Lib.itoa x] (int x)
 | bool (b : Bool) : Made 1 [bool b] (bool b)
 | str (s : Txt) : Made 2 [s] (str s)
 | list (vs : List Txt) : Made 3 vs (list vs)
 | struct (vs : List Txt) : Made 4 vs (struct vs)

def Inv (d : Nat) : Prop := ∀ s k ps r, value d ⟨s, false⟩ = (k, ps, ⟨r, false⟩) → ∃ V, s = V ++ r ∧ Is d V k ps ∧ Made k ps V ∧ (3 ≤ k → ∃ d', d = d' + 1 ∧ ∀ p ∈ ps, IsV d' p)

/-- With rounds enough the row comes to its end. -/
theorem rowLoop_done (d : Nat) (e : UInt8) : ∀ (n : Nat) (t : Tk) (out : List Txt), left t ≤ n → goes e (rowLoop (fun t => (value d t).2.2) e n t out).2 = false := by
 intro n
 induction n with
 | zero =>
  intro t out h
  rw [rowLoop]
  obtain ⟨s, bad⟩ := t
  cases bad with
  | true => simp [goes]
  | false =>
   have : s = [] := by simpa [left] using h
   subst this
   simp [goes]
 | succ n ih =>
  intro t out h
  rw [rowLoop]
  split
  ·rename_i hg
   exact ih _ _ (by have := left_step d t e hg; omega)
  ·rename_i hg
   simpa using hg
theorem rowLoop_inv (d : Nat) (ih : Inv d) (e : UInt8) : ∀ (n : Nat) (s : Txt) (bad : Bool) (out : List Txt) (qs : List Txt) (r : Txt), rowLoop (fun t => (value d t).2.2) e n ⟨s, bad⟩ out = (qs, ⟨r, false⟩) →
  ∃ vs, qs = out ++ vs ∧ s = join vs ++ r ∧ bad = false ∧ ∀ v ∈ vs, IsV d v := by
 intro n
 induction n with
 | zero =>
  intro s bad out qs r h
  rw [rowLoop] at h
  simp only [Prod.mk.injEq, Tk.mk.injEq] at h
  obtain ⟨rfl, rfl, rfl⟩ := h
  exact ⟨[], by simp, by simp [join], rfl, by simp⟩
 | succ n ihn =>
  intro s bad out qs r h
  rw [rowLoop] at h
  split at h
  ·rename_i hg
   obtain ⟨hb, c, s', hs, hc⟩ := (goes_iff e _).1 hg
   simp only at hb hs
   subst hb
   obtain ⟨k, ps, ⟨s2, bad2⟩, hv⟩ : ∃ k ps t2, value d ⟨s, false⟩ = (k, ps, t2) := ⟨_, _, _, rfl⟩
   simp only [hv] at h
   obtain ⟨vs, hq, hs2, hb2, hall⟩ := ihn s2 bad2 _ _ _ h
   subst hb2
   obtain ⟨V, hV, hIs, hM, _⟩ := ih s k ps s2 hv
   refine ⟨V :: vs, ?_, ?_, rfl, ?_⟩
   ·rw [hq, List.append_assoc]
    congr 1
    rw [hV, List.length_append, Nat.add_sub_cancel, List.take_left]
    rfl
   ·rw [hV, hs2]; simp [join]
   ·intro v hv'
    rw [List.mem_cons] at hv'
    rcases hv' with rfl | hv'
    ·exact ⟨k, ps, hIs⟩
    ·exact hall v hv'
  ·simp only [Prod.mk.injEq, Tk.mk.injEq] at h
   obtain ⟨rfl, rfl, rfl⟩ := h
   exact ⟨[], by simp, by simp [join], rfl, by simp⟩
theorem row_inv (d : Nat) (ih : Inv d) (e : UInt8) (t : Tk) (qs : List Txt) (r : Txt) (h : row (fun t => (value d t).2.2) e t = (qs, ⟨r, false⟩)) :
  t.rest = join qs ++ e :: r ∧ t.bad = false ∧ ∀ v ∈ qs, IsV d v := by
 obtain ⟨s, bad⟩ := t
 unfold row at h
 simp only at h
 have hd := rowLoop_done d e (s.length + 1) ⟨s, bad⟩ [] (by unfold left; split <;> simp)
 obtain ⟨qs', ⟨s2, bad2⟩, hr⟩ : ∃ qs' t2, rowLoop (fun t => (value d t).2.2) e (s.length + 1) ⟨s, bad⟩ [] = (qs', t2) := ⟨_, _, rfl⟩
 rw [hr] at h hd
 simp only at h hd
 cases s2 with
 | nil => simp [byte] at h
 | cons c r' =>
  simp only [byte, Prod.mk.injEq, Tk.mk.injEq] at h
  obtain ⟨rfl, rfl, rfl⟩ := h
  have hce : c = e := by simpa [goes] using hd
  subst hce
  obtain ⟨vs, hq, hs, hb, hall⟩ := rowLoop_inv d ih c _ _ _ _ _ _ hr
  rw [List.nil_append] at hq
  subst hq
  exact ⟨hs, hb, hall⟩
theorem bytes_inv (t : Tk) (n : Int) (r : Txt) (q : Txt) (h : bytes t n = (q, ⟨r, false⟩)) : t.bad = false ∧ 0 ≤ n ∧ t.rest = q ++ r ∧ q.length = n.toNat := by
 unfold bytes at h
 split at h
 ·simp at h
 ·rename_i hc
  simp only [Prod.mk.injEq, Tk.mk.injEq] at h
  obtain ⟨rfl, rfl, hb⟩ := h
  refine ⟨hb, by omega, by simp, ?_⟩
  rw [List.length_take]
  omega

theorem inv_all : ∀ d, Inv d := by
 intro d
 induction d with
 | zero => intro s k ps r h; simp [value] at h
 | succ d ih =>
  intro s k ps r h
  cases s with
  | nil => simp [value, byte] at h
  | cons c s =>
   rw [value_cons] at h
   by_cases hc : c = 110
   ·rw [if_pos hc] at h
    subst hc
    simp only [Prod.mk.injEq, Tk.mk.injEq] at h
    obtain ⟨rfl, rfl, rfl, _⟩ := h
    exact ⟨[110], rfl, is_null d, .null, fun h3 => absurd h3 (by decide)⟩
   rw [if_neg hc] at h
   by_cases hc : c = 105
   ·rw [if_pos hc] at h
    subst hc
    simp only [Prod.mk.injEq] at h
    obtain ⟨rfl, rfl, ht⟩ := h
    obtain ⟨_, x, r', hs, h0, h1, hn⟩ := number_inv ⟨s, false⟩ 59 (by rw [ht])
    rw [hn] at ht ⊢
    simp only [Tk.mk.injEq] at ht hs
    obtain ⟨rfl, _⟩ := ht
    exact ⟨int x, by rw [hs]; simp [int], is_int d x h0 h1, .int x h0 h1, fun h3 => absurd h3 (by decide)⟩
   rw [if_neg hc] at h
   by_cases hc : c = 116 ∨ c = 102
   ·rw [if_pos hc] at h
    simp only [Prod.mk.injEq, Tk.mk.injEq] at h
    obtain ⟨rfl, rfl, rfl, _⟩ := h
    rcases hc with rfl | rfl
    ·exact ⟨[116], rfl, is_bool d true, .bool true, fun h3 => absurd h3 (by decide)⟩
    ·exact ⟨[102], rfl, is_bool d false, .bool false, fun h3 => absurd h3 (by decide)⟩
   rw [if_neg hc] at h
   by_cases hc : c = 115
   ·rw [if_pos hc] at h
    subst hc
    simp only [Prod.mk.injEq] at h
    obtain ⟨rfl, rfl, ht⟩ := h
    obtain ⟨hnb, hx0, hrest, hql⟩ := bytes_inv _ _ r _ (show bytes (number ⟨s, false⟩ 58).2.2 (number ⟨s, false⟩ 58).1 = (_, ⟨r, false⟩) by rw [← ht])
    obtain ⟨_, x, r', hs, h0, h1, hn⟩ := number_inv ⟨s, false⟩ 58 hnb
    rw [hn] at hrest hql hx0 ⊢
    simp only at hrest hql hx0 hs ⊢
    have hxq : x = ((bytes ⟨r', false⟩ x).1.length : Int) := by omega
    refine ⟨str (bytes ⟨r', false⟩ x).1, ?_, is_str d _ (by omega), .str _, fun h3 => absurd h3 (by decide)⟩
    rw [hs]
    unfold str
    rw [← hxq]
    simp only [List.cons_append, List.append_assoc]
    rw [← hrest]
   rw [if_neg hc] at h
   by_cases hc : c = 91
   ·rw [if_pos hc] at h
    subst hc
    obtain ⟨qs, t2, hr⟩ : ∃ qs t2, row (fun t => (value d t).2.2) 93 ⟨s, false⟩ = (qs, t2) := ⟨_, _, rfl⟩
    rw [hr] at h
    simp only [Prod.mk.injEq] at h
    obtain ⟨rfl, rfl, rfl⟩ := h
    obtain ⟨hs, _, hall⟩ := row_inv d ih 93 _ _ r hr
    simp only at hs
    exact ⟨list _, by rw [hs]; simp [list], is_list d _ hall, .list _, fun _ => ⟨d, rfl, hall⟩⟩
   rw [if_neg hc] at h
   by_cases hc : c = 123
   ·rw [if_pos hc] at h
    subst hc
    obtain ⟨qs, t2, hr⟩ : ∃ qs t2, row (fun t => (value d t).2.2) 125 ⟨s, false⟩ = (qs, t2) := ⟨_, _, rfl⟩
    rw [hr] at h
    simp only [Prod.mk.injEq] at h
    obtain ⟨rfl, rfl, rfl⟩ := h
    obtain ⟨hs, _, hall⟩ := row_inv d ih 125 _ _ r hr
    simp only at hs
    exact ⟨struct _, by rw [hs]; simp [struct], is_struct d _ hall, .struct _, fun _ => ⟨d, rfl, hall⟩⟩
   ·rw [if_neg hc] at h; simp at h

/-- A text is a value of these parts just if. -/
theorem parts_of_is {v : Txt} {k : Int} {ps : List Txt} (hl : v.length ≤ 65536) (h : Is 5 v k ps) : parts v = (k, ps, 0) := by
 have h0 := h []
 rw [List.append_nil] at h0
 unfold parts
 rw [if_neg (by omega), h0]
 simp
theorem is_of_parts {v : Txt} (h : (parts v).2.2 = 0) : v.length ≤ 65536 ∧ Is 5 v (parts v).1 (parts v).2.1 ∧ Made (parts v).1 (parts v).2.1 v ∧ (3 ≤ (parts v).1 → ∀ p ∈ (parts v).2.1, IsV 4 p) := by
 unfold parts at h ⊢
 split at h
 ·simp at h
 ·rename_i hl
  rw [if_neg hl]
  simp only at h ⊢
  split at h
  ·simp at h
  ·rename_i hb
   rw [if_neg hb]
   simp only at h ⊢
   obtain ⟨k, ps, ⟨s2, bad2⟩, hv⟩ : ∃ k ps t2, value 5 ⟨v, false⟩ = (k, ps, t2) := ⟨_, _, _, rfl⟩
   rw [hv] at hb ⊢
   simp only [not_or] at hb ⊢
   obtain ⟨hb1, hb2⟩ := hb
   obtain rfl : bad2 = false := by simpa using hb1
   obtain rfl : s2 = [] := Classical.not_not.1 hb2
   obtain ⟨V, hV, hIs, hM, h3⟩ := inv_all 5 v k ps [] hv
   rw [List.append_nil] at hV
   subst hV
   refine ⟨by omega, hIs, hM, fun hk => ?_⟩
   obtain ⟨d', hd, hp⟩ := h3 hk
   obtain rfl : d' = 4 := by omega
   exact hp
/-- No value: nothing of it is told. -/
theorem parts_bad {v : Txt} (h : (parts v).2.2 ≠ 0) : parts v = (0, [], 700) := by
 unfold parts at h ⊢
 split
 ·rfl
 ·rename_i hl
  rw [if_neg hl] at h
  simp only at h ⊢
  split
  ·rfl
  ·rename_i hb
   rw [if_neg hb] at h
   simp at h
theorem join_ge (vs : List Txt) (d : Nat) (h : ∀ p ∈ vs, IsV d p) : vs.length ≤ (join vs).length := by
 induction vs with
 | nil => simp
 | cons v vs ih =>
  obtain ⟨c, r, hv, _⟩ := isv_ne (h v (by simp))
  have := ih (fun p hp => h p (by simp [hp]))
  have e : (join (v :: vs)).length = v.length + (join vs).length := by simp [join]
  rw [e, hv, List.length_cons, List.length_cons]
  omega
end Go.Proofs.YtobhjlchpnpleaaGreatDoor.Vp

/- Building, in plain Lean: what build.Build computes. No program. -/
namespace Go.Proofs.YtobhjlchpnpleaaGreatDoor
set_option linter.unusedVariables false
set_option linter.unusedSimpArgs false

/-- A number's byte, the lowest first. -/
def wordB (x : Int) (i : Nat) : UInt8 := UInt8.ofNat ((x / 2 ^ (8 * i)) % 256).toNat
def word (x : Int) (n : Nat) : Vp.Txt := (List.range n).map (wordB x)
theorem word_length (x : Int) (n : Nat) : (word x n).length = n := by simp [word]

inductive Arr where
 | mk (lay off len : Int) (valid ends data : Vp.Txt) (kids : List Arr) : Arr

namespace Vp
open Tp

def nul : Txt := [110]
def isNull (ns : List Nd) (i : Nat) : Bool := (ns.getD i default).null
/-- What stands in a node within nothing. -/
def zeroF (ns : List Nd) : Nat → Nat → Txt
 | 0, _ => nul
 | n + 1, i =>
  if isNull ns i = true then nul
  else if kindOf ns i = 0 then int 0
  else if kindOf ns i = 1 then bool false
  else if kindOf ns i = 2 then str []
  else if kindOf ns i = 3 then list []
  else struct ((kids ns i).map (zeroF ns n))
def zero (ns : List Nd) (i : Nat) : Txt := zeroF ns (ns.length + 1) i

/-- The parts of values; of nothing others. -/
def partOr (other : List Txt) (v : Txt) : List Txt := if v = nul then other else (parts v).2.1
def pts (other : List Txt) (vs : List Txt) : List (List Txt) := vs.map (partOr other)

def there (vs : List Txt) : List Bool := vs.map fun v => decide (v ≠ nul)
def valid (vs : List Txt) : Txt := if (there vs).contains false then Bt.packed (there vs) else []
def sumTo (ms : List Nat) (q : Nat) : Nat := (ms.take q).sum
/-- Where rows end that have so many things each. -/
def endsTo (ms : List Nat) (q : Nat) : Txt := (List.range (q + 1)).flatMap fun j => word (sumTo ms j : Nat) 4
def ends (ms : List Nat) : Txt := endsTo ms ms.length
def intOfRow (r : List Txt) : Int := (atoi (r.getD 0 [])).1
def ints (rows : List (List Txt)) : Txt := rows.flatMap fun r => word (intOfRow r) 8
def truths (rows : List (List Txt)) : List Bool := rows.map fun r => decide (r.getD 0 [] = [116])
def bools (rows : List (List Txt)) : Txt := Bt.packed (truths rows)
def col (rows : List (List Txt)) (j : Nat) : List Txt := rows.map fun r => r.getD j []
def size0 (r : List Txt) : Nat := (r.getD 0 []).length

def seqO {α : Type} : List (Option α) → Option (List α)
 | [] => some []
 | none :: _ => none
 | some a :: r => (seqO r).map (a :: ·)
theorem seqO_snoc {α : Type} (l : List (Option α)) (x : Option α) : seqO (l ++ [x]) = (seqO l).bind fun ys => x.map fun a => ys ++ [a] := by
 induction l with
 | nil => cases x <;> simp [seqO]
 | cons a l ih =>
  cases a with
  | none => simp [seqO]
  | some a =>
   rw [List.cons_append, seqO, seqO, ih]
   cases seqO l with
   | none => rfl
   | some ys => cases x <;> rfl
theorem seqO_none {α : Type} (l m : List (Option α)) (h : seqO l = none) : seqO (l ++ m) = none := by
 induction l with
 | nil => simp [seqO] at h
 | cons a l ih =>
  cases a with
  | none => rfl
  | some a =>
   rw [seqO, Option.map_eq_none_iff] at h
   rw [List.cons_append, seqO, ih h]; rfl
theorem seqO_length {α : Type} : ∀ (l : List (Option α)) (ys : List α), seqO l = some ys → ys.length = l.length
 | [], ys, h => by simp [seqO] at h; simp [h]
 | none :: _, ys, h => by simp [seqO] at h
 | some a :: r, ys, h => by
  rw [seqO, Option.map_eq_some_iff] at h
  obtain ⟨zs, hz, rfl⟩ := h
  simp [seqO_length r zs hz]

/-- An array of values that fit a node; none: it would have too many rows. -/
def bld (ns : List Nd) : Nat → Nat → List Txt → Option Arr
 | 0, _, _ => none
 | n + 1, i, vs =>
  if 64 < vs.length then none
  else if kindOf ns i = 0 then some (.mk 0 0 vs.length (valid vs) [] (ints (pts [[48]] vs)) [])
  else if kindOf ns i = 1 then some (.mk 0 0 vs.length (valid vs) [] (bools (pts [[102]] vs)) [])
  else if kindOf ns i = 2 then some (.mk 0 0 vs.length (valid vs) (ends ((pts [[]] vs).map size0)) (join (pts [[]] vs).flatten) [])
  else if kindOf ns i = 3 then (bld ns n ((kids ns i).getD 0 0) (pts [] vs).flatten).map fun k => .mk 0 0 vs.length (valid vs) (ends ((pts [] vs).map List.length)) [] [k]
  else (seqO ((List.range (kids ns i).length).map fun j => bld ns n ((kids ns i).getD j 0) (col (pts ((kids ns i).map (zero ns)) vs) j))).map fun ks => .mk 0 0 vs.length (valid vs) [] [] ks
def build (ns : List Nd) (i : Nat) (vs : List Txt) : Option Arr := bld ns (ns.length + 1) i vs

/-! Kids stand behind their parent. -/
theorem kids_gt (ns : List Nd) (h : may ns = true) (i k : Nat) (hk : k ∈ kids ns i) : i < k ∧ k < ns.length := by
 unfold kids kidsTo at hk
 obtain ⟨h1, h2⟩ := List.mem_filter.1 hk
 rw [List.mem_range] at h1
 unfold isKid at h2
 simp only [Bool.and_eq_true, decide_eq_true_eq, beq_iff_eq] at h2
 unfold may at h
 simp only [Bool.and_eq_true] at h
 have h3 := (List.all_eq_true.1 h.2.1) k (List.mem_range.2 h1)
 unfold okOne stands at h3
 simp only [Bool.and_eq_true] at h3
 have h4 := h3.2.2
 rw [if_neg (by omega)] at h4
 simp only [Bool.and_eq_true, decide_eq_true_eq] at h4
 rw [h2.2] at h4
 omega
theorem may_len (ns : List Nd) (h : may ns = true) : 0 < ns.length ∧ ns.length ≤ 8 := by
 unfold may at h
 simp only [Bool.and_eq_true, decide_eq_true_eq] at h
 refine ⟨?_, h.1.2⟩
 cases ns with
 | nil => exact absurd rfl h.1.1
 | cons => simp
theorem may_kind (ns : List Nd) (h : may ns = true) (i : Nat) (hi : i < ns.length) : 0 ≤ kindOf ns i ∧ kindOf ns i ≤ 4 := by
 unfold may at h
 simp only [Bool.and_eq_true] at h
 have h3 := (List.all_eq_true.1 h.2.1) i (List.mem_range.2 hi)
 unfold okOne at h3
 simp only [Bool.and_eq_true, decide_eq_true_eq] at h3
 exact ⟨h3.1, h3.2.1⟩
theorem node_of (ns : List Nd) (i : Nat) : node ns i = true ↔ may ns = true ∧ i < ns.length := by
 unfold node
 simp only [Bool.and_eq_true, decide_eq_true_eq]
 constructor
 ·rintro ⟨h1, h2⟩; exact ⟨h1, by omega⟩
 ·rintro ⟨h1, h2⟩; exact ⟨h1, by omega⟩
theorem zeroF_fuel (ns : List Nd) (h : may ns = true) : ∀ (n m i : Nat), i < ns.length → ns.length - i ≤ n → ns.length - i ≤ m → zeroF ns n i = zeroF ns m i := by
 intro n
 induction n with
 | zero => intro m i hi h1 _; omega
 | succ n ih =>
  intro m i hi h1 h2
  obtain ⟨m, rfl⟩ : ∃ q, m = q + 1 := ⟨m - 1, by omega⟩
  rw [zeroF, zeroF]
  have hk : (kids ns i).map (zeroF ns n) = (kids ns i).map (zeroF ns m) := List.map_congr_left fun k hk => by
   obtain ⟨h3, h4⟩ := kids_gt ns h i k hk
   exact ih m k h4 (by omega) (by omega)
  rw [hk]
theorem zero_eq (ns : List Nd) (h : may ns = true) (i : Nat) (hi : i < ns.length) : zero ns i =
  if isNull ns i = true then nul else if kindOf ns i = 0 then int 0 else if kindOf ns i = 1 then bool false else if kindOf ns i = 2 then str [] else if kindOf ns i = 3 then list [] else struct ((kids ns i).map (zero ns)) := by
 have hk : (kids ns i).map (zeroF ns ns.length) = (kids ns i).map (zero ns) := List.map_congr_left fun k hk => by
  obtain ⟨h3, h4⟩ := kids_gt ns h i k hk
  exact zeroF_fuel ns h _ _ k h4 (by omega) (by omega)
 unfold zero
 rw [zeroF, hk]
 rfl
theorem bld_fuel (ns : List Nd) (h : may ns = true) : ∀ (n m i : Nat) (vs : List Txt), i < ns.length → ns.length - i ≤ n → ns.length - i ≤ m → bld ns n i vs = bld ns m i vs := by
 intro n
 induction n with
 | zero => intro m i vs hi h1 _; omega
 | succ n ih =>
  intro m i vs hi h1 h2
  obtain ⟨m, rfl⟩ : ∃ q, m = q + 1 := ⟨m - 1, by omega⟩
  have hk : ∀ j, j < (kids ns i).length → ∀ vs, bld ns n ((kids ns i).getD j 0) vs = bld ns m ((kids ns i).getD j 0) vs := fun j hj vs => by
   have hm : (kids ns i).getD j 0 ∈ kids ns i := by
    rw [List.getD_eq_getElem?_getD, List.getElem?_eq_getElem hj]
    exact List.getElem_mem _
   obtain ⟨h3, h4⟩ := kids_gt ns h i _ hm
   exact ih m _ vs h4 (by omega) (by omega)
  have hs : ∀ vs : Nat → List Txt, ((List.range (kids ns i).length).map fun j => bld ns n ((kids ns i).getD j 0) (vs j)) = (List.range (kids ns i).length).map fun j => bld ns m ((kids ns i).getD j 0) (vs j) := fun vs =>
   List.map_congr_left fun j hj => hk j (List.mem_range.1 hj) _
  rw [bld, bld]
  by_cases h3 : kindOf ns i = 3
  ·have h1' : (kids ns i).length = 1 := by
    obtain ⟨k, hk', _⟩ := kids_one ns i hi ((node_of ns i).2 ⟨h, hi⟩) h3
    rw [hk']; rfl
   rw [hk 0 (by omega), hs]
  ·simp only [if_neg h3]
   rw [hs]
theorem build_eq (ns : List Nd) (h : may ns = true) (i : Nat) (hi : i < ns.length) (vs : List Txt) : build ns i vs =
  if 64 < vs.length then none
  else if kindOf ns i = 0 then some (.mk 0 0 vs.length (valid vs) [] (ints (pts [[48]] vs)) [])
  else if kindOf ns i = 1 then some (.mk 0 0 vs.length (valid vs) [] (bools (pts [[102]] vs)) [])
  else if kindOf ns i = 2 then some (.mk 0 0 vs.length (valid vs) (ends ((pts [[]] vs).map size0)) (join (pts [[]] vs).flatten) [])
  else if kindOf ns i = 3 then (build ns ((kids ns i).getD 0 0) (pts [] vs).flatten).map fun k => .mk 0 0 vs.length (valid vs) (ends ((pts [] vs).map List.length)) [] [k]
  else (seqO ((List.range (kids ns i).length).map fun j => build ns ((kids ns i).getD j 0) (col (pts ((kids ns i).map (zero ns)) vs) j))).map fun ks => .mk 0 0 vs.length (valid vs) [] [] ks := by
 have hk : ∀ j, j < (kids ns i).length → ∀ vs, bld ns ns.length ((kids ns i).getD j 0) vs = build ns ((kids ns i).getD j 0) vs := fun j hj vs => by
  have hm : (kids ns i).getD j 0 ∈ kids ns i := by
   rw [List.getD_eq_getElem?_getD, List.getElem?_eq_getElem hj]
   exact List.getElem_mem _
  obtain ⟨h3, h4⟩ := kids_gt ns h i _ hm
  exact bld_fuel ns h _ _ _ vs h4 (by omega) (by omega)
 have hs : ∀ vs : Nat → List Txt, ((List.range (kids ns i).length).map fun j => bld ns ns.length ((kids ns i).getD j 0) (vs j)) = (List.range (kids ns i).length).map fun j => build ns ((kids ns i).getD j 0) (vs j) := fun vs =>
  List.map_congr_left fun j hj => hk j (List.mem_range.1 hj) _
 show bld ns (ns.length + 1) i vs = _
 rw [bld]
 by_cases h3 : kindOf ns i = 3
 ·have h1' : (kids ns i).length = 1 := by
   obtain ⟨k, hk', _⟩ := kids_one ns i hi ((node_of ns i).2 ⟨h, hi⟩) h3
   rw [hk']; rfl
  rw [hk 0 (by omega), hs]
 ·simp only [if_neg h3]
  rw [hs]
end Vp
end Go.Proofs.YtobhjlchpnpleaaGreatDoor

/- Where a value ends, in plain Lean. No program. -/
namespace Go.Proofs.YtobhjlchpnpleaaGreatDoor.Vp
set_option linter.unusedVariables false
open Go

/-- Where the value that begins at a place ends; -1: there is none. -/
def endP (l : Txt) (at_ d : Nat) : Int :=
 if (value (d + 1) ⟨l.drop at_, false⟩).2.2.bad = true then -1 else (l.length : Int) - ((value (d + 1) ⟨l.drop at_, false⟩).2.2.rest.length : Int)

theorem endP_eq (l : Txt) (at_ d : Nat) (h : at_ < l.length) (k : Int) (ps : List Txt) (t : Tk) (hv : value (d + 1) ⟨l[at_] :: l.drop (at_ + 1), false⟩ = (k, ps, t)) :
  endP l at_ d = if t.bad = true then -1 else (l.length : Int) - (t.rest.length : Int) := by
 unfold endP
 rw [List.drop_eq_getElem_cons h, hv]
theorem val_int (d : Nat) (c : UInt8) (r : Txt) (hc : c = 105) : value (d + 1) ⟨c :: r, false⟩ = (0, [(number ⟨r, false⟩ 59).2.1], (number ⟨r, false⟩ 59).2.2) := by
 subst hc; rfl
theorem val_str (d : Nat) (c : UInt8) (r : Txt) (hc : c = 115) : value (d + 1) ⟨c :: r, false⟩ = (2, [(bytes (number ⟨r, false⟩ 58).2.2 (number ⟨r, false⟩ 58).1).1], (bytes (number ⟨r, false⟩ 58).2.2 (number ⟨r, false⟩ 58).1).2) := by
 subst hc; rfl
theorem endP_past (l : Txt) (at_ d : Nat) (h : l.length ≤ at_) : endP l at_ d = -1 := by
 unfold endP
 rw [List.drop_of_length_le h]
 simp [value, byte]
theorem endP_one (l : Txt) (at_ d : Nat) (h : at_ < l.length) (hc : l[at_] = 110 ∨ l[at_] = 116 ∨ l[at_] = 102) : endP l at_ d = (at_ : Int) + 1 := by
 have hl : (l.length : Int) - ((l.drop (at_ + 1)).length : Int) = (at_ : Int) + 1 := by rw [List.length_drop]; omega
 have hv : ∃ k ps, value (d + 1) ⟨l[at_] :: l.drop (at_ + 1), false⟩ = (k, ps, ⟨l.drop (at_ + 1), false⟩) := by
  generalize l[at_] = c at hc
  rcases hc with rfl | rfl | rfl
  ·exact ⟨_, _, rfl⟩
  ·exact ⟨_, _, rfl⟩
  ·exact ⟨_, _, rfl⟩
 obtain ⟨k, ps, hv⟩ := hv
 rw [endP_eq l at_ d h k ps _ hv]
 exact hl
theorem endP_other (l : Txt) (at_ d : Nat) (h : at_ < l.length) (h1 : l[at_] ≠ 110) (h2 : l[at_] ≠ 105) (h3 : l[at_] ≠ 116) (h4 : l[at_] ≠ 102) (h5 : l[at_] ≠ 115) (h6 : l[at_] ≠ 91) (h7 : l[at_] ≠ 123) : endP l at_ d = -1 := by
 have hv : value (d + 1) ⟨l[at_] :: l.drop (at_ + 1), false⟩ = (0, [], ⟨l.drop (at_ + 1), true⟩) := by
  rw [value_cons, if_neg h1, if_neg h2, if_neg (by simp [h3, h4]), if_neg h5, if_neg h6, if_neg h7]
 rw [endP_eq l at_ d h _ _ _ hv]
 rfl

/-- Between a place and a sign. -/
theorem split_sign (l : Txt) (a k : Nat) (c : UInt8) (hk : a ≤ k) (h : l[k]? = some c) : l.drop a = (l.take k).drop a ++ c :: l.drop (k + 1) := by
 obtain ⟨hl, hc⟩ := List.getElem?_eq_some_iff.1 h
 have h1 : l = l.take k ++ c :: l.drop (k + 1) := by
  rw [← hc, ← List.drop_eq_getElem_cons hl, List.take_append_drop]
 have h2 : l.drop a = (l.take k ++ c :: l.drop (k + 1)).drop a := congrArg (List.drop a) h1
 rw [h2, List.drop_append_of_le_length (by rw [List.length_take]; omega)]
theorem no_sign (l : Txt) (a k : Nat) (c : UInt8) (h : ∀ j, a ≤ j → j < k → l[j]? ≠ some c) : c ∉ (l.take k).drop a := by
 intro hm
 obtain ⟨i, hi, he⟩ := List.getElem_of_mem hm
 rw [List.length_drop, List.length_take] at hi
 refine h (a + i) (by omega) (by omega) ?_
 rw [List.getElem_drop, List.getElem_take] at he
 rw [List.getElem?_eq_getElem (by omega), he]
/-- A number that is good stands near. -/
theorem near (l : Txt) (a : Nat) (e : UInt8) (hbad : (number ⟨l.drop a, false⟩ e).2.2.bad = false) : ∃ j, a ≤ j ∧ j < l.length ∧ j ≤ a + 20 ∧ l[j]? = some e := by
 obtain ⟨_, x, r, hs, h0, h1, _⟩ := number_inv _ _ hbad
 simp only at hs
 have hl : (Lib.itoa x).length ≤ 20 := by
  have := digitsLen x h0 h1
  exact this
 have hlen : (l.drop a).length = (Lib.itoa x).length + (r.length + 1) := by rw [hs]; simp
 rw [List.length_drop] at hlen
 refine ⟨a + (Lib.itoa x).length, by omega, by omega, by omega, ?_⟩
 rw [← List.getElem?_drop, hs, List.getElem?_append_right (Nat.le_refl _)]
 simp
theorem number_bad (D r : Txt) (e : UInt8) (hD : e ∉ D) (hn : ∀ y, -9223372036854775808 ≤ y → y ≤ 9223372036854775807 → D ≠ Lib.itoa y) : (number ⟨D ++ e :: r, false⟩ e).2.2.bad = true := by
 cases hb : (number ⟨D ++ e :: r, false⟩ e).2.2.bad with
 | true => rfl
 | false =>
  exfalso
  unfold number at hb
  simp only [cut_one D r e hD, Bool.false_or, Bool.not_true, Bool.or_eq_false_iff, Bool.not_eq_false', bne_eq_false_iff_eq] at hb
  have hr := atoi_range D hb.1
  exact hn _ hr.1 hr.2 hb.2.symm

theorem endP_int_none (l : Txt) (at_ d : Nat) (h : at_ < l.length) (hc : l[at_] = 105) (hn : ∀ j, at_ ≤ j → j < l.length → j < at_ + 22 → l[j]? ≠ some 59) : endP l at_ d = -1 := by
 rw [endP_eq l at_ d h _ _ _ (val_int d _ _ hc)]
 cases hb : (number ⟨l.drop (at_ + 1), false⟩ 59).2.2.bad with
 | true => simp
 | false =>
  obtain ⟨j, h1, h2, h3, h4⟩ := near l (at_ + 1) 59 hb
  exact absurd h4 (hn j (by omega) h2 (by omega))
theorem endP_int_no (l : Txt) (at_ d k : Nat) (h : at_ < l.length) (hc : l[at_] = 105) (hk : at_ < k) (hs : l[k]? = some 59) (hf : ∀ j, at_ ≤ j → j < k → l[j]? ≠ some 59)
  (hn : ∀ y, -9223372036854775808 ≤ y → y ≤ 9223372036854775807 → (l.take k).drop (at_ + 1) ≠ Lib.itoa y) : endP l at_ d = -1 := by
 rw [endP_eq l at_ d h _ _ _ (val_int d _ _ hc)]
 rw [split_sign l (at_ + 1) k 59 (by omega) hs, number_bad _ _ _ (no_sign l (at_ + 1) k 59 (fun j h1 h2 => hf j (by omega) h2)) hn]
 simp
theorem endP_int_yes (l : Txt) (at_ d k : Nat) (x : Int) (h : at_ < l.length) (hc : l[at_] = 105) (hk : at_ < k) (hs : l[k]? = some 59) (h0 : -9223372036854775808 ≤ x) (h1 : x ≤ 9223372036854775807)
  (hn : (l.take k).drop (at_ + 1) = Lib.itoa x) : endP l at_ d = (k : Int) + 1 := by
 have hkl := (List.getElem?_eq_some_iff.1 hs).1
 rw [endP_eq l at_ d h _ _ _ (val_int d _ _ hc)]
 rw [split_sign l (at_ + 1) k 59 (by omega) hs, hn, number_ok x 59 _ (.inr rfl) h0 h1]
 simp only [Bool.false_eq_true, if_false]
 rw [List.length_drop]
 omega

theorem endP_str_none (l : Txt) (at_ d : Nat) (h : at_ < l.length) (hc : l[at_] = 115) (hn : ∀ j, at_ ≤ j → j < l.length → j < at_ + 22 → l[j]? ≠ some 58) : endP l at_ d = -1 := by
 rw [endP_eq l at_ d h _ _ _ (val_str d _ _ hc)]
 cases hb : (number ⟨l.drop (at_ + 1), false⟩ 58).2.2.bad with
 | true => simp [bytes, hb]
 | false =>
  obtain ⟨j, h1, h2, h3, h4⟩ := near l (at_ + 1) 58 hb
  exact absurd h4 (hn j (by omega) h2 (by omega))
theorem endP_str_no (l : Txt) (at_ d k : Nat) (h : at_ < l.length) (hc : l[at_] = 115) (hk : at_ < k) (hs : l[k]? = some 58) (hf : ∀ j, at_ ≤ j → j < k → l[j]? ≠ some 58)
  (hn : ∀ y, -9223372036854775808 ≤ y → y ≤ 9223372036854775807 → (l.take k).drop (at_ + 1) ≠ Lib.itoa y) : endP l at_ d = -1 := by
 rw [endP_eq l at_ d h _ _ _ (val_str d _ _ hc)]
 rw [split_sign l (at_ + 1) k 58 (by omega) hs]
 have hb := number_bad _ (l.drop (k + 1)) _ (no_sign l (at_ + 1) k 58 (fun j h1 h2 => hf j (by omega) h2)) hn
 simp [bytes, hb]
theorem endP_str_far (l : Txt) (at_ d k : Nat) (x : Int) (h : at_ < l.length) (hc : l[at_] = 115) (hk : at_ < k) (hs : l[k]? = some 58) (h0 : -9223372036854775808 ≤ x) (h1 : x ≤ 9223372036854775807)
  (hn : (l.take k).drop (at_ + 1) = Lib.itoa x) (hx : x < 0 ∨ (l.length : Int) - k - 1 < x) : endP l at_ d = -1 := by
 have hkl := (List.getElem?_eq_some_iff.1 hs).1
 rw [endP_eq l at_ d h _ _ _ (val_str d _ _ hc)]
 rw [split_sign l (at_ + 1) k 58 (by omega) hs, hn, number_ok x 58 _ (.inl rfl) h0 h1]
 have hb : bytes ⟨l.drop (k + 1), false⟩ x = ([], ⟨l.drop (k + 1), true⟩) := by
  unfold bytes
  rw [if_pos]
  rw [List.length_drop]
  rcases hx with hx | hx
  ·exact Or.inr (Or.inl hx)
  ·exact Or.inr (Or.inr (by omega))
 simp only [hb]
 rfl
theorem endP_str_yes (l : Txt) (at_ d k : Nat) (x : Int) (h : at_ < l.length) (hc : l[at_] = 115) (hk : at_ < k) (hs : l[k]? = some 58) (h0 : 0 ≤ x) (h1 : x ≤ 9223372036854775807)
  (hn : (l.take k).drop (at_ + 1) = Lib.itoa x) (hx : x ≤ (l.length : Int) - k - 1) : endP l at_ d = (k : Int) + 1 + x := by
 have hkl := (List.getElem?_eq_some_iff.1 hs).1
 rw [endP_eq l at_ d h _ _ _ (val_str d _ _ hc)]
 rw [split_sign l (at_ + 1) k 58 (by omega) hs, hn, number_ok x 58 _ (.inl rfl) (by omega) h1]
 have hb : bytes ⟨l.drop (k + 1), false⟩ x = ((l.drop (k + 1)).take x.toNat, ⟨(l.drop (k + 1)).drop x.toNat, false⟩) := by
  unfold bytes
  rw [if_neg]
  rw [List.length_drop]
  simp
  omega
 simp only [hb, Bool.false_eq_true, if_false]
 rw [List.length_drop, List.length_drop]
 omega

/-! A list or a struct. -/
def rowF (d : Nat) : Tk → Tk := fun t => (value d t).2.2
def Opens (c e : UInt8) : Prop := (c = 91 ∧ e = 93) ∨ (c = 123 ∧ e = 125)
theorem endP_row (l : Txt) (at_ d : Nat) (e : UInt8) (h : at_ < l.length) (hc : Opens l[at_] e) :
  endP l at_ d = if (byte (rowLoop (rowF d) e ((l.drop (at_ + 1)).length + 1) ⟨l.drop (at_ + 1), false⟩ []).2).2.bad = true then -1 else (l.length : Int) - ((byte (rowLoop (rowF d) e ((l.drop (at_ + 1)).length + 1) ⟨l.drop (at_ + 1), false⟩ []).2).2.rest.length : Int) := by
 have hv : ∃ k ps, value (d + 1) ⟨l[at_] :: l.drop (at_ + 1), false⟩ = (k, ps, (byte (rowLoop (rowF d) e ((l.drop (at_ + 1)).length + 1) ⟨l.drop (at_ + 1), false⟩ []).2).2) := by
  generalize l[at_] = c at hc
  rcases hc with ⟨rfl, rfl⟩ | ⟨rfl, rfl⟩
  ·exact ⟨_, _, rfl⟩
  ·exact ⟨_, _, rfl⟩
 obtain ⟨k, ps, hv⟩ := hv
 exact endP_eq l at_ d h k ps _ hv
/-- The row has come to a place. -/
def RowAt (l : Txt) (at_ d : Nat) (e : UInt8) (p : Nat) : Prop :=
 ∃ n out, left ⟨l.drop p, false⟩ ≤ n ∧ rowLoop (rowF d) e ((l.drop (at_ + 1)).length + 1) ⟨l.drop (at_ + 1), false⟩ [] = rowLoop (rowF d) e n ⟨l.drop p, false⟩ out
theorem row_start (l : Txt) (at_ d : Nat) (e : UInt8) : RowAt l at_ d e (at_ + 1) := ⟨_, [], by simp [left], rfl⟩
theorem goes_at (l : Txt) (p : Nat) (e : UInt8) (h : p < l.length) (hne : l[p] ≠ e) : goes e ⟨l.drop p, false⟩ = true := by
 rw [List.drop_eq_getElem_cons h]
 simp [goes, hne]
theorem value_rest (d : Nat) (l : Txt) (p : Nat) (h : (value (d + 1) ⟨l.drop p, false⟩).2.2.bad = false) :
  ∃ q, p < q ∧ q ≤ l.length ∧ endP l p d = (q : Int) ∧ (value (d + 1) ⟨l.drop p, false⟩).2.2 = ⟨l.drop q, false⟩ := by
 obtain ⟨k, ps, ⟨r, bad⟩, hv⟩ : ∃ k ps t, value (d + 1) ⟨l.drop p, false⟩ = (k, ps, t) := ⟨_, _, _, rfl⟩
 rw [hv] at h
 simp only at h
 subst h
 obtain ⟨V, hV, hIs, _, _⟩ := inv_all (d + 1) _ k ps r hv
 obtain ⟨c, s, hc, _⟩ := isv_ne ⟨k, ps, hIs⟩
 have hVl : 1 ≤ V.length := by rw [hc]; simp
 have hlen : (l.drop p).length = V.length + r.length := by rw [hV, List.length_append]
 rw [List.length_drop] at hlen
 have hr : r = l.drop (p + V.length) := by rw [← List.drop_drop, hV, List.drop_left]
 refine ⟨p + V.length, by omega, by omega, ?_, ?_⟩
 ·unfold endP
  rw [hv]
  simp only [Bool.false_eq_true, if_false]
  omega
 ·rw [hv, ← hr]
theorem row_step (l : Txt) (at_ d : Nat) (e : UInt8) (p : Nat) (q : Int) (hR : RowAt l at_ (d + 1) e p) (h : p < l.length) (hne : l[p] ≠ e) (hq : endP l p d = q) (h0 : 0 ≤ q) :
  ∃ q' : Nat, q = q' ∧ p < q' ∧ q' ≤ l.length ∧ RowAt l at_ (d + 1) e q' := by
 obtain ⟨n, out, hn, hr⟩ := hR
 obtain ⟨m, rfl, hst⟩ := rowLoop_go (rowF (d + 1)) e n ⟨l.drop p, false⟩ out (goes_at l p e h hne) hn
 have hb : (value (d + 1) ⟨l.drop p, false⟩).2.2.bad = false := by
  cases hb : (value (d + 1) ⟨l.drop p, false⟩).2.2.bad with
  | false => rfl
  | true =>
   unfold endP at hq
   rw [if_pos hb] at hq
   omega
 obtain ⟨q', h1, h2, h3, h4⟩ := value_rest d l p hb
 refine ⟨q', by omega, h1, h2, m, out ++ [(l.drop p).take ((l.drop p).length - (rowF (d + 1) ⟨l.drop p, false⟩).rest.length)], ?_, ?_⟩
 ·have hl := left_step (d + 1) ⟨l.drop p, false⟩ e (goes_at l p e h hne)
  rw [h4] at hl
  omega
 ·rw [hr, hst]
  have h5 : rowF (d + 1) ⟨l.drop p, false⟩ = ⟨l.drop q', false⟩ := h4
  rw [h5]
theorem byte_bad (t : Tk) (h : t.bad = true) : (byte t).2.bad = true := by
 obtain ⟨s, b⟩ := t
 simp only at h
 subst h
 cases s <;> rfl
theorem row_fail (l : Txt) (at_ d : Nat) (e : UInt8) (p : Nat) (ha : at_ < l.length) (hc : Opens l[at_] e) (hR : RowAt l at_ d e p) (h : p < l.length) (hne : l[p] ≠ e) (hf : d = 0 ∨ ∃ d', d = d' + 1 ∧ endP l p d' < 0) : endP l at_ d = -1 := by
 obtain ⟨n, out, hn, hr⟩ := hR
 obtain ⟨m, rfl, hst⟩ := rowLoop_go (rowF d) e n ⟨l.drop p, false⟩ out (goes_at l p e h hne) hn
 have hb : (rowF d ⟨l.drop p, false⟩).bad = true := by
  rcases hf with rfl | ⟨d', rfl, hf⟩
  ·rfl
  ·cases hb : (value (d' + 1) ⟨l.drop p, false⟩).2.2.bad with
   | true => exact hb
   | false =>
    obtain ⟨q', h1, h2, h3, h4⟩ := value_rest d' l p hb
    omega
 rw [endP_row l at_ d e ha hc, hr, hst, rowLoop_end _ _ _ _ _ (by
  generalize rowF d ⟨l.drop p, false⟩ = t at hb
  obtain ⟨s, b⟩ := t
  simp only at hb
  subst hb
  simp [goes]), if_pos (byte_bad _ hb)]
theorem row_yes (l : Txt) (at_ d : Nat) (e : UInt8) (p : Nat) (ha : at_ < l.length) (hc : Opens l[at_] e) (hR : RowAt l at_ d e p) (h : p < l.length) (hne : l[p] = e) : endP l at_ d = (p : Int) + 1 := by
 obtain ⟨n, out, hn, hr⟩ := hR
 rw [endP_row l at_ d e ha hc, hr, rowLoop_end _ _ _ _ _ (by rw [List.drop_eq_getElem_cons h]; simp [goes, hne]), List.drop_eq_getElem_cons h]
 simp only [byte, Bool.false_eq_true, if_false]
 rw [List.length_drop]
 omega
theorem row_past (l : Txt) (at_ d : Nat) (e : UInt8) (p : Nat) (ha : at_ < l.length) (hc : Opens l[at_] e) (hR : RowAt l at_ d e p) (h : l.length ≤ p) : endP l at_ d = -1 := by
 obtain ⟨n, out, hn, hr⟩ := hR
 rw [endP_row l at_ d e ha hc, hr, rowLoop_end _ _ _ _ _ (by rw [List.drop_of_length_le h]; simp [goes]), List.drop_of_length_le h]
 simp [byte]
end Go.Proofs.YtobhjlchpnpleaaGreatDoor.Vp

/- The parts of a value, by where its parts end; plain Lean. No program. -/
namespace Go.Proofs.YtobhjlchpnpleaaGreatDoor.Vp
set_option linter.unusedVariables false
open Go

theorem is_made {d : Nat} {V : Txt} {k : Int} {ps : List Txt} (h : Is d V k ps) : Made k ps V ∧ (3 ≤ k → ∃ d', d = d' + 1 ∧ ∀ p ∈ ps, IsV d' p) := by
 have h0 := h []
 rw [List.append_nil] at h0
 obtain ⟨V', hV, _, hM, h3⟩ := inv_all d V k ps [] h0
 rw [List.append_nil] at hV
 subst hV
 exact ⟨hM, h3⟩
theorem mem_len (p : Txt) (ps : List Txt) (h : p ∈ ps) : p.length ≤ (join ps).length := by
 induction ps with
 | nil => simp at h
 | cons q ps ih =>
  have e : (join (q :: ps)).length = q.length + (join ps).length := by simp [join]
  rw [e]
  rcases List.mem_cons.1 h with rfl | h
  ·omega
  ·have := ih h
   omega
theorem is_mono : ∀ (d : Nat) (V : Txt) (k : Int) (ps : List Txt), V.length ≤ 9223372036854775807 → Is d V k ps → Is (d + 1) V k ps := by
 intro d
 induction d with
 | zero =>
  intro V k ps _ h
  have := h []
  simp [value] at this
 | succ d ih =>
  intro V k ps hl h
  obtain ⟨hM, h3⟩ := is_made h
  cases hM with
  | null => exact is_null _
  | int x h0 h1 => exact is_int _ x h0 h1
  | bool b => exact is_bool _ b
  | str s => exact is_str _ s (by simp [str] at hl; omega)
  | list vs =>
   obtain ⟨d', hd, hp⟩ := h3 (by decide)
   obtain rfl : d' = d := by omega
   refine is_list _ _ fun p hp' => ?_
   obtain ⟨k', ps', h'⟩ := hp p hp'
   refine ⟨k', ps', ih p k' ps' ?_ h'⟩
   have := mem_len p ps hp'
   simp [list] at hl
   omega
  | struct vs =>
   obtain ⟨d', hd, hp⟩ := h3 (by decide)
   obtain rfl : d' = d := by omega
   refine is_struct _ _ fun p hp' => ?_
   obtain ⟨k', ps', h'⟩ := hp p hp'
   refine ⟨k', ps', ih p k' ps' ?_ h'⟩
   have := mem_len p ps hp'
   simp [struct] at hl
   omega
theorem endP_whole (v : Txt) (h : v.length ≤ 65536) : endP v 0 4 = (v.length : Int) ↔ (parts v).2.2 = 0 := by
 have hp : (parts v).2.2 = 0 ↔ ((value 5 ⟨v, false⟩).2.2.bad = false ∧ (value 5 ⟨v, false⟩).2.2.rest = []) := by
  unfold parts
  rw [if_neg (by omega)]
  simp only
  split
  ·rename_i hb
   constructor
   ·intro h; simp at h
   ·rintro ⟨h1, h2⟩
    rcases hb with hb | hb
    ·rw [h1] at hb; cases hb
    ·exact absurd h2 hb
  ·rename_i hb
   simp only [not_or] at hb
   constructor
   ·intro _
    exact ⟨by simpa using hb.1, Classical.not_not.1 hb.2⟩
   ·intro _; rfl
 rw [hp]
 unfold endP
 rw [List.drop_zero]
 split
 ·rename_i hb
  rw [hb]
  constructor
  ·intro h; omega
  ·intro h; cases h.1
 ·rename_i hb
  have hb' : (value (4 + 1) ⟨v, false⟩).2.2.bad = false := by simpa using hb
  constructor
  ·intro h
   have h' : (v.length : Int) - ((value 5 ⟨v, false⟩).2.2.rest.length : Int) = v.length := h
   exact ⟨hb', List.eq_nil_of_length_eq_zero (by omega)⟩
  ·rintro ⟨_, h2⟩
   have h2' : (value (4 + 1) ⟨v, false⟩).2.2.rest = [] := h2
   rw [h2', List.length_nil]
   omega
/-- Where a part ends. -/
theorem endP_part (v V r : Txt) (p : Nat) (hp : p ≤ v.length) (hv : v.drop p = V ++ r) (hl : V.length ≤ 65536) (h : IsV 4 V) : endP v p 4 = (p : Int) + V.length := by
 obtain ⟨k, ps, h⟩ := h
 have h5 := is_mono 4 V k ps (by omega) h r
 have hlen : (v.drop p).length = V.length + r.length := by rw [hv, List.length_append]
 rw [List.length_drop] at hlen
 unfold endP
 rw [hv, h5]
 simp only [Bool.false_eq_true, if_false]
 omega
/-- Where the parts of a row stand. -/
theorem row_drop (ps : List Txt) (c e : UInt8) (j : Nat) (h : j < ps.length) : (c :: (join ps ++ [e])).drop (1 + (join (ps.take j)).length) = ps[j] ++ ((join (ps.drop (j + 1))) ++ [e]) := by
 have h1 : join ps = join (ps.take j) ++ (ps[j] ++ join (ps.drop (j + 1))) := by
  have : ps = ps.take j ++ (ps[j] :: ps.drop (j + 1)) := by rw [← List.drop_eq_getElem_cons h, List.take_append_drop]
  have h2 : join ps = join (ps.take j ++ (ps[j] :: ps.drop (j + 1))) := congrArg join this
  rw [h2]
  unfold join
  rw [List.flatten_append, List.flatten_cons]
 rw [Nat.add_comm, List.drop_succ_cons, h1, List.append_assoc, List.drop_left, List.append_assoc]
theorem take_drop_part (v V r : Txt) (p : Nat) (hv : v.drop p = V ++ r) : (v.take (p + V.length)).drop p = V := by
 have h := List.drop_take (i := p) (j := p + V.length) (l := v)
 rw [h, hv, Nat.add_sub_cancel_left, List.take_left]
end Go.Proofs.YtobhjlchpnpleaaGreatDoor.Vp

/- Types: the reference's rule is the program's; plain Lean. No program. -/
namespace Go.Proofs.YtobhjlchpnpleaaGreatDoor.Tp
set_option linter.unusedVariables false

/-- How deep a node stands. -/
def dp (ns : List Nd) (i : Nat) : Nat := (way ns (i + 1) (i : Int)).length - 1
def kidsOf (ns : List Nd) (i : Nat) : Nat := (kids ns (i : Int)).length
/-- A row of the reference's test: the kinds and the kids. -/
def kindOk (k : Int) (m : Nat) : Bool := decide (0 ≤ k ∧ k ≤ 4) && (if k = 3 then m == 1 else if k = 4 then decide (1 ≤ m) else m == 0)
def upOk (ns : List Nd) (i : Nat) : Bool := i == 0 || (decide (0 ≤ parentOf ns i ∧ parentOf ns i < i) && decide (dp ns (parentOf ns i).toNat < 4))
def rowOk (ns : List Nd) (i : Nat) : Bool := kindOk (kindOf ns i) (kidsOf ns i) && upOk ns i
def refMay (ns : List Nd) : Bool := decide (1 ≤ ns.length ∧ ns.length ≤ 8) && (parentOf ns 0 == -1 && (List.range ns.length).all (rowOk ns))

/-- Below a node all stand behind their parents. -/
def Behind (ns : List Nd) (i : Nat) : Prop := ∀ j, j ≤ i → (j = 0 → parentOf ns j = -1) ∧ (0 < j → 0 ≤ parentOf ns j ∧ parentOf ns j < j)
theorem way_neg (ns : List Nd) (n : Nat) : way ns n (-1) = [] := by cases n <;> simp [way]
theorem way_behind (ns : List Nd) : ∀ (i : Nat) (n : Nat), Behind ns i → i + 1 ≤ n → way ns n (i : Int) = way ns (i + 1) (i : Int) := by
 intro i
 induction i using Nat.strongRecOn with
 | ind i ih =>
  intro n hB hn
  obtain ⟨m, rfl⟩ : ∃ m, n = m + 1 := ⟨n - 1, by omega⟩
  have h0 : (0 : Int) ≤ (i : Int) := by omega
  simp only [way, if_pos h0, Int.toNat_natCast]
  congr 1
  obtain ⟨h1, h2⟩ := hB i (Nat.le_refl _)
  rcases Nat.eq_zero_or_pos i with hi | hi
  ·rw [h1 hi, way_neg, way_neg]
  ·obtain ⟨h3, h4⟩ := h2 hi
   obtain ⟨q, hq⟩ := Int.eq_ofNat_of_zero_le h3
   rw [hq] at h4 ⊢
   have hqi : q < i := by omega
   have hBq : Behind ns q := fun j hj => hB j (by omega)
   rw [ih q hqi m hBq (by omega), ih q hqi i hBq (by omega)]
theorem way_length (ns : List Nd) (i : Nat) (hB : Behind ns i) : (way ns (i + 1) (i : Int)).length = dp ns i + 1 := by
 have h0 : (0 : Int) ≤ (i : Int) := by omega
 unfold dp
 simp only [way, if_pos h0, List.length_cons]
 omega
theorem dp_zero (ns : List Nd) (h : parentOf ns 0 = -1) : dp ns 0 = 0 := by
 unfold dp
 simp [way]
theorem dp_step (ns : List Nd) (i : Nat) (hB : Behind ns i) (hi : 0 < i) : dp ns i = dp ns (parentOf ns i).toNat + 1 := by
 have h0 : (0 : Int) ≤ (i : Int) := by omega
 obtain ⟨h3, h4⟩ := (hB i (Nat.le_refl _)).2 hi
 obtain ⟨q, hq⟩ := Int.eq_ofNat_of_zero_le h3
 have hBq : Behind ns q := fun j hj => hB j (by omega)
 have h5 : dp ns i = (way ns i (parentOf ns i)).length := by
  unfold dp
  simp only [way, if_pos h0, List.length_cons, Int.toNat_natCast]
  omega
 rw [h5, hq, Int.toNat_natCast, way_behind ns q i hBq (by omega), way_length ns q hBq]
theorem behind_of_up (ns : List Nd) (n : Nat) (h0 : parentOf ns 0 = -1) (h : ∀ j, j < n → upOk ns j = true) : ∀ i, i < n → Behind ns i := by
 intro i hi j hj
 constructor
 ·rintro rfl; exact h0
 ·intro hj0
  have := h j (by omega)
  unfold upOk at this
  simp only [Bool.or_eq_true, beq_iff_eq, Bool.and_eq_true, decide_eq_true_eq] at this
  omega
theorem kid_mem (ns : List Nd) (p i : Nat) (hi : i < ns.length) (h0 : 0 < i) (hp : parentOf ns i = (p : Int)) : 0 < kidsOf ns p := by
 unfold kidsOf kids kidsTo
 apply List.length_pos_of_mem (a := i)
 rw [List.mem_filter, List.mem_range]
 exact ⟨hi, by simp [isKid, h0, hp]⟩
theorem kid_inv (ns : List Nd) (p : Nat) (h : 0 < kidsOf ns p) : ∃ i, i < ns.length ∧ 0 < i ∧ parentOf ns i = (p : Int) := by
 unfold kidsOf kids kidsTo at h
 obtain ⟨i, hi⟩ := List.exists_mem_of_length_pos h
 rw [List.mem_filter, List.mem_range] at hi
 obtain ⟨h1, h2⟩ := hi
 simp only [isKid, Bool.and_eq_true, decide_eq_true_eq, beq_iff_eq] at h2
 exact ⟨i, h1, h2.1, h2.2⟩
theorem refMay_eq (ns : List Nd) : refMay ns = may ns := by
 rw [Bool.eq_iff_iff]
 unfold refMay may
 simp only [Bool.and_eq_true, decide_eq_true_eq, beq_iff_eq, List.all_eq_true, List.mem_range]
 constructor
 ·rintro ⟨⟨h1, h8⟩, hp0, hrow⟩
  have hup : ∀ j, j < ns.length → upOk ns j = true := fun j hj => by
   have := hrow j hj
   unfold rowOk at this
   rw [Bool.and_eq_true] at this
   exact this.2
  have hkd : ∀ j, j < ns.length → kindOk (kindOf ns j) (kidsOf ns j) = true := fun j hj => by
   have := hrow j hj
   unfold rowOk at this
   rw [Bool.and_eq_true] at this
   exact this.1
  have hB := behind_of_up ns ns.length hp0 hup
  have hst : ∀ i, i < ns.length → stands ns i = true := by
   intro i hi
   unfold stands
   split
   ·rename_i h0; subst h0; rw [hp0]; rfl
   ·rename_i h0
    obtain ⟨h3, h4⟩ := (hB i hi i (Nat.le_refl _)).2 (by omega)
    obtain ⟨q, hq⟩ := Int.eq_ofNat_of_zero_le h3
    have hk := kid_mem ns q i hi (by omega) hq
    have hkq := hkd q (by omega)
    rw [hq] at h4 ⊢
    rw [Int.toNat_natCast]
    unfold kindOk at hkq
    rw [Bool.and_eq_true] at hkq
    have hin : inner (kindOf ns q) = true := by
     have hkq2 := hkq.2
     unfold inner
     by_cases h3 : kindOf ns q = 3
     ·rw [h3]; rfl
     ·rw [if_neg h3] at hkq2
      by_cases h4 : kindOf ns q = 4
      ·rw [h4]; rfl
      ·rw [if_neg h4, beq_iff_eq] at hkq2
       omega
    rw [hin]
    simp
    omega
  refine ⟨⟨fun e => by rw [e] at h1; simp at h1, h8⟩, fun i hi => ?_, fun i hi => ?_⟩
  ·unfold okOne
   have hk := hkd i hi
   unfold kindOk at hk
   simp only [Bool.and_eq_true, decide_eq_true_eq] at hk
   rw [hst i hi]
   simp
   exact hk.1
  ·unfold okTwo
   have hk := hkd i hi
   unfold kindOk at hk
   rw [Bool.and_eq_true] at hk
   have hw : (way ns (ns.length + 1) (i : Int)).length = dp ns i + 1 := by
    rw [way_behind ns i _ (hB i hi) (by omega), way_length ns i (hB i hi)]
   have hd : dp ns i ≤ 4 := by
    rcases Nat.eq_zero_or_pos i with h0 | h0
    ·subst h0; rw [dp_zero ns hp0]; omega
    ·rw [dp_step ns i (hB i hi) h0]
     have := hup i hi
     unfold upOk at this
     simp only [Bool.or_eq_true, beq_iff_eq, Bool.and_eq_true, decide_eq_true_eq] at this
     omega
   have hk2 := hk.2
   rw [hw]
   have hkk : (kids ns (i : Int)).length = kidsOf ns i := rfl
   rw [hkk]
   by_cases h3 : kindOf ns i = 3
   ·rw [if_pos h3, beq_iff_eq] at hk2
    rw [h3, hk2]
    simp
    omega
   ·rw [if_neg h3] at hk2
    by_cases h4 : kindOf ns i = 4
    ·rw [if_pos h4, decide_eq_true_eq] at hk2
     rw [h4]
     simp
     omega
    ·simp [h3, h4]
     omega
 ·rintro ⟨⟨hne, h8⟩, hone, htwo⟩
  have h1 : 1 ≤ ns.length := List.length_pos_iff.2 hne
  have hst : ∀ i, i < ns.length → stands ns i = true := fun i hi => by
   have := hone i hi
   unfold okOne at this
   simp only [Bool.and_eq_true] at this
   exact this.2.2
  have hst2 : ∀ i, i < ns.length → 0 < i → 0 ≤ parentOf ns i ∧ parentOf ns i < i ∧ inner (kindOf ns (parentOf ns i).toNat) = true := fun i hi h0 => by
   have := hst i hi
   unfold stands at this
   rw [if_neg (by omega)] at this
   simp only [Bool.and_eq_true, decide_eq_true_eq] at this
   exact this
  have hp0 : parentOf ns 0 = -1 := by
   have := hst 0 h1
   unfold stands at this
   rw [if_pos rfl, beq_iff_eq] at this
   exact this
  have hB : ∀ i, i < ns.length → Behind ns i := fun i hi j hj => ⟨by rintro rfl; exact hp0, fun h0 => by
   have := hst2 j (by omega) h0
   exact ⟨this.1, this.2.1⟩⟩
  refine ⟨⟨h1, h8⟩, hp0, fun i hi => ?_⟩
  unfold rowOk
  rw [Bool.and_eq_true]
  have ht := htwo i hi
  unfold okTwo at ht
  have hw : (way ns (ns.length + 1) (i : Int)).length = dp ns i + 1 := by
   rw [way_behind ns i _ (hB i hi) (by omega), way_length ns i (hB i hi)]
  rw [hw] at ht
  simp only [Bool.not_eq_true', Bool.or_eq_false_iff, Bool.and_eq_false_iff, beq_eq_false_iff_ne, bne_eq_false_iff_eq, decide_eq_false_iff_not] at ht
  have hkk : (kids ns (i : Int)).length = kidsOf ns i := rfl
  rw [hkk] at ht
  constructor
  ·unfold kindOk
   have ho := hone i hi
   unfold okOne at ho
   simp only [Bool.and_eq_true, decide_eq_true_eq] at ho
   rw [Bool.and_eq_true]
   refine ⟨by simp; omega, ?_⟩
   by_cases h3 : kindOf ns i = 3
   ·rw [if_pos h3, beq_iff_eq]
    rcases ht.1 with h | h
    ·exact absurd h3 h
    ·exact h
   ·rw [if_neg h3]
    by_cases h4 : kindOf ns i = 4
    ·rw [if_pos h4, decide_eq_true_eq]
     rcases ht.2.1 with h | h
     ·exact absurd h4 h
     ·omega
    ·rw [if_neg h4, beq_iff_eq]
     rcases Nat.eq_zero_or_pos (kidsOf ns i) with h | h
     ·exact h
     ·obtain ⟨c, hc, hc0, hcp⟩ := kid_inv ns i h
      have := (hst2 c hc hc0).2.2
      rw [hcp, Int.toNat_natCast] at this
      unfold inner at this
      simp [h3, h4] at this
  ·unfold upOk
   rcases Nat.eq_zero_or_pos i with h0 | h0
   ·simp [h0]
   ·obtain ⟨ha, hb, _⟩ := hst2 i hi h0
    have hd := dp_step ns i (hB i hi) h0
    simp only [Bool.or_eq_true, beq_iff_eq, Bool.and_eq_true, decide_eq_true_eq]
    refine .inr ⟨⟨ha, hb⟩, ?_⟩
    have := ht.2.2
    omega
end Go.Proofs.YtobhjlchpnpleaaGreatDoor.Tp

/- Which values fit a node, as a rule one can take apart and build up; plain Lean. No program. -/
namespace Go.Proofs.YtobhjlchpnpleaaGreatDoor.Vp
set_option linter.unusedVariables false
set_option linter.unusedSimpArgs false
open Tp Go

theorem fits_fuel (ns : List Nd) : ∀ (n m : Nat) (x : Int) (v : Txt), v.length < n → v.length < m → fits ns n x v = fits ns m x v := by
 intro n
 induction n with
 | zero => intro m x v h; omega
 | succ n ih =>
  intro m x v h1 h2
  obtain ⟨m, rfl⟩ : ∃ q, m = q + 1 := ⟨m - 1, by omega⟩
  rw [fits, fits]
  by_cases hn : node ns x = true
  ·rw [if_pos hn, if_pos hn]
   simp only
   by_cases h3 : 3 ≤ (parts v).1
   ·have hs := parts_short v h3
    have hp : ∀ p ∈ (parts v).2.1, ∀ k : Int, fits ns n k p = fits ns m k p := fun p hp k => ih m k p (by have := hs p hp; omega) (by have := hs p hp; omega)
    have hall : allOf (fun k p => fits ns n k p) (kids ns x) (parts v).2.1 = allOf (fun k p => fits ns m k p) (kids ns x) (parts v).2.1 := by
     have : ∀ F G : Nat → Txt → Bool, (∀ k, ∀ p ∈ (parts v).2.1, F k p = G k p) → allOf F (kids ns x) (parts v).2.1 = allOf G (kids ns x) (parts v).2.1 := by
      intro F G hFG
      unfold allOf
      congr 1
      rw [Bool.eq_iff_iff, List.all_eq_true, List.all_eq_true]
      have e : ∀ i ∈ List.range (min (kids ns x).length (parts v).2.1.length), F ((kids ns x).getD i 0) ((parts v).2.1.getD i []) = G ((kids ns x).getD i 0) ((parts v).2.1.getD i []) := fun i hi => by
       have hi2 : i < (parts v).2.1.length := by have := List.mem_range.1 hi; omega
       refine hFG _ _ ?_
       rw [List.getD_eq_getElem?_getD, List.getElem?_eq_getElem hi2]
       exact List.getElem_mem _
      constructor
      ·intro h i hi; rw [← e i hi]; exact h i hi
      ·intro h i hi; rw [e i hi]; exact h i hi
     exact this _ _ fun k p hp' => hp p hp' k
    have hall2 : ((parts v).2.1.all fun p => !((parts v).1 == 3 && !(fits ns n ((kids ns x).getD 0 0) p))) = ((parts v).2.1.all fun p => !((parts v).1 == 3 && !(fits ns m ((kids ns x).getD 0 0) p))) := by
     rw [Bool.eq_iff_iff, List.all_eq_true, List.all_eq_true]
     constructor
     ·intro h p hp'; rw [← hp p hp']; exact h p hp'
     ·intro h p hp'; rw [hp p hp']; exact h p hp'
    rw [hall, hall2]
   ·have h4 : (parts v).1 ≠ 4 := by omega
    have h33 : ((parts v).1 == 3) = false := by rw [beq_eq_false_iff_ne]; omega
    simp only [h33, if_neg h4, Bool.false_and]
  ·rw [if_neg hn, if_neg hn]

/-- A value fits a node. -/
def Fit (ns : List Nd) (i : Nat) (v : Txt) : Prop := fits ns (v.length + 1) (i : Int) v = true
instance (ns : List Nd) (i : Nat) (v : Txt) : Decidable (Fit ns i v) := inferInstanceAs (Decidable (_ = true))

theorem kid0_mem {ns : List Nd} {i : Nat} {j : Nat} (h : j < (kids ns (i : Int)).length) : (kids ns (i : Int)).getD j 0 ∈ kids ns (i : Int) := by
 rw [List.getD_eq_getElem?_getD, List.getElem?_eq_getElem h]
 exact List.getElem_mem _
theorem kids_one' {ns : List Nd} (h : may ns = true) {i : Nat} (hi : i < ns.length) (hk : kindOf ns i = 3) : kids ns (i : Int) = [(kids ns (i : Int)).getD 0 0] := by
 obtain ⟨k, hk, _⟩ := kids_one ns i hi ((node_of ns i).2 ⟨h, hi⟩) hk
 rw [hk]; rfl
theorem kid_one_lt {ns : List Nd} (h : may ns = true) {i : Nat} (hi : i < ns.length) (hk : kindOf ns i = 3) : i < (kids ns (i : Int)).getD 0 0 ∧ (kids ns (i : Int)).getD 0 0 < ns.length := by
 refine kids_gt ns h i _ (kid0_mem ?_)
 rw [kids_one' h hi hk]; simp
theorem kid_lt {ns : List Nd} (h : may ns = true) {i j : Nat} (hj : j < (kids ns (i : Int)).length) : i < (kids ns (i : Int)).getD j 0 ∧ (kids ns (i : Int)).getD j 0 < ns.length := kids_gt ns h i _ (kid0_mem hj)

theorem parts_nul : parts nul = (-1, [], 0) := by decide +kernel
theorem made_null {k : Int} {ps : List Txt} {v : Txt} (h : Made k ps v) : k = -1 ↔ v = nul := by
 cases h with
 | null => simp [nul]
 | int x => simp [nul, int]
 | bool b => cases b <;> simp [nul, bool]
 | str s => simp [nul, str]
 | list vs => simp [nul, list]
 | struct vs => simp [nul, struct]
/-- What a value that fits is. -/
inductive FitC (ns : List Nd) (i : Nat) : Txt → Prop where
 | null (h : isNull ns i = true) : FitC ns i nul
 | int (h : kindOf ns i = 0) (x : Int) (h0 : -9223372036854775808 ≤ x) (h1 : x ≤ 9223372036854775807) : FitC ns i (int x)
 | bool (h : kindOf ns i = 1) (b : Bool) : FitC ns i (bool b)
 | str (h : kindOf ns i = 2) (s : Txt) (hs : s.length ≤ 16) : FitC ns i (str s)
 | list (h : kindOf ns i = 3) (ps : List Txt) (hl : ps.length ≤ 64) (hp : ∀ p ∈ ps, Fit ns ((kids ns i).getD 0 0) p) (hv : (list ps).length ≤ 65536) (his : ∀ p ∈ ps, IsV 4 p) : FitC ns i (list ps)
 | struct (h : kindOf ns i = 4) (ps : List Txt) (hl : ps.length = (kids ns i).length) (hp : ∀ j, j < ps.length → Fit ns ((kids ns i).getD j 0) (ps.getD j [])) (hv : (struct ps).length ≤ 65536) (his : ∀ p ∈ ps, IsV 4 p) : FitC ns i (struct ps)

theorem fit_inv {ns : List Nd} {i : Nat} {v : Txt} (h : Fit ns i v) : FitC ns i v := by
 unfold Fit at h
 rw [fits] at h
 split at h
 ·rename_i hn
  simp only [Int.toNat_natCast] at h
  by_cases he : (parts v).2.2 = 0
  ·obtain ⟨hlen, his, hM, hp4⟩ := is_of_parts he
   by_cases hk : (parts v).1 = -1
   ·rw [if_pos (.inr hk)] at h
    simp only [Bool.and_eq_true] at h
    rw [(made_null hM).1 hk]
    exact .null h.2
   ·rw [if_neg (by simp [he, hk])] at h
    by_cases hkind' : (parts v).1 = (ns.getD i default).kind
    ·rw [if_neg (show ¬ ((parts v).1 ≠ (ns.getD i default).kind) from fun hne => hne hkind')] at h
     have hshort := fun h3 => parts_short v h3
     have hml := fun p hp h3 => parts_len v p hp h3
     generalize (parts v).1 = k at hkind' h hM hk hp4 hshort hml
     generalize (parts v).2.1 = ps at h hM hp4 hshort hml
     have hkk : kindOf ns i = k := hkind'.symm
     clear hkind'
     cases hM with
     | null => exact absurd rfl hk
     | int x h0 h1 => exact .int hkk x h0 h1
     | bool b => exact .bool hkk b
     | str s =>
      rw [if_pos (by decide)] at h
      exact .str hkk s (by simpa using h)
     | list ps =>
      rw [if_neg (by decide), if_neg (by decide)] at h
      simp only [Bool.and_eq_true, decide_eq_true_eq, List.all_eq_true] at h
      refine .list hkk ps h.2 (fun p hp => ?_) hlen (hp4 (by decide))
      have h1 := h.1 p hp
      have h2 := hshort (by decide) p hp
      unfold Fit
      rw [fits_fuel ns (p.length + 1) (list ps).length _ p (by omega) h2]
      simpa using h1
     | struct ps =>
      rw [if_neg (by decide), if_pos (by decide)] at h
      unfold allOf at h
      simp only [Bool.and_eq_true, beq_iff_eq, List.all_eq_true, List.mem_range] at h
      refine .struct hkk ps h.2.symm (fun j hj => ?_) hlen (hp4 (by decide))
      have h1 := h.1 j (by omega)
      have hm : ps.getD j [] ∈ ps := by
       rw [List.getD_eq_getElem?_getD, List.getElem?_eq_getElem hj]
       exact List.getElem_mem _
      have h2 := hshort (by decide) _ hm
      unfold Fit
      rw [fits_fuel ns ((ps.getD j []).length + 1) (struct ps).length _ _ (by omega) h2]
      exact h1
    ·rw [if_pos (show (parts v).1 ≠ (ns.getD i default).kind from hkind')] at h
     cases h
  ·rw [if_pos (.inl he)] at h
   simp [he] at h
 ·cases h

/-! And back: what is so fits. -/
theorem parts_int (x : Int) (h0 : -9223372036854775808 ≤ x) (h1 : x ≤ 9223372036854775807) : parts (int x) = (0, [Lib.itoa x], 0) :=
 parts_of_is (by have := digitsLen x h0 h1; simp [int]; omega) (is_int 4 x h0 h1)
theorem parts_bool (b : Bool) : parts (bool b) = (1, [bool b], 0) := parts_of_is (by cases b <;> simp [bool]) (is_bool 4 b)
theorem str_length (s : Txt) (h : s.length ≤ 16) : (str s).length ≤ 38 := by
 have := digitsLen (s.length : Int) (by omega) (by omega)
 have e : (str s).length = (Lib.itoa (s.length : Int)).length + s.length + 2 := by simp [str]; omega
 omega
theorem parts_str (s : Txt) (h : s.length ≤ 16) : parts (str s) = (2, [s], 0) := parts_of_is (by have := str_length s h; omega) (is_str 4 s (by omega))
theorem parts_list (ps : List Txt) (h : (list ps).length ≤ 65536) (hp : ∀ p ∈ ps, IsV 4 p) : parts (list ps) = (3, ps, 0) := parts_of_is h (is_list 4 ps hp)
theorem parts_struct (ps : List Txt) (h : (struct ps).length ≤ 65536) (hp : ∀ p ∈ ps, IsV 4 p) : parts (struct ps) = (4, ps, 0) := parts_of_is h (is_struct 4 ps hp)

theorem fit_of {ns : List Nd} (hm : may ns = true) {i : Nat} (hi : i < ns.length) {v : Txt} (h : FitC ns i v) : Fit ns i v := by
 have hn : node ns (i : Int) = true := (node_of ns i).2 ⟨hm, hi⟩
 unfold Fit
 rw [fits, if_pos hn]
 simp only [Int.toNat_natCast]
 cases h with
 | null h =>
  rw [parts_nul]
  have : (ns.getD i default).null = true := h
  rw [if_pos (.inr rfl), Bool.and_eq_true]
  exact ⟨rfl, this⟩
 | int h x h0 h1 => rw [parts_int x h0 h1]; have hk : 0 = (ns.getD i default).kind := h.symm; simp only []; rw [if_neg (by decide), if_neg (by rw [← hk]; decide)]; simp []
 | bool h b => rw [parts_bool]; have hk : 1 = (ns.getD i default).kind := h.symm; simp only []; rw [if_neg (by decide), if_neg (by rw [← hk]; decide)]; simp []
 | str h s hs => rw [parts_str s hs]; have hk : 2 = (ns.getD i default).kind := h.symm; simp only []; rw [if_neg (by decide), if_neg (by rw [← hk]; decide)]; simp [hs]
 | list h ps hl hp hv his =>
  have hsh := parts_short (list ps)
  rw [parts_list ps hv his] at hsh ⊢
  have hk : (ns.getD i default).kind = 3 := h
  simp only [hk, hl]
  simp only [decide_true, Bool.and_true]
  rw [if_neg (by decide), if_neg (by decide), if_neg (by decide), if_neg (by decide)]
  rw [List.all_eq_true]
  intro p hp'
  have h2 := hp p hp'
  unfold Fit at h2
  rw [fits_fuel ns (p.length + 1) (list ps).length _ p (by omega) (hsh (show (3 : Int) ≤ 3 by decide) p hp')] at h2
  rw [h2]; rfl
 | struct h ps hl hp hv his =>
  have hsh := parts_short (struct ps)
  rw [parts_struct ps hv his] at hsh ⊢
  have hk : (ns.getD i default).kind = 4 := h
  simp only [hk]
  rw [if_neg (by decide), if_neg (by decide), if_neg (by decide), if_pos trivial]
  unfold allOf
  simp only [Bool.and_eq_true, beq_iff_eq, List.all_eq_true, List.mem_range]
  refine ⟨fun j hj => ?_, hl.symm⟩
  have hj' : j < ps.length := by omega
  have hm : ps.getD j [] ∈ ps := by
   rw [List.getD_eq_getElem?_getD, List.getElem?_eq_getElem hj']
   exact List.getElem_mem _
  have h2 := hp j hj'
  unfold Fit at h2
  rw [fits_fuel ns ((ps.getD j []).length + 1) (struct ps).length _ _ (by omega) (hsh (show (3 : Int) ≤ 4 by decide) _ hm)] at h2
  exact h2
/-! How deep. -/
theorem may_behind {ns : List Nd} (h : may ns = true) (i : Nat) (hi : i < ns.length) : Behind ns i := by
 rw [← refMay_eq] at h
 unfold refMay at h
 simp only [Bool.and_eq_true, beq_iff_eq, List.all_eq_true, List.mem_range] at h
 refine behind_of_up ns ns.length h.2.1 (fun j hj => ?_) i hi
 have := h.2.2 j hj
 unfold rowOk at this
 rw [Bool.and_eq_true] at this
 exact this.2
theorem dp_kid {ns : List Nd} (h : may ns = true) {i k : Nat} (hk : k ∈ kids ns (i : Int)) : dp ns k = dp ns i + 1 := by
 obtain ⟨h1, h2⟩ := kids_gt ns h i k hk
 have hs := dp_step ns k (may_behind h k h2) (by omega)
 have hp : parentOf ns k = (i : Int) := by
  unfold kids kidsTo at hk
  have := (List.mem_filter.1 hk).2
  unfold isKid at this
  simp only [Bool.and_eq_true, decide_eq_true_eq, beq_iff_eq] at this
  exact this.2
 rw [hs, hp, Int.toNat_natCast]
theorem dp_le {ns : List Nd} (h : may ns = true) {i : Nat} (hi : i < ns.length) : dp ns i ≤ 4 := by
 have h2 := node_two ns i hi ((node_of ns i).2 ⟨h, hi⟩)
 unfold okTwo at h2
 simp only [Bool.not_eq_true', Bool.or_eq_false_iff, decide_eq_false_iff_not] at h2
 have h3 := h2.2
 rw [way_behind ns i (ns.length + 1) (may_behind h i hi) (by omega)] at h3
 unfold dp
 omega
theorem isv_le {d d' : Nat} {V : Txt} (hd : d ≤ d') (hl : V.length ≤ 9223372036854775807) (h : IsV d V) : IsV d' V := by
 induction d' with
 | zero =>
  obtain rfl : d = 0 := by omega
  exact h
 | succ m ih =>
  rcases Nat.lt_or_ge m d with hlt | hge
  ·obtain rfl : d = m + 1 := by omega
   exact h
  ·obtain ⟨k, ps, hk⟩ := ih hge
   exact ⟨k, ps, is_mono m V k ps hl hk⟩
theorem fit_isv {ns : List Nd} (h : may ns = true) : ∀ (n i : Nat) (v : Txt), i < ns.length → ns.length - i ≤ n → Fit ns i v → IsV (5 - dp ns i) v := by
 intro n
 induction n with
 | zero => intro i v hi h1 _; omega
 | succ n ih =>
  intro i v hi h1 hf
  have hd := dp_le h hi
  rw [show 5 - dp ns i = (4 - dp ns i) + 1 by omega]
  cases fit_inv hf with
  | null => exact ⟨_, _, is_null _⟩
  | int _ x h0 h1 => exact ⟨_, _, is_int _ x h0 h1⟩
  | bool _ b => exact ⟨_, _, is_bool _ b⟩
  | str _ s hs => exact ⟨_, _, is_str _ s (by omega)⟩
  | list hk ps hl hp hv his =>
   refine ⟨_, _, is_list _ ps fun p hp' => ?_⟩
   have hm := kid0_mem (ns := ns) (i := i) (j := 0) (by rw [kids_one' h hi hk]; simp)
   obtain ⟨h2, h3⟩ := kids_gt ns h i _ hm
   have := ih _ p h3 (by omega) (hp p hp')
   rw [dp_kid h hm] at this
   rwa [show 4 - dp ns i = 5 - (dp ns i + 1) by omega]
  | struct hk ps hl hp hv his =>
   refine ⟨_, _, is_struct _ ps fun p hp' => ?_⟩
   obtain ⟨j, hj, rfl⟩ := List.getElem_of_mem hp'
   have hm := kid0_mem (ns := ns) (i := i) (j := j) (by omega)
   obtain ⟨h2, h3⟩ := kids_gt ns h i _ hm
   have := ih _ _ h3 (by omega) (hp j hj)
   rw [dp_kid h hm, List.getD_eq_getElem?_getD, List.getElem?_eq_getElem hj] at this
   rwa [show 4 - dp ns i = 5 - (dp ns i + 1) by omega]
theorem fit_len {ns : List Nd} {i : Nat} {v : Txt} (hf : Fit ns i v) : v.length ≤ 65536 := by
 cases fit_inv hf with
 | null => simp [nul]
 | int _ x h0 h1 => have := digitsLen x h0 h1; simp [int]; omega
 | bool _ b => cases b <;> simp [bool]
 | str _ s hs => have := str_length s hs; omega
 | list _ ps hl hp hv his => exact hv
 | struct _ ps hl hp hv his => exact hv
theorem fit_is4 {ns : List Nd} (h : may ns = true) {i k : Nat} (hk : k ∈ kids ns (i : Int)) {p : Txt} (hf : Fit ns k p) : IsV 4 p := by
 obtain ⟨h1, h2⟩ := kids_gt ns h i k hk
 have := fit_isv h _ k p h2 (Nat.le_refl _) hf
 rw [dp_kid h hk] at this
 exact isv_le (by omega) (by have := fit_len hf; omega) this
/-- A list, a struct of values that fit. -/
theorem fit_list {ns : List Nd} (h : may ns = true) {i : Nat} (hi : i < ns.length) (hk : kindOf ns i = 3) (ps : List Txt) (hl : ps.length ≤ 64) (hp : ∀ p ∈ ps, Fit ns ((kids ns i).getD 0 0) p) (hv : (list ps).length ≤ 65536) : Fit ns i (list ps) :=
 fit_of h hi (.list hk ps hl hp hv fun p hp' => fit_is4 h (kid0_mem (by rw [kids_one' h hi hk]; simp)) (hp p hp'))
theorem fit_struct {ns : List Nd} (h : may ns = true) {i : Nat} (hi : i < ns.length) (hk : kindOf ns i = 4) (ps : List Txt) (hl : ps.length = (kids ns i).length) (hp : ∀ j, j < ps.length → Fit ns ((kids ns i).getD j 0) (ps.getD j [])) (hv : (struct ps).length ≤ 65536) : Fit ns i (struct ps) :=
 fit_of h hi (.struct hk ps hl hp hv fun p hp' => by
  obtain ⟨j, hj, rfl⟩ := List.getElem_of_mem hp'
  have := hp j hj
  rw [List.getD_eq_getElem?_getD (l := ps), List.getElem?_eq_getElem hj] at this
  have hm := kid0_mem (ns := ns) (i := i) (j := j) (by omega)
  exact fit_is4 h hm this)

/-! The zeros fit. -/
theorem join_length (ps : List Txt) (b : Nat) (h : ∀ p ∈ ps, p.length ≤ b) : (join ps).length ≤ ps.length * b := by
 induction ps with
 | nil => simp [join]
 | cons p ps ih =>
  have h1 := h p (by simp)
  have h2 := ih fun q hq => h q (by simp [hq])
  have e : (join (p :: ps)).length = p.length + (join ps).length := by simp [join]
  rw [e, List.length_cons, Nat.succ_mul]
  omega
theorem kids_many {ns : List Nd} (h : may ns = true) (i : Nat) : (kids ns (i : Int)).length ≤ ns.length - 1 - i := by
 have hall : ∀ n, n ≤ ns.length → (kidsTo ns (i : Int) n).length ≤ n - 1 - i := by
  intro n
  induction n with
  | zero => intro _; simp [kidsTo]
  | succ n ih =>
   intro hn
   have h1 := ih (by omega)
   rw [kidsTo_succ, List.length_append]
   split
   ·rename_i hk
    have hm : n ∈ kids ns (i : Int) := by
     unfold kids kidsTo
     exact List.mem_filter.2 ⟨List.mem_range.2 (by omega), hk⟩
    have := (kids_gt ns h i n hm).1
    rw [List.length_singleton]
    omega
   ·rw [List.length_nil]
    omega
 exact hall _ (Nat.le_refl _)
theorem zero_fit {ns : List Nd} (h : may ns = true) : ∀ (n i : Nat), i < ns.length → ns.length - i ≤ n → Fit ns i (zero ns i) ∧ (zero ns i).length ≤ 3 * 8 ^ (4 - dp ns i) := by
 intro n
 induction n with
 | zero => intro i hi h1; omega
 | succ n ih =>
  intro i hi h1
  have hd := dp_le h hi
  have hp1 : 1 ≤ 8 ^ (4 - dp ns i) := Nat.one_le_pow _ _ (by decide)
  have hkind := may_kind ns h i hi
  rw [zero_eq ns h i hi]
  by_cases h0 : isNull ns i = true
  ·rw [if_pos h0]
   exact ⟨fit_of h hi (.null h0), by simp [nul]; omega⟩
  rw [if_neg h0]
  by_cases h1 : kindOf ns i = 0
  ·rw [if_pos h1]
   exact ⟨fit_of h hi (.int h1 0 (by decide) (by decide)), by rw [show (int 0).length = 3 by decide +kernel]; omega⟩
  rw [if_neg h1]
  by_cases h2 : kindOf ns i = 1
  ·rw [if_pos h2]
   exact ⟨fit_of h hi (.bool h2 false), by simp [bool]; omega⟩
  rw [if_neg h2]
  by_cases h3 : kindOf ns i = 2
  ·rw [if_pos h3]
   exact ⟨fit_of h hi (.str h3 [] (by simp)), by rw [show (str []).length = 3 by decide +kernel]; omega⟩
  rw [if_neg h3]
  by_cases h4 : kindOf ns i = 3
  ·rw [if_pos h4]
   exact ⟨fit_list h hi h4 [] (by simp) (by simp) (by simp [list, join]), by rw [show (list []).length = 2 by decide +kernel]; omega⟩
  rw [if_neg h4]
  have h5 : kindOf ns i = 4 := by omega
  have hne : 1 ≤ (kids ns (i : Int)).length := by
   have h6 := node_two ns i hi ((node_of ns i).2 ⟨h, hi⟩)
   unfold okTwo at h6
   rw [h5] at h6
   simp only [Bool.not_eq_true', Bool.or_eq_false_iff, beq_self_eq_true, Bool.true_and, beq_eq_false_iff_ne] at h6
   omega
  obtain ⟨k0, hk0⟩ : ∃ k, k ∈ kids ns (i : Int) := ⟨_, List.getElem_mem (show 0 < _ from hne)⟩
  have hd0 := dp_kid h hk0
  have hd1 := dp_le h (kids_gt ns h i k0 hk0).2
  have hpow : 8 ^ (4 - dp ns i) = 8 * 8 ^ (4 - (dp ns i + 1)) := by
   rw [show 4 - dp ns i = (4 - (dp ns i + 1)) + 1 by omega, Nat.pow_succ, Nat.mul_comm]
  have hp2 : 1 ≤ 8 ^ (4 - (dp ns i + 1)) := Nat.one_le_pow _ _ (by decide)
  have hp3 : 8 ^ (4 - (dp ns i + 1)) ≤ 8 ^ 3 := Nat.pow_le_pow_right (by decide) (by omega)
  have hlen : (join ((kids ns (i : Int)).map (zero ns))).length ≤ 7 * (3 * 8 ^ (4 - (dp ns i + 1))) := by
   have := join_length ((kids ns (i : Int)).map (zero ns)) (3 * 8 ^ (4 - (dp ns i + 1))) fun p hp => by
    obtain ⟨k, hk, rfl⟩ := List.mem_map.1 hp
    obtain ⟨h7, h8⟩ := kids_gt ns h i k hk
    have := (ih k h8 (by omega)).2
    rwa [dp_kid h hk] at this
   rw [List.length_map] at this
   have hm := kids_many h i
   have := (may_len ns h).2
   exact Nat.le_trans ‹_› (Nat.mul_le_mul_right _ (by omega))
  have hlen2 : (struct ((kids ns (i : Int)).map (zero ns))).length = (join ((kids ns (i : Int)).map (zero ns))).length + 2 := by simp [struct]
  generalize 8 ^ (4 - (dp ns i + 1)) = z at *
  refine ⟨fit_struct h hi h5 _ (by simp) (fun j hj => ?_) (by omega), by omega⟩
  rw [List.length_map] at hj
  rw [List.getD_eq_getElem?_getD (l := (kids ns (i : Int)).map (zero ns)), List.getElem?_map, List.getElem?_eq_getElem hj, List.getD_eq_getElem?_getD, List.getElem?_eq_getElem hj]
  exact (ih _ (kids_gt ns h i _ (List.getElem_mem hj)).2 (by have := (kids_gt ns h i _ (List.getElem_mem hj)).1; omega)).1
end Go.Proofs.YtobhjlchpnpleaaGreatDoor.Vp

/- The parts of values that fit, as the builder takes them; plain Lean. No program. -/
namespace Go.Proofs.YtobhjlchpnpleaaGreatDoor.Vp
set_option linter.unusedVariables false
set_option linter.unusedSimpArgs false
open Tp Go

theorem ne_nul_int (x : Int) : int x ≠ nul := by simp [int, nul]
theorem ne_nul_bool (b : Bool) : bool b ≠ nul := by cases b <;> simp [bool, nul]
theorem ne_nul_str (s : Txt) : str s ≠ nul := by simp [str, nul]
theorem ne_nul_list (ps : List Txt) : list ps ≠ nul := by simp [list, nul]
theorem ne_nul_struct (ps : List Txt) : struct ps ≠ nul := by simp [struct, nul]
theorem partOr_nul (o : List Txt) : partOr o nul = o := if_pos rfl
theorem partOr_int (o : List Txt) (x : Int) (h0 : -9223372036854775808 ≤ x) (h1 : x ≤ 9223372036854775807) : partOr o (int x) = [Lib.itoa x] := by
 rw [partOr, if_neg (ne_nul_int x), parts_int x h0 h1]
theorem partOr_bool (o : List Txt) (b : Bool) : partOr o (bool b) = [bool b] := by
 rw [partOr, if_neg (ne_nul_bool b), parts_bool]
theorem partOr_str (o : List Txt) (s : Txt) (h : s.length ≤ 16) : partOr o (str s) = [s] := by
 rw [partOr, if_neg (ne_nul_str s), parts_str s h]
theorem partOr_list (o : List Txt) (ps : List Txt) (h : (list ps).length ≤ 65536) (hp : ∀ p ∈ ps, IsV 4 p) : partOr o (list ps) = ps := by
 rw [partOr, if_neg (ne_nul_list ps), parts_list ps h hp]
theorem partOr_struct (o : List Txt) (ps : List Txt) (h : (struct ps).length ≤ 65536) (hp : ∀ p ∈ ps, IsV 4 p) : partOr o (struct ps) = ps := by
 rw [partOr, if_neg (ne_nul_struct ps), parts_struct ps h hp]

theorem itoa_zero : Lib.itoa 0 = [48] := by decide +kernel
/-- A whole number's row. -/
theorem row_int {ns : List Nd} {i : Nat} {v : Txt} (hk : kindOf ns i = 0) (h : Fit ns i v) : ∃ x, -9223372036854775808 ≤ x ∧ x ≤ 9223372036854775807 ∧ partOr [[48]] v = [Lib.itoa x] ∧ (v = nul ∧ x = 0 ∨ v = int x) := by
 cases fit_inv h with
 | null _ => exact ⟨0, by decide, by decide, by rw [partOr_nul, itoa_zero], .inl ⟨rfl, rfl⟩⟩
 | int _ x h0 h1 => exact ⟨x, h0, h1, partOr_int _ x h0 h1, .inr rfl⟩
 | bool h' _ => rw [hk] at h'; cases h'
 | str h' _ => rw [hk] at h'; cases h'
 | list h' _ => rw [hk] at h'; cases h'
 | struct h' _ => rw [hk] at h'; cases h'
theorem row_bool {ns : List Nd} {i : Nat} {v : Txt} (hk : kindOf ns i = 1) (h : Fit ns i v) : ∃ b, partOr [[102]] v = [bool b] ∧ (v = nul ∧ b = false ∨ v = bool b) := by
 cases fit_inv h with
 | null _ => exact ⟨false, by rw [partOr_nul]; rfl, .inl ⟨rfl, rfl⟩⟩
 | bool _ b => exact ⟨b, partOr_bool _ b, .inr rfl⟩
 | int h' _ => rw [hk] at h'; cases h'
 | str h' _ => rw [hk] at h'; cases h'
 | list h' _ => rw [hk] at h'; cases h'
 | struct h' _ => rw [hk] at h'; cases h'
theorem row_str {ns : List Nd} {i : Nat} {v : Txt} (hk : kindOf ns i = 2) (h : Fit ns i v) : ∃ s, s.length ≤ 16 ∧ partOr [[]] v = [s] ∧ (v = nul ∧ s = [] ∨ v = str s) := by
 cases fit_inv h with
 | null _ => exact ⟨[], by simp, by rw [partOr_nul], .inl ⟨rfl, rfl⟩⟩
 | str _ s hs => exact ⟨s, hs, partOr_str _ s hs, .inr rfl⟩
 | int h' _ => rw [hk] at h'; cases h'
 | bool h' _ => rw [hk] at h'; cases h'
 | list h' _ => rw [hk] at h'; cases h'
 | struct h' _ => rw [hk] at h'; cases h'
theorem row_list {ns : List Nd} {i : Nat} {v : Txt} (hk : kindOf ns i = 3) (h : Fit ns i v) : (partOr [] v).length ≤ 64 ∧ (∀ p ∈ partOr [] v, Fit ns ((kids ns i).getD 0 0) p) ∧ (v = nul ∧ partOr [] v = [] ∨ v = list (partOr [] v)) := by
 cases fit_inv h with
 | null _ => rw [partOr_nul]; exact ⟨by simp, by simp, .inl ⟨rfl, rfl⟩⟩
 | list _ ps hl hp hv his => rw [partOr_list [] ps hv his]; exact ⟨hl, hp, .inr rfl⟩
 | int h' _ => rw [hk] at h'; cases h'
 | bool h' _ => rw [hk] at h'; cases h'
 | str h' _ => rw [hk] at h'; cases h'
 | struct h' _ => rw [hk] at h'; cases h'
theorem row_struct {ns : List Nd} (hm : may ns = true) {i : Nat} (hi : i < ns.length) {v : Txt} (hk : kindOf ns i = 4) (h : Fit ns i v) :
  (partOr ((kids ns i).map (zero ns)) v).length = (kids ns i).length ∧ (∀ j, j < (kids ns i).length → Fit ns ((kids ns i).getD j 0) ((partOr ((kids ns i).map (zero ns)) v).getD j [])) ∧
   (v = nul ∧ partOr ((kids ns i).map (zero ns)) v = (kids ns i).map (zero ns) ∨ v = struct (partOr ((kids ns i).map (zero ns)) v)) := by
 cases fit_inv h with
 | null _ =>
  rw [partOr_nul]
  refine ⟨by simp, fun j hj => ?_, .inl ⟨rfl, rfl⟩⟩
  rw [List.getD_eq_getElem?_getD (l := (kids ns (i : Int)).map (zero ns)), List.getElem?_map, List.getElem?_eq_getElem hj, List.getD_eq_getElem?_getD, List.getElem?_eq_getElem hj]
  exact (zero_fit hm _ _ (kids_gt ns hm i _ (List.getElem_mem hj)).2 (Nat.le_refl _)).1
 | struct _ ps hl hp hv his => rw [partOr_struct _ ps hv his]; exact ⟨hl, fun j hj => hp j (by omega), .inr rfl⟩
 | int h' _ => rw [hk] at h'; cases h'
 | bool h' _ => rw [hk] at h'; cases h'
 | str h' _ => rw [hk] at h'; cases h'
 | list h' _ => rw [hk] at h'; cases h'
/-- A leaf has no kids. -/
theorem leaf_kids {ns : List Nd} (h : may ns = true) {i : Nat} (hi : i < ns.length) (hk : kindOf ns i ≤ 2) : (kids ns (i : Int)).length = 0 := by
 rw [← refMay_eq] at h
 unfold refMay at h
 simp only [Bool.and_eq_true, List.all_eq_true, List.mem_range] at h
 have := h.2.2 i hi
 unfold rowOk Tp.kindOk kidsOf at this
 rw [if_neg (by omega), if_neg (by omega)] at this
 simp only [Bool.and_eq_true, beq_iff_eq] at this
 exact this.1.2
end Go.Proofs.YtobhjlchpnpleaaGreatDoor.Vp

/- Arrays that may be, and what their rows are, in plain Lean. No program. -/
namespace Go.Proofs.YtobhjlchpnpleaaGreatDoor
set_option linter.unusedVariables false
set_option linter.unusedSimpArgs false

namespace Arr
def lay : Arr → Int | .mk l _ _ _ _ _ _ => l
def off : Arr → Int | .mk _ f _ _ _ _ _ => f
def len : Arr → Int | .mk _ _ n _ _ _ _ => n
def valid : Arr → Vp.Txt | .mk _ _ _ v _ _ _ => v
def ends : Arr → Vp.Txt | .mk _ _ _ _ e _ _ => e
def data : Arr → Vp.Txt | .mk _ _ _ _ _ d _ => d
def kids : Arr → List Arr | .mk _ _ _ _ _ _ k => k
def none : Arr := .mk 0 0 0 [] [] [] []
end Arr
namespace Vp
open Tp

/-- A number of bytes, the lowest first. -/
def le (l : Txt) : Nat := l.foldr (fun c a => c.toNat + 256 * a) 0
def cut4 (s : Txt) (at_ : Nat) : Nat := le ((s.drop (4 * at_)).take 4)
/-- The number at a place in a row of numbers of four bytes. -/
def num4 (s : Txt) (at_ : Nat) : Int × Bool := if 4 * at_ + 4 ≤ s.length ∧ cut4 s at_ ≤ 2147483647 then ((cut4 s at_ : Nat), true) else (0, false)
def on (v : Txt) (row : Nat) : Bool := decide (v = []) || Bt.bit v row
def bufOk (ns : List Nd) (i : Nat) (f n : Int) (v e d : Txt) : Bool :=
 decide (0 ≤ f ∧ 0 ≤ n ∧ f ≤ 64 ∧ n ≤ 64 - f ∧ v.length ≤ 4096 ∧ e.length ≤ 4096 ∧ d.length ≤ 4096) && (decide (v = []) || (isNull ns i && decide ((f + n + 7) / 8 ≤ v.length)))
def endOk (s : Txt) (most : Int) (from_ apart : Nat) (i : Nat) : Bool :=
 (num4 s i).2 && (decide ((num4 s i).1 ≤ most) && (decide (i = 0) || (decide ((num4 s (i - 1)).1 ≤ (num4 s i).1) && (decide (i ≤ from_) || decide ((num4 s i).1 - (num4 s (i - 1)).1 ≤ apart)))))
def endsOk (s : Txt) (rows : Nat) (most : Int) (from_ apart : Nat) : Bool := (List.range (rows + 1)).all (endOk s most from_ apart)
def kid0 (ks : List Arr) : Arr := ks.getD 0 Arr.none
def plainOk (ns : List Nd) (i : Nat) (f n : Int) (e d : Txt) (ks : List Arr) : Bool :=
 if kindOf ns i = 0 then decide (e = []) && decide (8 * (f + n) ≤ d.length)
 else if kindOf ns i = 1 then decide (e = []) && decide ((f + n + 7) / 8 ≤ d.length)
 else if kindOf ns i = 2 then endsOk e (f + n).toNat d.length f.toNat 16
 else if kindOf ns i = 3 then decide (d = []) && endsOk e (f + n).toNat (kid0 ks).len 0 64
 else decide (e = []) && (decide (d = []) && ks.all fun k => decide (f + n ≤ k.len))
def oneOk (ns : List Nd) (i : Nat) (e : Txt) (ks : List Arr) : Bool := !inner (kindOf ns i) && (decide (e = []) && (decide (ks.length = 1) && decide ((kid0 ks).lay = 0)))
def dictAt (v d : Txt) (k : Int) (row : Nat) : Bool := !(on v row && (!(num4 d row).2 || decide (k ≤ (num4 d row).1)))
def dictOk (f n : Int) (v d : Txt) (kid : Arr) : Bool :=
 decide (kid.valid = []) && (decide (4 * (f + n) ≤ d.length) && (List.range n.toNat).all fun j => dictAt v d kid.len (f.toNat + j))
/-- The end of the run ahead of one. -/
def runEnd (d : Txt) (i : Nat) : Int := if i = 0 then 0 else (num4 d (i - 1)).1
def runAt (d : Txt) (i : Nat) : Bool := (num4 d i).2 && decide (runEnd d i < (num4 d i).1)
def runOk (f n : Int) (v d : Txt) (k : Int) : Bool :=
 decide (v = []) && (decide ((d.length : Int) = 4 * k) && ((List.range k.toNat).all (runAt d) && decide (f + n ≤ runEnd d k.toNat)))

mutual
def mayA (ns : List Nd) : Arr → Nat → Bool
 | .mk l f n v e d ks, i => (node ns i && bufOk ns i f n v e d) &&
  (if l = 0 then decide (ks.length = (kids ns i).length) && (mayAll ns ks (kids ns i) && plainOk ns i f n e d ks)
  else if l = 1 then oneOk ns i e ks && (mayAll ns ks [i] && dictOk f n v d (kid0 ks))
  else if l = 2 then oneOk ns i e ks && (mayAll ns ks [i] && runOk f n v d (kid0 ks).len)
  else false)
def mayAll (ns : List Nd) : List Arr → List Nat → Bool
 | a :: r, k :: q => mayA ns a k && mayAll ns r q
 | [], _ => true
 | _ :: _, [] => true
end

/-- The number of the first run whose end is above a row. -/
def runOf (d : Txt) (row : Nat) : Nat := (List.range (d.length / 4)).findIdx fun i => decide ((row : Int) < (num4 d i).1)
def int8 (d : Txt) (row : Nat) : Int := IntKind.i64.wrap (le ((d.drop (8 * row)).take 8) : Nat)

mutual
/-- The value of a row, counted from the first one on. -/
def textA (ns : List Nd) : Arr → Nat → Nat → Txt
 | .mk l f n v e d ks, i, row =>
  if on v row = false then nul
  else if l = 1 then headA ns ks i (num4 d row).1.toNat
  else if l = 2 then headA ns ks i (runOf d row)
  else if kindOf ns i = 0 then int (int8 d row)
  else if kindOf ns i = 1 then bool (Bt.bit d row)
  else if kindOf ns i = 2 then str ((d.drop (num4 e row).1.toNat).take ((num4 e (row + 1)).1.toNat - (num4 e row).1.toNat))
  else if kindOf ns i = 3 then list ((List.range ((num4 e (row + 1)).1.toNat - (num4 e row).1.toNat)).map fun j => headA ns ks ((kids ns i).getD 0 0) ((num4 e row).1.toNat + j))
  else struct (eachA ns ks (kids ns i) row)
/-- A row of the first kid, counted from its Offset. -/
def headA (ns : List Nd) : List Arr → Nat → Nat → Txt
 | [], _, _ => []
 | .mk l f n v e d ks :: _, i, row => textA ns (.mk l f n v e d ks) i (f.toNat + row)
def eachA (ns : List Nd) : List Arr → List Nat → Nat → List Txt
 | .mk l f n v e d ks :: r, k :: q, row => textA ns (.mk l f n v e d ks) k (f.toNat + row) :: eachA ns r q row
 | [], _, _ => []
 | _ :: _, [], _ => []
end
def rowA (ns : List Nd) (a : Arr) (i : Nat) (row : Nat) : Txt := textA ns a i (a.off.toNat + row)
def valsA (ns : List Nd) (a : Arr) (i : Nat) : List Txt := (List.range a.len.toNat).map (rowA ns a i)
end Vp
end Go.Proofs.YtobhjlchpnpleaaGreatDoor
