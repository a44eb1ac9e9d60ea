/- Values as texts, in plain Lean: the taker's steps. No program. -/
import Derived.Lib.AtoiAll
import Derived.Lib.IndexMore
import Derived.Lib.ItoaNum
namespace Go.Proofs.YtlllflacnlgigaaDoor.Vp
set_option linter.unusedVariables false
open Go

abbrev Txt := List UInt8

/-- A taker: what is left; whether something was not as it should be. -/
structure Tk where
  rest : Txt
  bad : Bool
  deriving DecidableEq

def byte : Tk → UInt8 × Tk
  | ⟨[], _⟩ => (0, ⟨[], true⟩)
  | ⟨c :: r, bad⟩ => (c, ⟨r, bad⟩)

/-- What Atoi gives: the number, and whether it is one. -/
def atoi (l : Txt) : Int × Bool :=
  match Lib.atoiAll l with
  | .ok v => (v, true)
  | .range => (Lib.atoiSat l, false)
  | _ => (0, false)

def number (t : Tk) (e : UInt8) : Int × Txt × Tk :=
  let c := Lib.cut t.rest [e]
  let a := atoi c.1
  (a.1, c.1, ⟨c.2.1, t.bad || !c.2.2 || !a.2 || (Lib.itoa a.1 != c.1)⟩)

def bytes (t : Tk) (n : Int) : Txt × Tk :=
  if t.bad = true ∨ n < 0 ∨ (t.rest.length : Int) < n then ([], ⟨t.rest, true⟩) else (t.rest.take n.toNat, ⟨t.rest.drop n.toNat, t.bad⟩)

/-- Does the row go on? -/
def goes (e : UInt8) (t : Tk) : Bool := !t.bad && (match t.rest with | [] => false | c :: _ => c != e)

def rowLoop (f : Tk → Tk) (e : UInt8) : Nat → Tk → List Txt → List Txt × Tk
  | 0, t, out => (out, t)
  | n + 1, t, out => if goes e t then rowLoop f e n (f t) (out ++ [t.rest.take (t.rest.length - (f t).rest.length)]) else (out, t)

def row (f : Tk → Tk) (e : UInt8) (t : Tk) : List Txt × Tk :=
  let r := rowLoop f e (t.rest.length + 1) t []
  (r.1, (byte r.2).2)

/-- A value that may hold so many others in one another, less one. -/
def value : Nat → Tk → Int × List Txt × Tk
  | 0, t => (0, [], ⟨t.rest, true⟩)
  | d + 1, t =>
    let b := byte t
    if b.1 = 110 then (-1, [], b.2)
    else if b.1 = 105 then let n := number b.2 59; (0, [n.2.1], n.2.2)
    else if b.1 = 116 ∨ b.1 = 102 then (1, [[b.1]], b.2)
    else if b.1 = 115 then let n := number b.2 58; let s := bytes n.2.2 n.1; (2, [s.1], s.2)
    else if b.1 = 91 then let r := row (fun t => (value d t).2.2) 93 b.2; (3, r.1, r.2)
    else if b.1 = 123 then let r := row (fun t => (value d t).2.2) 125 b.2; (4, r.1, r.2)
    else (0, [], ⟨b.2.rest, true⟩)

/-- The kind, the parts, and whether it is a value. -/
def parts (v : Txt) : Int × List Txt × Int :=
  if 65536 < v.length then (0, [], 700)
  else
    let r := value 5 ⟨v, false⟩
    if r.2.2.bad = true ∨ r.2.2.rest ≠ [] then (0, [], 700) else (r.1, r.2.1, 0)

def join (vs : List Txt) : Txt := vs.flatten
def int (x : Int) : Txt := 105 :: (Lib.itoa x ++ [59])
def bool (on : Bool) : Txt := if on then [116] else [102]
def str (s : Txt) : Txt := 115 :: (Lib.itoa s.length ++ 58 :: s)
def list (vs : List Txt) : Txt := 91 :: (join vs ++ [93])
def struct (vs : List Txt) : Txt := 123 :: (join vs ++ [125])

/-! What is left never grows; a step of a row takes something, or fails. -/
theorem byte_le (t : Tk) : (byte t).2.rest.length ≤ t.rest.length := by
  obtain ⟨s, bad⟩ := t
  cases s <;> simp [byte]
theorem byte_lt (t : Tk) (h : t.rest ≠ []) : (byte t).2.rest.length < t.rest.length := by
  obtain ⟨s, bad⟩ := t
  cases s <;> simp_all [byte]
theorem cut_le (s sep : Txt) : (Lib.cut s sep).2.1.length ≤ s.length := by
  unfold Lib.cut
  split <;> simp
theorem number_le (t : Tk) (e : UInt8) : (number t e).2.2.rest.length ≤ t.rest.length := cut_le _ _
theorem bytes_le (t : Tk) (n : Int) : (bytes t n).2.rest.length ≤ t.rest.length := by
  unfold bytes
  split <;> simp
theorem rowLoop_le (f : Tk → Tk) (e : UInt8) (hf : ∀ t, (f t).rest.length ≤ t.rest.length) : ∀ (n : Nat) (t : Tk) (out : List Txt), (rowLoop f e n t out).2.rest.length ≤ t.rest.length
  | 0, t, out => by simp [rowLoop]
  | n + 1, t, out => by
    rw [rowLoop]
    split
    · exact Nat.le_trans (rowLoop_le f e hf n _ _) (hf t)
    · exact Nat.le_refl _
theorem row_le (f : Tk → Tk) (e : UInt8) (hf : ∀ t, (f t).rest.length ≤ t.rest.length) (t : Tk) : (row f e t).2.rest.length ≤ t.rest.length :=
  Nat.le_trans (byte_le _) (rowLoop_le f e hf _ _ _)
theorem value_le : ∀ (d : Nat) (t : Tk), (value d t).2.2.rest.length ≤ t.rest.length
  | 0, t => by simp [value]
  | d + 1, t => by
    have hb := byte_le t
    have hr : ∀ e, (row (fun t => (value d t).2.2) e (byte t).2).2.rest.length ≤ t.rest.length := fun e => Nat.le_trans (row_le _ _ (value_le d) _) hb
    have hn : ∀ e, (number (byte t).2 e).2.2.rest.length ≤ t.rest.length := fun e => Nat.le_trans (number_le _ _) hb
    simp only [value]
    split
    · exact hb
    split
    · exact hn 59
    split
    · exact hb
    split
    · exact Nat.le_trans (bytes_le _ _) (hn 58)
    split
    · exact hr 93
    split
    · exact hr 125
    · exact hb
theorem value_step (d : Nat) (t : Tk) (h : t.rest ≠ []) : (value d t).2.2.rest.length < t.rest.length ∨ (value d t).2.2.bad = true := by
  cases d with
  | zero => simp [value]
  | succ d =>
    have hb := byte_lt t h
    have hr : ∀ e, (row (fun t => (value d t).2.2) e (byte t).2).2.rest.length < t.rest.length := fun e => Nat.lt_of_le_of_lt (row_le _ _ (value_le d) _) hb
    have hn : ∀ e, (number (byte t).2 e).2.2.rest.length < t.rest.length := fun e => Nat.lt_of_le_of_lt (number_le _ _) hb
    simp only [value]
    split
    · exact .inl hb
    split
    · exact .inl (hn 59)
    split
    · exact .inl hb
    split
    · exact .inl (Nat.lt_of_le_of_lt (bytes_le _ _) (hn 58))
    split
    · exact .inl (hr 93)
    split
    · exact .inl (hr 125)
    · exact .inr rfl

/-- How many rounds are left at most. -/
def left (t : Tk) : Nat := if t.bad then 0 else t.rest.length
theorem rowLoop_end (f : Tk → Tk) (e : UInt8) (n : Nat) (t : Tk) (out : List Txt) (h : goes e t = false) : rowLoop f e n t out = (out, t) := by
  cases n with
  | zero => rfl
  | succ n => rw [rowLoop, if_neg (by simp [h])]
theorem goes_iff (e : UInt8) (t : Tk) : goes e t = true ↔ t.bad = false ∧ ∃ c r, t.rest = c :: r ∧ c ≠ e := by
  obtain ⟨s, bad⟩ := t
  cases s with
  | nil => simp [goes]
  | cons c r =>
    simp only [goes, Bool.and_eq_true, bne_iff_ne, ne_eq]
    constructor
    · rintro ⟨h1, h2⟩
      exact ⟨by simpa using h1, c, r, rfl, h2⟩
    · rintro ⟨h1, c', r', h2, h3⟩
      obtain ⟨rfl, rfl⟩ := List.cons.inj h2
      exact ⟨by simpa using h1, h3⟩
theorem rowLoop_go (f : Tk → Tk) (e : UInt8) (n : Nat) (t : Tk) (out : List Txt) (h : goes e t = true) (hn : left t ≤ n) :
    ∃ m, n = m + 1 ∧ rowLoop f e n t out = rowLoop f e m (f t) (out ++ [t.rest.take (t.rest.length - (f t).rest.length)]) := by
  obtain ⟨hb, c, r, hr, _⟩ := (goes_iff e t).1 h
  cases n with
  | zero => simp [left, hb, hr] at hn
  | succ m => exact ⟨m, rfl, by rw [rowLoop, if_pos h]⟩
theorem left_step (d : Nat) (t : Tk) (e : UInt8) (h : goes e t = true) : left (value d t).2.2 < left t := by
  obtain ⟨hb, c, r, hr, _⟩ := (goes_iff e t).1 h
  have hs := value_step d t (by simp [hr])
  unfold left
  rw [hb]
  simp only [Bool.false_eq_true, if_false]
  split
  · simp [hr]
  · rcases hs with hs | hs
    · exact hs
    · contradiction
end Go.Proofs.YtlllflacnlgigaaDoor.Vp
