/- Building, in plain Lean: what build.Build computes. No program. -/
import Derived.Test.YtlllflacnlgigaaDoorFitsPure
import Derived.Test.YtlllflacnlgigaaDoorBitsPure
import Derived.Test.YtlllflacnlgigaaDoorValLaw
namespace Go.Proofs.YtlllflacnlgigaaDoor
set_option linter.unusedVariables false
set_option linter.unusedSimpArgs false

/-- A number's byte, the lowest first. -/
def wordB (x : Int) (i : Nat) : UInt8 := UInt8.ofNat ((x / 2 ^ (8 * i)) % 256).toNat
def word (x : Int) (n : Nat) : Vp.Txt := (List.range n).map (wordB x)
theorem word_length (x : Int) (n : Nat) : (word x n).length = n := by simp [word]

inductive Arr where
  | mk (lay off len : Int) (valid ends data : Vp.Txt) (kids : List Arr) : Arr

namespace Vp
open Tp

def nul : Txt := [110]
def isNull (ns : List Nd) (i : Nat) : Bool := (ns.getD i default).null
/-- What stands in a node within nothing. -/
def zeroF (ns : List Nd) : Nat → Nat → Txt
  | 0, _ => nul
  | n + 1, i =>
    if isNull ns i = true then nul
    else if kindOf ns i = 0 then int 0
    else if kindOf ns i = 1 then bool false
    else if kindOf ns i = 2 then str []
    else if kindOf ns i = 3 then list []
    else struct ((kids ns i).map (zeroF ns n))
def zero (ns : List Nd) (i : Nat) : Txt := zeroF ns (ns.length + 1) i

/-- The parts of values; of nothing others. -/
def partOr (other : List Txt) (v : Txt) : List Txt := if v = nul then other else (parts v).2.1
def pts (other : List Txt) (vs : List Txt) : List (List Txt) := vs.map (partOr other)

def there (vs : List Txt) : List Bool := vs.map fun v => decide (v ≠ nul)
def valid (vs : List Txt) : Txt := if (there vs).contains false then Bt.packed (there vs) else []
def sumTo (ms : List Nat) (q : Nat) : Nat := (ms.take q).sum
/-- Where rows end that have so many things each. -/
def endsTo (ms : List Nat) (q : Nat) : Txt := (List.range (q + 1)).flatMap fun j => word (sumTo ms j : Nat) 4
def ends (ms : List Nat) : Txt := endsTo ms ms.length
def intOfRow (r : List Txt) : Int := (atoi (r.getD 0 [])).1
def ints (rows : List (List Txt)) : Txt := rows.flatMap fun r => word (intOfRow r) 8
def truths (rows : List (List Txt)) : List Bool := rows.map fun r => decide (r.getD 0 [] = [116])
def bools (rows : List (List Txt)) : Txt := Bt.packed (truths rows)
def col (rows : List (List Txt)) (j : Nat) : List Txt := rows.map fun r => r.getD j []
def size0 (r : List Txt) : Nat := (r.getD 0 []).length

def seqO {α : Type} : List (Option α) → Option (List α)
  | [] => some []
  | none :: _ => none
  | some a :: r => (seqO r).map (a :: ·)
theorem seqO_snoc {α : Type} (l : List (Option α)) (x : Option α) : seqO (l ++ [x]) = (seqO l).bind fun ys => x.map fun a => ys ++ [a] := by
  induction l with
  | nil => cases x <;> simp [seqO]
  | cons a l ih =>
    cases a with
    | none => simp [seqO]
    | some a =>
      rw [List.cons_append, seqO, seqO, ih]
      cases seqO l with
      | none => rfl
      | some ys => cases x <;> rfl
theorem seqO_none {α : Type} (l m : List (Option α)) (h : seqO l = none) : seqO (l ++ m) = none := by
  induction l with
  | nil => simp [seqO] at h
  | cons a l ih =>
    cases a with
    | none => rfl
    | some a =>
      rw [seqO, Option.map_eq_none_iff] at h
      rw [List.cons_append, seqO, ih h]; rfl
theorem seqO_length {α : Type} : ∀ (l : List (Option α)) (ys : List α), seqO l = some ys → ys.length = l.length
  | [], ys, h => by simp [seqO] at h; simp [h]
  | none :: _, ys, h => by simp [seqO] at h
  | some a :: r, ys, h => by
    rw [seqO, Option.map_eq_some_iff] at h
    obtain ⟨zs, hz, rfl⟩ := h
    simp [seqO_length r zs hz]

/-- An array of values that fit a node; none: it would have too many rows. -/
def bld (ns : List Nd) : Nat → Nat → List Txt → Option Arr
  | 0, _, _ => none
  | n + 1, i, vs =>
    if 64 < vs.length then none
    else if kindOf ns i = 0 then some (.mk 0 0 vs.length (valid vs) [] (ints (pts [[48]] vs)) [])
    else if kindOf ns i = 1 then some (.mk 0 0 vs.length (valid vs) [] (bools (pts [[102]] vs)) [])
    else if kindOf ns i = 2 then some (.mk 0 0 vs.length (valid vs) (ends ((pts [[]] vs).map size0)) (join (pts [[]] vs).flatten) [])
    else if kindOf ns i = 3 then (bld ns n ((kids ns i).getD 0 0) (pts [] vs).flatten).map fun k => .mk 0 0 vs.length (valid vs) (ends ((pts [] vs).map List.length)) [] [k]
    else (seqO ((List.range (kids ns i).length).map fun j => bld ns n ((kids ns i).getD j 0) (col (pts ((kids ns i).map (zero ns)) vs) j))).map fun ks => .mk 0 0 vs.length (valid vs) [] [] ks
def build (ns : List Nd) (i : Nat) (vs : List Txt) : Option Arr := bld ns (ns.length + 1) i vs

/-! Kids stand behind their parent. -/
theorem kids_gt (ns : List Nd) (h : may ns = true) (i k : Nat) (hk : k ∈ kids ns i) : i < k ∧ k < ns.length := by
  unfold kids kidsTo at hk
  obtain ⟨h1, h2⟩ := List.mem_filter.1 hk
  rw [List.mem_range] at h1
  unfold isKid at h2
  simp only [Bool.and_eq_true, decide_eq_true_eq, beq_iff_eq] at h2
  unfold may at h
  simp only [Bool.and_eq_true] at h
  have h3 := (List.all_eq_true.1 h.2.1) k (List.mem_range.2 h1)
  unfold okOne stands at h3
  simp only [Bool.and_eq_true] at h3
  have h4 := h3.2.2
  rw [if_neg (by omega)] at h4
  simp only [Bool.and_eq_true, decide_eq_true_eq] at h4
  rw [h2.2] at h4
  omega
theorem may_len (ns : List Nd) (h : may ns = true) : 0 < ns.length ∧ ns.length ≤ 8 := by
  unfold may at h
  simp only [Bool.and_eq_true, decide_eq_true_eq] at h
  refine ⟨?_, h.1.2⟩
  cases ns with
  | nil => exact absurd rfl h.1.1
  | cons => simp
theorem may_kind (ns : List Nd) (h : may ns = true) (i : Nat) (hi : i < ns.length) : 0 ≤ kindOf ns i ∧ kindOf ns i ≤ 4 := by
  unfold may at h
  simp only [Bool.and_eq_true] at h
  have h3 := (List.all_eq_true.1 h.2.1) i (List.mem_range.2 hi)
  unfold okOne at h3
  simp only [Bool.and_eq_true, decide_eq_true_eq] at h3
  exact ⟨h3.1, h3.2.1⟩
theorem node_of (ns : List Nd) (i : Nat) : node ns i = true ↔ may ns = true ∧ i < ns.length := by
  unfold node
  simp only [Bool.and_eq_true, decide_eq_true_eq]
  constructor
  · rintro ⟨h1, h2⟩; exact ⟨h1, by omega⟩
  · rintro ⟨h1, h2⟩; exact ⟨h1, by omega⟩
theorem zeroF_fuel (ns : List Nd) (h : may ns = true) : ∀ (n m i : Nat), i < ns.length → ns.length - i ≤ n → ns.length - i ≤ m → zeroF ns n i = zeroF ns m i := by
  intro n
  induction n with
  | zero => intro m i hi h1 _; omega
  | succ n ih =>
    intro m i hi h1 h2
    obtain ⟨m, rfl⟩ : ∃ q, m = q + 1 := ⟨m - 1, by omega⟩
    rw [zeroF, zeroF]
    have hk : (kids ns i).map (zeroF ns n) = (kids ns i).map (zeroF ns m) := List.map_congr_left fun k hk => by
      obtain ⟨h3, h4⟩ := kids_gt ns h i k hk
      exact ih m k h4 (by omega) (by omega)
    rw [hk]
theorem zero_eq (ns : List Nd) (h : may ns = true) (i : Nat) (hi : i < ns.length) : zero ns i =
    if isNull ns i = true then nul else if kindOf ns i = 0 then int 0 else if kindOf ns i = 1 then bool false else if kindOf ns i = 2 then str [] else if kindOf ns i = 3 then list [] else struct ((kids ns i).map (zero ns)) := by
  have hk : (kids ns i).map (zeroF ns ns.length) = (kids ns i).map (zero ns) := List.map_congr_left fun k hk => by
    obtain ⟨h3, h4⟩ := kids_gt ns h i k hk
    exact zeroF_fuel ns h _ _ k h4 (by omega) (by omega)
  unfold zero
  rw [zeroF, hk]
  rfl
theorem bld_fuel (ns : List Nd) (h : may ns = true) : ∀ (n m i : Nat) (vs : List Txt), i < ns.length → ns.length - i ≤ n → ns.length - i ≤ m → bld ns n i vs = bld ns m i vs := by
  intro n
  induction n with
  | zero => intro m i vs hi h1 _; omega
  | succ n ih =>
    intro m i vs hi h1 h2
    obtain ⟨m, rfl⟩ : ∃ q, m = q + 1 := ⟨m - 1, by omega⟩
    have hk : ∀ j, j < (kids ns i).length → ∀ vs, bld ns n ((kids ns i).getD j 0) vs = bld ns m ((kids ns i).getD j 0) vs := fun j hj vs => by
      have hm : (kids ns i).getD j 0 ∈ kids ns i := by
        rw [List.getD_eq_getElem?_getD, List.getElem?_eq_getElem hj]
        exact List.getElem_mem _
      obtain ⟨h3, h4⟩ := kids_gt ns h i _ hm
      exact ih m _ vs h4 (by omega) (by omega)
    have hs : ∀ vs : Nat → List Txt, ((List.range (kids ns i).length).map fun j => bld ns n ((kids ns i).getD j 0) (vs j)) = (List.range (kids ns i).length).map fun j => bld ns m ((kids ns i).getD j 0) (vs j) := fun vs =>
      List.map_congr_left fun j hj => hk j (List.mem_range.1 hj) _
    rw [bld, bld]
    by_cases h3 : kindOf ns i = 3
    · have h1' : (kids ns i).length = 1 := by
        obtain ⟨k, hk', _⟩ := kids_one ns i hi ((node_of ns i).2 ⟨h, hi⟩) h3
        rw [hk']; rfl
      rw [hk 0 (by omega), hs]
    · simp only [if_neg h3]
      rw [hs]
theorem build_eq (ns : List Nd) (h : may ns = true) (i : Nat) (hi : i < ns.length) (vs : List Txt) : build ns i vs =
    if 64 < vs.length then none
    else if kindOf ns i = 0 then some (.mk 0 0 vs.length (valid vs) [] (ints (pts [[48]] vs)) [])
    else if kindOf ns i = 1 then some (.mk 0 0 vs.length (valid vs) [] (bools (pts [[102]] vs)) [])
    else if kindOf ns i = 2 then some (.mk 0 0 vs.length (valid vs) (ends ((pts [[]] vs).map size0)) (join (pts [[]] vs).flatten) [])
    else if kindOf ns i = 3 then (build ns ((kids ns i).getD 0 0) (pts [] vs).flatten).map fun k => .mk 0 0 vs.length (valid vs) (ends ((pts [] vs).map List.length)) [] [k]
    else (seqO ((List.range (kids ns i).length).map fun j => build ns ((kids ns i).getD j 0) (col (pts ((kids ns i).map (zero ns)) vs) j))).map fun ks => .mk 0 0 vs.length (valid vs) [] [] ks := by
  have hk : ∀ j, j < (kids ns i).length → ∀ vs, bld ns ns.length ((kids ns i).getD j 0) vs = build ns ((kids ns i).getD j 0) vs := fun j hj vs => by
    have hm : (kids ns i).getD j 0 ∈ kids ns i := by
      rw [List.getD_eq_getElem?_getD, List.getElem?_eq_getElem hj]
      exact List.getElem_mem _
    obtain ⟨h3, h4⟩ := kids_gt ns h i _ hm
    exact bld_fuel ns h _ _ _ vs h4 (by omega) (by omega)
  have hs : ∀ vs : Nat → List Txt, ((List.range (kids ns i).length).map fun j => bld ns ns.length ((kids ns i).getD j 0) (vs j)) = (List.range (kids ns i).length).map fun j => build ns ((kids ns i).getD j 0) (vs j) := fun vs =>
    List.map_congr_left fun j hj => hk j (List.mem_range.1 hj) _
  show bld ns (ns.length + 1) i vs = _
  rw [bld]
  by_cases h3 : kindOf ns i = 3
  · have h1' : (kids ns i).length = 1 := by
      obtain ⟨k, hk', _⟩ := kids_one ns i hi ((node_of ns i).2 ⟨h, hi⟩) h3
      rw [hk']; rfl
    rw [hk 0 (by omega), hs]
  · simp only [if_neg h3]
    rw [hs]
end Vp
end Go.Proofs.YtlllflacnlgigaaDoor
