/- Several texts in one: ArrPure, BackPure, DigPure, RefBldP. -/
import Derived.Test.YtlllflacnlgigaaGreatDoorMc1
import Derived.Laws.Entries
/- Arrays that may be, and what their rows are, in plain Lean. No program. -/
namespace Go.Proofs.YtlllflacnlgigaaGreatDoor
set_option linter.unusedVariables false
set_option linter.unusedSimpArgs false

namespace Arr
def lay : Arr → Int | .mk l _ _ _ _ _ _ => l
def off : Arr → Int | .mk _ f _ _ _ _ _ => f
def len : Arr → Int | .mk _ _ n _ _ _ _ => n
def valid : Arr → Vp.Txt | .mk _ _ _ v _ _ _ => v
def ends : Arr → Vp.Txt | .mk _ _ _ _ e _ _ => e
def data : Arr → Vp.Txt | .mk _ _ _ _ _ d _ => d
def kids : Arr → List Arr | .mk _ _ _ _ _ _ k => k
def none : Arr := .mk 0 0 0 [] [] [] []
end Arr
namespace Vp
open Tp

/-- A number of bytes, the lowest first. -/
def le (l : Txt) : Nat := l.foldr (fun c a => c.toNat + 256 * a) 0
def cut4 (s : Txt) (at_ : Nat) : Nat := le ((s.drop (4 * at_)).take 4)
/-- The number at a place in a row of numbers of four bytes. -/
def num4 (s : Txt) (at_ : Nat) : Int × Bool := if 4 * at_ + 4 ≤ s.length ∧ cut4 s at_ ≤ 2147483647 then ((cut4 s at_ : Nat), true) else (0, false)
def on (v : Txt) (row : Nat) : Bool := decide (v = []) || Bt.bit v row
def bufOk (ns : List Nd) (i : Nat) (f n : Int) (v e d : Txt) : Bool :=
  decide (0 ≤ f ∧ 0 ≤ n ∧ f ≤ 64 ∧ n ≤ 64 - f ∧ v.length ≤ 4096 ∧ e.length ≤ 4096 ∧ d.length ≤ 4096) && (decide (v = []) || (isNull ns i && decide ((f + n + 7) / 8 ≤ v.length)))
def endOk (s : Txt) (most : Int) (from_ apart : Nat) (i : Nat) : Bool :=
  (num4 s i).2 && (decide ((num4 s i).1 ≤ most) && (decide (i = 0) || (decide ((num4 s (i - 1)).1 ≤ (num4 s i).1) && (decide (i ≤ from_) || decide ((num4 s i).1 - (num4 s (i - 1)).1 ≤ apart)))))
def endsOk (s : Txt) (rows : Nat) (most : Int) (from_ apart : Nat) : Bool := (List.range (rows + 1)).all (endOk s most from_ apart)
def kid0 (ks : List Arr) : Arr := ks.getD 0 Arr.none
def plainOk (ns : List Nd) (i : Nat) (f n : Int) (e d : Txt) (ks : List Arr) : Bool :=
  if kindOf ns i = 0 then decide (e = []) && decide (8 * (f + n) ≤ d.length)
  else if kindOf ns i = 1 then decide (e = []) && decide ((f + n + 7) / 8 ≤ d.length)
  else if kindOf ns i = 2 then endsOk e (f + n).toNat d.length f.toNat 16
  else if kindOf ns i = 3 then decide (d = []) && endsOk e (f + n).toNat (kid0 ks).len 0 64
  else decide (e = []) && (decide (d = []) && ks.all fun k => decide (f + n ≤ k.len))
def oneOk (ns : List Nd) (i : Nat) (e : Txt) (ks : List Arr) : Bool := !inner (kindOf ns i) && (decide (e = []) && (decide (ks.length = 1) && decide ((kid0 ks).lay = 0)))
def dictAt (v d : Txt) (k : Int) (row : Nat) : Bool := !(on v row && (!(num4 d row).2 || decide (k ≤ (num4 d row).1)))
def dictOk (f n : Int) (v d : Txt) (kid : Arr) : Bool :=
  decide (kid.valid = []) && (decide (4 * (f + n) ≤ d.length) && (List.range n.toNat).all fun j => dictAt v d kid.len (f.toNat + j))
/-- The end of the run ahead of one. -/
def runEnd (d : Txt) (i : Nat) : Int := if i = 0 then 0 else (num4 d (i - 1)).1
def runAt (d : Txt) (i : Nat) : Bool := (num4 d i).2 && decide (runEnd d i < (num4 d i).1)
def runOk (f n : Int) (v d : Txt) (k : Int) : Bool :=
  decide (v = []) && (decide ((d.length : Int) = 4 * k) && ((List.range k.toNat).all (runAt d) && decide (f + n ≤ runEnd d k.toNat)))

mutual
def mayA (ns : List Nd) : Arr → Nat → Bool
  | .mk l f n v e d ks, i => (node ns i && bufOk ns i f n v e d) &&
    (if l = 0 then decide (ks.length = (kids ns i).length) && (mayAll ns ks (kids ns i) && plainOk ns i f n e d ks)
     else if l = 1 then oneOk ns i e ks && (mayAll ns ks [i] && dictOk f n v d (kid0 ks))
     else if l = 2 then oneOk ns i e ks && (mayAll ns ks [i] && runOk f n v d (kid0 ks).len)
     else false)
def mayAll (ns : List Nd) : List Arr → List Nat → Bool
  | a :: r, k :: q => mayA ns a k && mayAll ns r q
  | [], _ => true
  | _ :: _, [] => true
end

/-- The number of the first run whose end is above a row. -/
def runOf (d : Txt) (row : Nat) : Nat := (List.range (d.length / 4)).findIdx fun i => decide ((row : Int) < (num4 d i).1)
def int8 (d : Txt) (row : Nat) : Int := IntKind.i64.wrap (le ((d.drop (8 * row)).take 8) : Nat)

mutual
/-- The value of a row, counted from the first one on. -/
def textA (ns : List Nd) : Arr → Nat → Nat → Txt
  | .mk l f n v e d ks, i, row =>
    if on v row = false then nul
    else if l = 1 then headA ns ks i (num4 d row).1.toNat
    else if l = 2 then headA ns ks i (runOf d row)
    else if kindOf ns i = 0 then int (int8 d row)
    else if kindOf ns i = 1 then bool (Bt.bit d row)
    else if kindOf ns i = 2 then str ((d.drop (num4 e row).1.toNat).take ((num4 e (row + 1)).1.toNat - (num4 e row).1.toNat))
    else if kindOf ns i = 3 then list ((List.range ((num4 e (row + 1)).1.toNat - (num4 e row).1.toNat)).map fun j => headA ns ks ((kids ns i).getD 0 0) ((num4 e row).1.toNat + j))
    else struct (eachA ns ks (kids ns i) row)
/-- A row of the first kid, counted from its Offset. -/
def headA (ns : List Nd) : List Arr → Nat → Nat → Txt
  | [], _, _ => []
  | .mk l f n v e d ks :: _, i, row => textA ns (.mk l f n v e d ks) i (f.toNat + row)
def eachA (ns : List Nd) : List Arr → List Nat → Nat → List Txt
  | .mk l f n v e d ks :: r, k :: q, row => textA ns (.mk l f n v e d ks) k (f.toNat + row) :: eachA ns r q row
  | [], _, _ => []
  | _ :: _, [], _ => []
end
def rowA (ns : List Nd) (a : Arr) (i : Nat) (row : Nat) : Txt := textA ns a i (a.off.toNat + row)
def valsA (ns : List Nd) (a : Arr) (i : Nat) : List Txt := (List.range a.len.toNat).map (rowA ns a i)
end Vp
end Go.Proofs.YtlllflacnlgigaaGreatDoor

/- What is built may be, and its rows are what it was built of; plain Lean. No program. -/
namespace Go.Proofs.YtlllflacnlgigaaGreatDoor
set_option linter.unusedVariables false
set_option linter.unusedSimpArgs false
open Go

theorem wordB_nat (x : Int) (i : Nat) : ((wordB x i).toNat : Int) = x / 2 ^ (8 * i) % 256 := by
  unfold wordB
  generalize x / 2 ^ (8 * i) = y
  rw [UInt8.toNat_ofNat', Nat.mod_eq_of_lt (by omega)]
  omega
namespace Vp
open Tp

theorem le_cons (c : UInt8) (l : Txt) : le (c :: l) = c.toNat + 256 * le l := rfl
theorem le_word4 (x : Int) (h0 : 0 ≤ x) (h1 : x < 4294967296) : (le (word x 4) : Int) = x := by
  have e : word x 4 = [wordB x 0, wordB x 1, wordB x 2, wordB x 3] := rfl
  rw [e]
  simp only [le_cons, show le [] = 0 from rfl]
  have h0' := wordB_nat x 0
  have h1' := wordB_nat x 1
  have h2' := wordB_nat x 2
  have h3' := wordB_nat x 3
  omega
theorem le_word8 (x : Int) (h0 : -9223372036854775808 ≤ x) (h1 : x ≤ 9223372036854775807) : IntKind.i64.wrap (le (word x 8) : Nat) = x := by
  have e : word x 8 = [wordB x 0, wordB x 1, wordB x 2, wordB x 3, wordB x 4, wordB x 5, wordB x 6, wordB x 7] := rfl
  rw [e]
  simp only [le_cons, show le [] = 0 from rfl]
  have h0' := wordB_nat x 0
  have h1' := wordB_nat x 1
  have h2' := wordB_nat x 2
  have h3' := wordB_nat x 3
  have h4' := wordB_nat x 4
  have h5' := wordB_nat x 5
  have h6' := wordB_nat x 6
  have h7' := wordB_nat x 7
  rw [IntKind.wrap_i64]
  omega

theorem flat_drop {α β : Type} (f : α → List β) (m : Nat) : ∀ (l : List α) (j : Nat) (hj : j < l.length), (∀ a ∈ l, (f a).length = m) → ((l.flatMap f).drop (m * j)).take m = f l[j]
  | [], j, hj, _ => absurd hj (by simp)
  | a :: l, 0, hj, h => by
    rw [List.flatMap_cons, Nat.mul_zero, List.drop_zero, ← h a (by simp), List.take_left]
    rfl
  | a :: l, j + 1, hj, h => by
    have hd : (f a ++ l.flatMap f).drop m = l.flatMap f := by rw [← h a (by simp), List.drop_left]
    rw [List.flatMap_cons, Nat.mul_succ, Nat.add_comm, ← List.drop_drop, hd]
    exact flat_drop f m l j (by simpa using hj) fun b hb => h b (by simp [hb])
theorem flat_length {α β : Type} (f : α → List β) (m : Nat) : ∀ (l : List α), (∀ a ∈ l, (f a).length = m) → (l.flatMap f).length = m * l.length
  | [], _ => by simp
  | a :: l, h => by
    rw [List.flatMap_cons, List.length_append, h a (by simp), flat_length f m l fun b hb => h b (by simp [hb]), List.length_cons, Nat.mul_succ, Nat.add_comm]
theorem sumTo_zero (ms : List Nat) : sumTo ms 0 = 0 := by simp [sumTo]
theorem sumTo_succ (ms : List Nat) (j : Nat) (h : j < ms.length) : sumTo ms (j + 1) = sumTo ms j + ms.getD j 0 := by
  unfold sumTo
  rw [List.take_succ_eq_append_getElem h, List.sum_append, List.getD_eq_getElem?_getD, List.getElem?_eq_getElem h]
  simp
theorem sumTo_all (ms : List Nat) (j : Nat) (h : ms.length ≤ j) : sumTo ms j = ms.sum := by
  unfold sumTo
  rw [List.take_of_length_le h]
theorem sumTo_mono (ms : List Nat) : ∀ (k j : Nat), j ≤ k → sumTo ms j ≤ sumTo ms k
  | 0, j, h => by obtain rfl : j = 0 := by omega
                  exact Nat.le_refl _
  | k + 1, j, h => by
    rcases Nat.lt_or_ge k j with h1 | h1
    · obtain rfl : j = k + 1 := by omega
      exact Nat.le_refl _
    · refine Nat.le_trans (sumTo_mono ms k j h1) ?_
      by_cases hk : k < ms.length
      · rw [sumTo_succ ms k hk]; omega
      · rw [sumTo_all ms k (by omega), sumTo_all ms (k + 1) (by omega)]; exact Nat.le_refl _
theorem sumTo_le (ms : List Nat) (j : Nat) : sumTo ms j ≤ ms.sum := by
  rcases Nat.lt_or_ge j ms.length with h | h
  · rw [← sumTo_all ms ms.length (Nat.le_refl _)]
    exact sumTo_mono ms _ _ (by omega)
  · rw [sumTo_all ms j h]; exact Nat.le_refl _
theorem sum_bound (ms : List Nat) (b : Nat) (h : ∀ m ∈ ms, m ≤ b) : ms.sum ≤ ms.length * b := by
  induction ms with
  | nil => simp
  | cons m ms ih =>
    have h1 := h m (by simp)
    have h2 := ih fun q hq => h q (by simp [hq])
    rw [List.sum_cons, List.length_cons, Nat.succ_mul]
    omega
/-- A part of rows laid one behind the other. -/
theorem flatten_cut {β : Type} : ∀ (xs : List (List β)) (j : Nat) (hj : j < xs.length), ((xs.flatten).drop (sumTo (xs.map List.length) j)).take (xs[j]).length = xs[j]
  | [], j, hj => absurd hj (by simp)
  | x :: xs, 0, hj => by rw [sumTo_zero, List.drop_zero, List.flatten_cons]; exact List.take_left
  | x :: xs, j + 1, hj => by
    have e : sumTo ((x :: xs).map List.length) (j + 1) = x.length + sumTo (xs.map List.length) j := by simp [sumTo]
    rw [e, List.flatten_cons, ← List.drop_drop, List.drop_left]
    exact flatten_cut xs j (by simpa using hj)
theorem sum_flatten {β : Type} (xs : List (List β)) : (xs.map List.length).sum = xs.flatten.length := by
  induction xs with
  | nil => rfl
  | cons x xs ih => rw [List.map_cons, List.sum_cons, ih, List.flatten_cons, List.length_append]
theorem flatten_at {β : Type} (xs : List (List β)) (j t : Nat) (hj : j < xs.length) (ht : t < (xs[j]).length) : xs.flatten[sumTo (xs.map List.length) j + t]? = some (xs[j])[t] := by
  have h := flatten_cut xs j hj
  have h2 : (((xs.flatten).drop (sumTo (xs.map List.length) j)).take (xs[j]).length)[t]? = (xs[j])[t]? := by rw [h]
  rw [List.getElem?_take, if_pos ht, List.getElem?_drop, List.getElem?_eq_getElem ht] at h2
  exact h2

theorem ends_length (ms : List Nat) : (ends ms).length = 4 * (ms.length + 1) := by
  unfold ends endsTo
  rw [flat_length _ 4 _ (fun _ _ => word_length _ _), List.length_range]
theorem num4_ends (ms : List Nat) (j : Nat) (hj : j ≤ ms.length) (hs : ms.sum ≤ 2147483647) : num4 (ends ms) j = (((sumTo ms j : Nat) : Int), true) := by
  have hl := ends_length ms
  have hle := sumTo_le ms j
  have hc : cut4 (ends ms) j = sumTo ms j := by
    unfold cut4 ends endsTo
    rw [flat_drop _ 4 _ j (by rw [List.length_range]; omega) (fun _ _ => word_length _ _), List.getElem_range]
    have := le_word4 (sumTo ms j : Nat) (by omega) (by omega)
    omega
  unfold num4
  rw [hc, if_pos ⟨by omega, by omega⟩]
theorem ends_ok (ms : List Nat) (most : Int) (from_ apart : Nat) (hs : ms.sum ≤ 2147483647) (hm : (ms.sum : Int) ≤ most) (ha : ∀ m ∈ ms, m ≤ apart) : endsOk (ends ms) ms.length most from_ apart = true := by
  unfold endsOk
  rw [List.all_eq_true]
  intro i hi
  rw [List.mem_range] at hi
  have h1 := num4_ends ms i (by omega) hs
  have h2 := sumTo_le ms i
  unfold endOk
  rw [h1]
  simp only [Bool.and_eq_true, Bool.or_eq_true, decide_eq_true_eq, true_and]
  refine ⟨by omega, ?_⟩
  rcases Nat.eq_zero_or_pos i with h0 | h0
  · exact .inl h0
  · refine .inr ?_
    obtain ⟨q, rfl⟩ : ∃ q, i = q + 1 := ⟨i - 1, by omega⟩
    have h3 := num4_ends ms q (by omega) hs
    have h4 := sumTo_succ ms q (by omega)
    have h5 : ms.getD q 0 ≤ apart := by
      rw [List.getD_eq_getElem?_getD, List.getElem?_eq_getElem (show q < ms.length by omega)]
      exact ha _ (List.getElem_mem _)
    rw [Nat.add_sub_cancel, h3]
    simp only
    omega

theorem fit_nul {ns : List Nd} {i : Nat} (h : Fit ns i nul) : isNull ns i = true := by
  generalize hv : nul = v at h
  cases fit_inv h with
  | null h' => exact h'
  | int _ x => exact absurd hv.symm (ne_nul_int x)
  | bool _ b => exact absurd hv.symm (ne_nul_bool b)
  | str _ s => exact absurd hv.symm (ne_nul_str s)
  | list _ ps => exact absurd hv.symm (ne_nul_list ps)
  | struct _ ps => exact absurd hv.symm (ne_nul_struct ps)
theorem packed_length (xs : List Bool) : (Bt.packed xs).length = (xs.length + 7) / 8 := by
  unfold Bt.packed
  rw [Bt.bytesOf_length]
theorem there_at (vs : List Txt) (r : Nat) (h : r < vs.length) : (there vs).getD r false = decide (vs[r] ≠ nul) := by
  unfold there
  rw [List.getD_eq_getElem?_getD, List.getElem?_map, List.getElem?_eq_getElem h]
  rfl
theorem on_valid (vs : List Txt) (r : Nat) (h : r < vs.length) : on (valid vs) r = decide (vs[r] ≠ nul) := by
  unfold on valid
  by_cases hc : (there vs).contains false = true
  · rw [if_pos hc]
    have hne : Bt.packed (there vs) ≠ [] := fun e => by
      have := packed_length (there vs)
      rw [e] at this
      have h2 : (there vs).length = vs.length := by simp [there]
      rw [h2, List.length_nil] at this
      omega
    rw [show decide (Bt.packed (there vs) = []) = false from decide_eq_false hne, Bool.false_or, Bt.packed_bit, there_at vs r h]
  · rw [if_neg hc]
    rw [show decide (([] : Txt) = []) = true from rfl, Bool.true_or, eq_comm, ← there_at vs r h]
    have hl : r < (there vs).length := by simpa [there] using h
    rw [List.getD_eq_getElem?_getD, List.getElem?_eq_getElem hl, Option.getD_some]
    cases hb : (there vs)[r] with
    | true => rfl
    | false =>
      refine absurd ?_ hc
      rw [List.contains_iff_mem, ← hb]
      exact List.getElem_mem hl
theorem valid_length (vs : List Txt) : (valid vs).length ≤ (vs.length + 7) / 8 := by
  unfold valid
  split
  · rw [packed_length]; simp [there]
  · simp
theorem valid_none {ns : List Nd} {i : Nat} (vs : List Txt) (hf : ∀ v ∈ vs, Fit ns i v) : valid vs = [] ∨ (isNull ns i = true ∧ (valid vs).length = (vs.length + 7) / 8) := by
  unfold valid
  by_cases hc : (there vs).contains false = true
  · rw [if_pos hc]
    refine .inr ⟨?_, by rw [packed_length]; simp [there]⟩
    rw [List.contains_iff_mem] at hc
    unfold there at hc
    obtain ⟨v, hv, he⟩ := List.mem_map.1 hc
    have : v = nul := by simpa using he
    subst this
    exact fit_nul (hf _ hv)
  · rw [if_neg hc]
    exact .inl rfl
theorem buf_built {ns : List Nd} {i : Nat} (vs : List Txt) (e d : Txt) (hl : vs.length ≤ 64) (hf : ∀ v ∈ vs, Fit ns i v) (he : e.length ≤ 4096) (hd : d.length ≤ 4096) : bufOk ns i 0 vs.length (valid vs) e d = true := by
  have h1 := valid_length vs
  unfold bufOk
  simp only [Bool.and_eq_true, Bool.or_eq_true, decide_eq_true_eq]
  refine ⟨by omega, ?_⟩
  rcases valid_none vs hf with h | ⟨h, h2⟩
  · exact .inl h
  · exact .inr ⟨h, by rw [h2]; omega⟩

/-- What is built. -/
def Built (ns : List Nd) (i : Nat) (vs : List Txt) (a : Arr) : Prop :=
  mayA ns a i = true ∧ a.lay = 0 ∧ a.off = 0 ∧ a.len = vs.length ∧ ∀ r (h : r < vs.length), rowA ns a i r = vs[r]
theorem pts_length (o : List Txt) (vs : List Txt) : (pts o vs).length = vs.length := by simp [pts]
theorem pts_at (o : List Txt) (vs : List Txt) (r : Nat) (h : r < vs.length) : (pts o vs)[r]'(by rw [pts_length]; exact h) = partOr o vs[r] := by simp [pts]

theorem bool_text (b : Bool) : decide (bool b = [116]) = b := by cases b <;> simp [bool]
theorem row_part {o : List Txt} {vs : List Txt} {r : Nat} (h : r < (pts o vs).length) : (pts o vs)[r] = partOr o (vs[r]'(by simpa [pts] using h)) := by simp [pts]

theorem built_int {ns : List Nd} (h : may ns = true) {i : Nat} (hi : i < ns.length) (hk : kindOf ns i = 0) (vs : List Txt) (hl : vs.length ≤ 64) (hf : ∀ v ∈ vs, Fit ns i v) :
    Built ns i vs (.mk 0 0 vs.length (valid vs) [] (ints (pts [[48]] vs)) []) := by
  have hks : (kids ns (i : Int)).length = 0 := leaf_kids h hi (by omega)
  have hdl : (ints (pts [[48]] vs)).length = 8 * vs.length := by
    unfold ints
    rw [flat_length _ 8 _ (fun _ _ => word_length _ _), pts_length]
  refine ⟨?_, rfl, rfl, rfl, fun r hr => ?_⟩
  · rw [mayA, if_pos rfl, (node_of ns i).2 ⟨h, hi⟩, buf_built vs _ _ hl hf (by simp) (by omega), plainOk, if_pos hk]
    simp [mayAll, hks, hdl]
  · obtain ⟨x, h0, h1, hp, hx⟩ := row_int hk (hf _ (List.getElem_mem hr))
    show textA ns _ i (0 + r) = _
    rw [Nat.zero_add, textA, on_valid vs r hr]
    simp only [if_neg (by decide : ¬ (0 : Int) = 1), if_neg (by decide : ¬ (0 : Int) = 2)]
    simp only [if_pos hk]
    rcases hx with ⟨hn, _⟩ | hx
    · rw [hn]; simp
    · have hne : vs[r] ≠ nul := by rw [hx]; exact ne_nul_int x
      rw [if_neg (by simp [hne]), hx]
      congr 1
      unfold int8 ints
      rw [flat_drop _ 8 _ r (by rw [pts_length]; exact hr) (fun _ _ => word_length _ _), pts_at _ _ r hr, hp]
      have : intOfRow [Lib.itoa x] = x := by
        show (atoi (Lib.itoa x)).1 = x
        rw [atoi_itoa x h0 h1]
      rw [this]
      exact le_word8 x h0 h1
theorem built_bool {ns : List Nd} (h : may ns = true) {i : Nat} (hi : i < ns.length) (hk : kindOf ns i = 1) (vs : List Txt) (hl : vs.length ≤ 64) (hf : ∀ v ∈ vs, Fit ns i v) :
    Built ns i vs (.mk 0 0 vs.length (valid vs) [] (bools (pts [[102]] vs)) []) := by
  have hks : (kids ns (i : Int)).length = 0 := leaf_kids h hi (by omega)
  have hdl : (bools (pts [[102]] vs)).length = (vs.length + 7) / 8 := by
    unfold bools truths
    rw [packed_length, List.length_map, pts_length]
  refine ⟨?_, rfl, rfl, rfl, fun r hr => ?_⟩
  · rw [mayA, if_pos rfl, (node_of ns i).2 ⟨h, hi⟩, buf_built vs _ _ hl hf (by simp) (by omega), plainOk, if_neg (by omega), if_pos hk]
    simp only [mayAll, hks, hdl, Bool.true_and, List.length_nil, decide_true, Bool.and_eq_true, decide_eq_true_eq]
    omega
  · obtain ⟨b, hp, hx⟩ := row_bool hk (hf _ (List.getElem_mem hr))
    show textA ns _ i (0 + r) = _
    rw [Nat.zero_add, textA, on_valid vs r hr]
    simp only [if_neg (by decide : ¬ (0 : Int) = 1), if_neg (by decide : ¬ (0 : Int) = 2)]
    simp only [if_neg (show ¬ kindOf ns i = 0 by omega), if_pos hk]
    rcases hx with ⟨hn, _⟩ | hx
    · rw [hn]; simp
    · have hne : vs[r] ≠ nul := by rw [hx]; exact ne_nul_bool b
      rw [if_neg (by simp [hne]), hx]
      congr 1
      unfold bools truths
      rw [Bt.packed_bit, List.getD_eq_getElem?_getD, List.getElem?_map, List.getElem?_eq_getElem (by rw [pts_length]; exact hr), pts_at _ _ r hr, hp]
      exact bool_text b
theorem built_str {ns : List Nd} (h : may ns = true) {i : Nat} (hi : i < ns.length) (hk : kindOf ns i = 2) (vs : List Txt) (hl : vs.length ≤ 64) (hf : ∀ v ∈ vs, Fit ns i v) :
    Built ns i vs (.mk 0 0 vs.length (valid vs) (ends ((pts [[]] vs).map size0)) (join (pts [[]] vs).flatten) []) := by
  have hks : (kids ns (i : Int)).length = 0 := leaf_kids h hi (by omega)
  obtain ⟨xs, hxl, hx⟩ : ∃ xs : List Txt, xs.length = vs.length ∧ ∀ r (hr : r < vs.length), ∃ hr' : r < xs.length, (xs[r]).length ≤ 16 ∧ partOr [[]] vs[r] = [xs[r]] ∧ (vs[r] = nul ∨ vs[r] = str xs[r]) := by
    refine ⟨vs.map fun v => (partOr [[]] v).getD 0 [], by simp, fun r hr => ⟨by simpa using hr, ?_⟩⟩
    obtain ⟨s, hs, hp, hx⟩ := row_str hk (hf _ (List.getElem_mem hr))
    rw [List.getElem_map, hp]
    exact ⟨hs, rfl, hx.imp And.left id⟩
  have hrows : pts [[]] vs = xs.map fun s => [s] := by
    apply List.ext_getElem (by rw [pts_length, List.length_map, hxl])
    intro r h1 h2
    obtain ⟨hr', _, hp, _⟩ := hx r (by simpa [pts] using h1)
    rw [row_part, hp, List.getElem_map]
  have hms : (pts [[]] vs).map size0 = xs.map List.length := by rw [hrows, List.map_map]; rfl
  have hdat : join (pts [[]] vs).flatten = xs.flatten := by
    rw [hrows]
    show ((xs.map fun s => [s]).flatten).flatten = xs.flatten
    congr 1
    clear hx hxl hrows hms
    induction xs with
    | nil => rfl
    | cons x xs ih => rw [List.map_cons, List.flatten_cons, ih]; rfl
  have hb : ∀ m ∈ xs.map List.length, m ≤ 16 := fun m hm => by
    obtain ⟨x, hx', rfl⟩ := List.mem_map.1 hm
    obtain ⟨r, hr, rfl⟩ := List.getElem_of_mem hx'
    exact (hx r (by omega)).2.1
  have hsum := sum_bound _ 16 hb
  rw [List.length_map] at hsum
  have hdl : (xs.flatten).length = (xs.map List.length).sum := (sum_flatten xs).symm
  have hel := ends_length (xs.map List.length)
  rw [List.length_map] at hel
  rw [hms, hdat]
  refine ⟨?_, rfl, rfl, rfl, fun r hr => ?_⟩
  · rw [mayA, if_pos rfl, (node_of ns i).2 ⟨h, hi⟩, buf_built vs _ _ hl hf (by omega) (by omega), plainOk, if_neg (by omega), if_neg (by omega), if_pos hk]
    have hok := ends_ok (xs.map List.length) (xs.flatten).length 0 16 (by omega) (by omega) hb
    rw [List.length_map, hxl] at hok
    have e1 : ((0 : Int) + (vs.length : Int)).toNat = vs.length := by omega
    rw [e1, show (0 : Int).toNat = 0 from rfl, hok]
    simp [mayAll, hks]
  · obtain ⟨hr', hs, hp, hv⟩ := hx r hr
    show textA ns _ i (0 + r) = _
    rw [Nat.zero_add, textA, on_valid vs r hr]
    simp only [if_neg (by decide : ¬ (0 : Int) = 1), if_neg (by decide : ¬ (0 : Int) = 2)]
    simp only [if_neg (show ¬ kindOf ns i = 0 by omega), if_neg (show ¬ kindOf ns i = 1 by omega), if_pos hk]
    rcases hv with hn | hv
    · rw [hn]; simp
    · have hne : vs[r] ≠ nul := by rw [hv]; exact ne_nul_str _
      rw [if_neg (by simp [hne]), hv]
      congr 1
      have h1 := num4_ends (xs.map List.length) r (by rw [List.length_map]; omega) (by omega)
      have h2 := num4_ends (xs.map List.length) (r + 1) (by rw [List.length_map]; omega) (by omega)
      have h3 := sumTo_succ (xs.map List.length) r (by rw [List.length_map]; omega)
      rw [List.getD_eq_getElem?_getD, List.getElem?_map, List.getElem?_eq_getElem hr', Option.map_some, Option.getD_some] at h3
      rw [h1, h2]
      simp only [Int.toNat_natCast]
      rw [h3, Nat.add_sub_cancel_left]
      exact flatten_cut xs r hr'

theorem headA_row (ns : List Nd) (a : Arr) (r : List Arr) (i row : Nat) : headA ns (a :: r) i row = rowA ns a i row := by
  obtain ⟨l, f, n, v, e, d, ks⟩ := a
  rw [headA]; rfl
theorem eachA_rows (ns : List Nd) : ∀ (bs : List Arr) (ks : List Nat) (row : Nat), bs.length = ks.length → eachA ns bs ks row = (List.range ks.length).map fun j => rowA ns (bs.getD j Arr.none) (ks.getD j 0) row
  | [], [], row, _ => by rw [eachA]; rfl
  | [], _ :: _, row, h => by simp at h
  | _ :: _, [], row, h => by simp at h
  | .mk l f n v e d cs :: bs, k :: ks, row, h => by
    rw [eachA, List.length_cons, List.range_succ_eq_map, List.map_cons, List.map_map, eachA_rows ns bs ks row (by simpa using h)]
    rfl
theorem mayAll_iff (ns : List Nd) : ∀ (bs : List Arr) (ks : List Nat), bs.length = ks.length → (mayAll ns bs ks = true ↔ ∀ j, j < ks.length → mayA ns (bs.getD j Arr.none) (ks.getD j 0) = true)
  | [], [], _ => by rw [mayAll]; simp
  | [], _ :: _, h => by simp at h
  | _ :: _, [], h => by simp at h
  | b :: bs, k :: ks, h => by
    rw [mayAll, Bool.and_eq_true, mayAll_iff ns bs ks (by simpa using h)]
    constructor
    · rintro ⟨h1, h2⟩ j hj
      cases j with
      | zero => exact h1
      | succ j => exact h2 j (by simpa using hj)
    · intro h1
      exact ⟨h1 0 (by simp), fun j hj => h1 (j + 1) (by simpa using hj)⟩
theorem seqO_get {α : Type} : ∀ (l : List (Option α)) (ys : List α), seqO l = some ys → ∀ j : Nat, l[j]? = (ys[j]?).map some
  | [], ys, h, j => by simp [seqO] at h; subst h; simp
  | none :: _, ys, h, j => by simp [seqO] at h
  | some a :: r, ys, h, j => by
    rw [seqO, Option.map_eq_some_iff] at h
    obtain ⟨zs, hz, rfl⟩ := h
    cases j with
    | zero => simp
    | succ j => simpa using seqO_get r zs hz j

theorem built_list {ns : List Nd} (h : may ns = true) {i : Nat} (hi : i < ns.length) (hk : kindOf ns i = 3) (vs : List Txt) (hl : vs.length ≤ 64) (hf : ∀ v ∈ vs, Fit ns i v) (b : Arr)
    (hb : Built ns ((kids ns i).getD 0 0) (pts [] vs).flatten b) (hbl : (pts [] vs).flatten.length ≤ 64) :
    Built ns i vs (.mk 0 0 vs.length (valid vs) (ends ((pts [] vs).map List.length)) [] [b]) := by
  obtain ⟨b1, b2, b3, b4, b5⟩ := hb
  have hsum : ((pts [] vs).map List.length).sum = (pts [] vs).flatten.length := sum_flatten _
  have hml : ((pts [] vs).map List.length).length = vs.length := by rw [List.length_map, pts_length]
  have hel := ends_length ((pts [] vs).map List.length)
  have hpart : ∀ r (hr : r < vs.length), ((pts [] vs)[r]'(by rw [pts_length]; exact hr)) = partOr [] vs[r] := fun r hr => pts_at _ _ _ hr
  refine ⟨?_, rfl, rfl, rfl, fun r hr => ?_⟩
  · rw [mayA, if_pos rfl, (node_of ns i).2 ⟨h, hi⟩, buf_built vs _ _ hl hf (by omega) (by simp), plainOk]
    simp only [if_neg (show ¬ kindOf ns i = 0 by omega), if_neg (show ¬ kindOf ns i = 1 by omega), if_neg (show ¬ kindOf ns i = 2 by omega), if_pos hk]
    have hok := ends_ok ((pts [] vs).map List.length) (kid0 [b]).len 0 64 (by omega) (by rw [show kid0 [b] = b from rfl, b4, hsum]; exact Int.le_refl _) (fun m hm => by
      obtain ⟨x, hx', rfl⟩ := List.mem_map.1 hm
      obtain ⟨r, hr, rfl⟩ := List.getElem_of_mem hx'
      rw [row_part hr]
      exact (row_list hk (hf _ (List.getElem_mem _))).1)
    rw [hml] at hok
    have e1 : ((0 : Int) + (vs.length : Int)).toNat = vs.length := by omega
    rw [e1, hok, kids_one' h hi hk, mayAll, b1]
    rfl
  · show textA ns _ i (0 + r) = _
    rw [Nat.zero_add, textA, on_valid vs r hr]
    simp only [if_neg (by decide : ¬ (0 : Int) = 1), if_neg (by decide : ¬ (0 : Int) = 2), if_neg (show ¬ kindOf ns i = 0 by omega), if_neg (show ¬ kindOf ns i = 1 by omega), if_neg (show ¬ kindOf ns i = 2 by omega), if_pos hk]
    obtain ⟨h1, h2, hv⟩ := row_list hk (hf _ (List.getElem_mem hr))
    by_cases hn : vs[r] = nul
    · rw [hn]; simp
    · rcases hv with hv | hv
      · exact absurd hv.1 hn
      · rw [if_neg (by simp [hn])]
        rw [hv]
        have hr' : r < (pts [] vs).length := by rw [pts_length]; exact hr
        have q1 := num4_ends ((pts [] vs).map List.length) r (by omega) (by omega)
        have q2 := num4_ends ((pts [] vs).map List.length) (r + 1) (by omega) (by omega)
        have q3 := sumTo_succ ((pts [] vs).map List.length) r (by omega)
        rw [List.getD_eq_getElem?_getD, List.getElem?_map, List.getElem?_eq_getElem hr', Option.map_some, Option.getD_some, hpart r hr] at q3
        have q4 := sumTo_le ((pts [] vs).map List.length) (r + 1)
        rw [q1, q2]
        simp only [Int.toNat_natCast]
        rw [q3, Nat.add_sub_cancel_left]
        have e : ((List.range (partOr [] vs[r]).length).map fun j => headA ns [b] ((kids ns i).getD 0 0) (sumTo ((pts [] vs).map List.length) r + j)) = partOr [] vs[r] := by
          apply List.ext_getElem (by simp)
          intro t t1 t2
          rw [List.getElem_map, List.getElem_range, headA_row]
          have hat := flatten_at (pts [] vs) r t hr' (by rw [hpart r hr]; exact t2)
          have hlt := (List.getElem?_eq_some_iff.1 hat).1
          rw [b5 _ hlt]
          have := (List.getElem?_eq_some_iff.1 hat).2
          rw [this]
          simp only [hpart r hr]
        rw [e, ← hv]
theorem col_at (rows : List (List Txt)) (j r : Nat) (h : r < rows.length) : (col rows j)[r]'(by simpa [col] using h) = (rows[r]).getD j [] := by simp [col]
theorem built_struct {ns : List Nd} (h : may ns = true) {i : Nat} (hi : i < ns.length) (hk : kindOf ns i = 4) (vs : List Txt) (hl : vs.length ≤ 64) (hf : ∀ v ∈ vs, Fit ns i v) (bs : List Arr) (hbl : bs.length = (kids ns i).length)
    (hb : ∀ j, j < (kids ns i).length → Built ns ((kids ns i).getD j 0) (col (pts ((kids ns i).map (zero ns)) vs) j) (bs.getD j Arr.none)) :
    Built ns i vs (.mk 0 0 vs.length (valid vs) [] [] bs) := by
  have hcl : ∀ j, (col (pts ((kids ns i).map (zero ns)) vs) j).length = vs.length := fun j => by simp [col, pts]
  refine ⟨?_, rfl, rfl, rfl, fun r hr => ?_⟩
  · rw [mayA, if_pos rfl, (node_of ns i).2 ⟨h, hi⟩, buf_built vs _ _ hl hf (by simp) (by simp), plainOk]
    simp only [if_neg (show ¬ kindOf ns i = 0 by omega), if_neg (show ¬ kindOf ns i = 1 by omega), if_neg (show ¬ kindOf ns i = 2 by omega), if_neg (show ¬ kindOf ns i = 3 by omega)]
    have h1 : mayAll ns bs (kids ns i) = true := (mayAll_iff ns bs _ hbl).2 fun j hj => (hb j hj).1
    have h2 : (bs.all fun k => decide ((0 : Int) + (vs.length : Int) ≤ k.len)) = true := by
      rw [List.all_eq_true]
      intro k hk'
      obtain ⟨j, hj, rfl⟩ := List.getElem_of_mem hk'
      have := (hb j (by omega)).2.2.2.1
      rw [hcl, List.getD_eq_getElem?_getD, List.getElem?_eq_getElem hj, Option.getD_some] at this
      rw [this, decide_eq_true_eq]
      omega
    rw [h1, h2]
    simp [hbl]
  · show textA ns _ i (0 + r) = _
    rw [Nat.zero_add, textA, on_valid vs r hr]
    simp only [if_neg (by decide : ¬ (0 : Int) = 1), if_neg (by decide : ¬ (0 : Int) = 2), if_neg (show ¬ kindOf ns i = 0 by omega), if_neg (show ¬ kindOf ns i = 1 by omega), if_neg (show ¬ kindOf ns i = 2 by omega), if_neg (show ¬ kindOf ns i = 3 by omega)]
    obtain ⟨h1, h2, hv⟩ := row_struct h hi hk (hf _ (List.getElem_mem hr))
    by_cases hn : vs[r] = nul
    · rw [hn]; simp
    · rcases hv with hv | hv
      · exact absurd hv.1 hn
      · rw [if_neg (by simp [hn])]
        rw [hv, eachA_rows ns bs _ r hbl]
        have e : ((List.range (kids ns (i : Int)).length).map fun j => rowA ns (bs.getD j Arr.none) ((kids ns (i : Int)).getD j 0) r) = partOr ((kids ns (i : Int)).map (zero ns)) vs[r] := by
          apply List.ext_getElem (by rw [List.length_map, List.length_range, h1])
          intro t t1 t2
          rw [List.getElem_map, List.getElem_range]
          have ht : t < (kids ns (i : Int)).length := by rw [h1] at t2; exact t2
          rw [(hb t ht).2.2.2.2 r (by rw [hcl]; exact hr), col_at _ _ _ (by rw [pts_length]; exact hr), pts_at _ _ r hr, List.getD_eq_getElem?_getD, List.getElem?_eq_getElem t2]
          rfl
        rw [e, ← hv]
/-- What is built may be; its rows are what it was built of. -/
theorem build_back {ns : List Nd} (h : may ns = true) : ∀ (n i : Nat) (vs : List Txt) (a : Arr), i < ns.length → ns.length - i ≤ n → (∀ v ∈ vs, Fit ns i v) → build ns i vs = some a → Built ns i vs a := by
  intro n
  induction n with
  | zero => intro i vs a hi h1; omega
  | succ n ih =>
    intro i vs a hi h1 hf hb
    rw [build_eq ns h i hi] at hb
    have hkind := may_kind ns h i hi
    by_cases h64 : 64 < vs.length
    · rw [if_pos h64] at hb; cases hb
    rw [if_neg h64] at hb
    by_cases hk0 : kindOf ns i = 0
    · rw [if_pos hk0] at hb
      obtain rfl := Option.some.inj hb
      exact built_int h hi hk0 vs (by omega) hf
    rw [if_neg hk0] at hb
    by_cases hk1 : kindOf ns i = 1
    · rw [if_pos hk1] at hb
      obtain rfl := Option.some.inj hb
      exact built_bool h hi hk1 vs (by omega) hf
    rw [if_neg hk1] at hb
    by_cases hk2 : kindOf ns i = 2
    · rw [if_pos hk2] at hb
      obtain rfl := Option.some.inj hb
      exact built_str h hi hk2 vs (by omega) hf
    rw [if_neg hk2] at hb
    by_cases hk3 : kindOf ns i = 3
    · rw [if_pos hk3, Option.map_eq_some_iff] at hb
      obtain ⟨b, hb, rfl⟩ := hb
      obtain ⟨h2, h3⟩ := kid_one_lt h hi hk3
      have hle : (pts [] vs).flatten.length ≤ 64 := by
        rw [build_eq ns h _ h3] at hb
        split at hb
        · cases hb
        · omega
      refine built_list h hi hk3 vs (by omega) hf b (ih _ _ b h3 (by omega) (fun p hp => ?_) hb) hle
      obtain ⟨row, hrow, hp'⟩ := List.mem_flatten.1 hp
      obtain ⟨v, hv, rfl⟩ := List.mem_map.1 hrow
      exact (row_list hk3 (hf v hv)).2.1 p hp'
    rw [if_neg hk3, Option.map_eq_some_iff] at hb
    obtain ⟨bs, hb, rfl⟩ := hb
    have hk4 : kindOf ns i = 4 := by omega
    have hbl := seqO_length _ _ hb
    rw [List.length_map, List.length_range] at hbl
    refine built_struct h hi hk4 vs (by omega) hf bs hbl fun j hj => ?_
    obtain ⟨h2, h3⟩ := kid_lt h hj
    have hg := seqO_get _ _ hb j
    rw [List.getElem?_map, List.getElem?_range hj, Option.map_some, List.getElem?_eq_getElem (by omega), Option.map_some, Option.some.injEq] at hg
    rw [List.getD_eq_getElem?_getD (l := bs), List.getElem?_eq_getElem (show j < bs.length by omega), Option.getD_some]
    refine ih _ _ _ h3 (by omega) (fun p hp => ?_) hg
    unfold col at hp
    obtain ⟨row, hrow, rfl⟩ := List.mem_map.1 hp
    obtain ⟨v, hv, rfl⟩ := List.mem_map.1 hrow
    exact (row_struct h hi hk4 (hf v hv)).2.1 j hj
theorem build_vals {ns : List Nd} (h : may ns = true) {i : Nat} (hi : i < ns.length) {vs : List Txt} {a : Arr} (hf : ∀ v ∈ vs, Fit ns i v) (hb : build ns i vs = some a) : mayA ns a i = true ∧ valsA ns a i = vs ∧ a.len = vs.length ∧ a.off = 0 ∧ a.lay = 0 := by
  obtain ⟨h1, h2, h3, h4, h5⟩ := build_back h _ i vs a hi (Nat.le_refl _) hf hb
  refine ⟨h1, ?_, h4, h3, h2⟩
  unfold valsA
  rw [h4, Int.toNat_natCast]
  apply List.ext_getElem (by simp)
  intro r r1 r2
  rw [List.getElem_map, List.getElem_range, h5 r r2]

/-- What Build answers. -/
def fitAll (ns : List Nd) (x : Int) (vs : List Txt) : Bool := vs.all fun v => fits ns (v.length + 1) x v
def buildR (ns : List Nd) (x : Int) (vs : List Txt) : Arr × Int :=
  if node ns x && fitAll ns x vs then (match build ns x.toNat vs with | none => (Arr.none, 1001) | some a => (a, 0)) else (Arr.none, 1000)
theorem fitAll_iff (ns : List Nd) (i : Nat) (vs : List Txt) : fitAll ns (i : Int) vs = true ↔ ∀ v ∈ vs, Fit ns i v := by
  unfold fitAll Fit
  rw [List.all_eq_true]
end Vp
end Go.Proofs.YtlllflacnlgigaaGreatDoor

/- What the digits up to a place spell; plain Lean. No program. -/
namespace Go.Proofs.YtlllflacnlgigaaGreatDoor
set_option linter.unusedVariables false

theorem itoa_split (x : Int) : ∃ i0 : Nat, (x < 0 ∧ i0 = 1 ∨ 0 ≤ x ∧ i0 = 0) ∧ i0 ≤ (Lib.itoa x).length ∧ (Lib.itoa x).drop i0 = Lib.decDigits x.natAbs := by
  unfold Lib.itoa
  by_cases h : x < 0
  · rw [if_pos h]
    exact ⟨1, .inl ⟨h, rfl⟩, by simp, rfl⟩
  · rw [if_neg h]
    exact ⟨0, .inr ⟨by omega, rfl⟩, by simp, by rw [List.drop_zero, show x.toNat = x.natAbs by omega]⟩
/-- What the digits up to a place spell. -/
def lowAt (l : Vp.Txt) (i0 k : Nat) : Nat := Vp.dval 0 ((l.drop i0).take (k - i0))
theorem lowAt_start (l : Vp.Txt) (i0 : Nat) : lowAt l i0 i0 = 0 := by simp [lowAt, Vp.dval_nil]
theorem lowAt_step (l : Vp.Txt) (i0 k : Nat) (h0 : i0 ≤ k) (hk : k < l.length) : lowAt l i0 (k + 1) = lowAt l i0 k * 10 + (l[k].toNat - 48) := by
  unfold lowAt
  rw [show k + 1 - i0 = (k - i0) + 1 by omega, List.take_succ_eq_append_getElem (by rw [List.length_drop]; omega), Vp.dval_append, Vp.dval_cons, Vp.dval_nil]
  have : (l.drop i0)[k - i0]'(by rw [List.length_drop]; omega) = l[k] := by
    rw [List.getElem_drop]
    congr 1
    omega
  rw [this]
theorem lowAt_end (x : Int) (i0 : Nat) (h : (Lib.itoa x).drop i0 = Lib.decDigits x.natAbs) : lowAt (Lib.itoa x) i0 (Lib.itoa x).length = x.natAbs := by
  unfold lowAt
  rw [List.take_of_length_le (by rw [List.length_drop]; exact Nat.le_refl _), h, Vp.dval_dec]
theorem dval_take_le (l : Vp.Txt) (j : Nat) : Vp.dval 0 (l.take j) ≤ Vp.dval 0 l := by
  have h := Vp.dval_append 0 (l.take j) (l.drop j)
  rw [List.take_append_drop] at h
  rw [h]
  exact Vp.dval_ge _ _
theorem lowAt_le (x : Int) (i0 k : Nat) (h : (Lib.itoa x).drop i0 = Lib.decDigits x.natAbs) : lowAt (Lib.itoa x) i0 k ≤ x.natAbs := by
  unfold lowAt
  rw [h]
  have := dval_take_le (Lib.decDigits x.natAbs) (k - i0)
  rw [Vp.dval_dec] at this
  exact this
theorem itoa_digit (x : Int) (i0 k : Nat) (h : (Lib.itoa x).drop i0 = Lib.decDigits x.natAbs) (h0 : i0 ≤ k) (hk : k < (Lib.itoa x).length) : 48 ≤ (Lib.itoa x)[k].toNat ∧ (Lib.itoa x)[k].toNat ≤ 57 := by
  refine Vp.dec_all x.natAbs _ ?_
  rw [← h]
  have : (Lib.itoa x)[k] = ((Lib.itoa x).drop i0)[k - i0]'(by rw [List.length_drop]; omega) := by
    rw [List.getElem_drop]
    congr 1
    omega
  rw [this]
  exact List.getElem_mem _
theorem itoa_head (x : Int) (hl : 0 < (Lib.itoa x).length) : (((Lib.itoa x)[0].toNat : Int) == 45) = decide (x < 0) := by
  unfold Lib.itoa at hl ⊢
  by_cases h : x < 0
  · simp [h]
  · simp only [if_neg h] at hl ⊢
    have := Vp.dec_all x.toNat _ (List.getElem_mem hl)
    rw [decide_eq_false h, beq_eq_false_iff_ne]
    omega
end Go.Proofs.YtlllflacnlgigaaGreatDoor

/- What the reference's build gathers, row by row; plain Lean. No program. -/
namespace Go.Proofs.YtlllflacnlgigaaGreatDoor.Vp
set_option linter.unusedVariables false
set_option linter.unusedSimpArgs false
open Tp Go

theorem pts_take (o : List Txt) (vs : List Txt) (k : Nat) (h : k < vs.length) : pts o (vs.take (k + 1)) = pts o (vs.take k) ++ [partOr o vs[k]] := by
  unfold pts
  rw [List.take_succ_eq_append_getElem h, List.map_append]; rfl
theorem pts_takes (o : List Txt) (vs : List Txt) (k : Nat) : (pts o vs).take k = pts o (vs.take k) := by
  unfold pts
  rw [List.map_take]
theorem ints_take (vs : List Txt) (k : Nat) (h : k < vs.length) : ints (pts [[48]] (vs.take (k + 1))) = ints (pts [[48]] (vs.take k)) ++ word (intOfRow (partOr [[48]] vs[k])) 8 := by
  rw [pts_take _ _ _ h]
  unfold ints
  rw [List.flatMap_append]
  simp
theorem truths_eq (ns : List Nd) (i : Nat) (hk : kindOf ns i = 1) (vs : List Txt) (hf : ∀ v ∈ vs, Fit ns i v) : truths (pts [[102]] vs) = vs.map fun v => decide (v = [116]) := by
  unfold truths pts
  rw [List.map_map]
  refine List.map_congr_left fun v hv => ?_
  obtain ⟨b, h1, h2⟩ := row_bool hk (hf v hv)
  show decide ((partOr [[102]] v).getD 0 [] = [116]) = _
  rw [h1]
  rcases h2 with ⟨rfl, rfl⟩ | rfl
  · decide
  · cases b <;> decide
/-- Where the first rows begin. -/
def starts (ms : List Nat) (k : Nat) : Txt := (List.range k).flatMap fun j => word (sumTo ms j : Nat) 4
theorem starts_succ (ms : List Nat) (k : Nat) : starts ms (k + 1) = starts ms k ++ word (sumTo ms k : Nat) 4 := by
  unfold starts
  rw [List.range_succ, List.flatMap_append]
  simp
theorem starts_ends (ms : List Nat) : starts ms (ms.length + 1) = ends ms := rfl
theorem starts_length (ms : List Nat) (k : Nat) : (starts ms k).length = 4 * k := by
  induction k with
  | zero => rfl
  | succ k ih => rw [starts_succ, List.length_append, ih, word_length]; omega
theorem sum_list (vs : List Txt) (k : Nat) : sumTo ((pts [] vs).map List.length) k = (pts [] (vs.take k)).flatten.length := by
  unfold sumTo
  rw [← List.map_take, pts_takes, List.length_flatten]
theorem join_append (xs ys : List Txt) : join (xs ++ ys) = join xs ++ join ys := by unfold join; exact List.flatten_append
theorem strs_take (ns : List Nd) (i : Nat) (hk : kindOf ns i = 2) (vs : List Txt) (hf : ∀ v ∈ vs, Fit ns i v) (k : Nat) : sumTo ((pts [[]] vs).map size0) k = (join (pts [[]] (vs.take k)).flatten).length := by
  unfold sumTo
  rw [← List.map_take, pts_takes]
  have hf' : ∀ v ∈ vs.take k, Fit ns i v := fun v hv => hf v (List.mem_of_mem_take hv)
  generalize vs.take k = us at hf'
  induction us with
  | nil => rfl
  | cons u us ih =>
    obtain ⟨s, _, h1, _⟩ := row_str hk (hf' u (List.mem_cons_self ..))
    have := ih fun v hv => hf' v (List.mem_cons_of_mem _ hv)
    unfold pts at this ⊢
    rw [List.map_cons, h1, List.map_cons, List.sum_cons, this, List.flatten_cons, join_append, List.length_append]
    simp [size0, join]
theorem strs_bound (ns : List Nd) (i : Nat) (hk : kindOf ns i = 2) (vs : List Txt) (hf : ∀ v ∈ vs, Fit ns i v) (k : Nat) : (join (pts [[]] (vs.take k)).flatten).length ≤ 16 * k := by
  have hf' : ∀ v ∈ vs.take k, Fit ns i v := fun v hv => hf v (List.mem_of_mem_take hv)
  have hl : (vs.take k).length ≤ k := by rw [List.length_take]; omega
  suffices h : (join (pts [[]] (vs.take k)).flatten).length ≤ 16 * (vs.take k).length by omega
  generalize vs.take k = us at hf'
  induction us with
  | nil => simp [pts, join]
  | cons u us ih =>
    obtain ⟨s, hs, h1, _⟩ := row_str hk (hf' u (List.mem_cons_self ..))
    have := ih fun v hv => hf' v (List.mem_cons_of_mem _ hv)
    unfold pts at this ⊢
    rw [List.map_cons, h1, List.flatten_cons, join_append, List.length_append]
    simp only [join, List.flatten_cons, List.flatten_nil, List.append_nil, List.length_cons]
    simp only [join] at this
    omega
theorem list_bound (ns : List Nd) (i : Nat) (hk : kindOf ns i = 3) (vs : List Txt) (hf : ∀ v ∈ vs, Fit ns i v) (k : Nat) : (pts [] (vs.take k)).flatten.length ≤ 64 * k := by
  have hf' : ∀ v ∈ vs.take k, Fit ns i v := fun v hv => hf v (List.mem_of_mem_take hv)
  have hl : (vs.take k).length ≤ k := by rw [List.length_take]; omega
  suffices h : (pts [] (vs.take k)).flatten.length ≤ 64 * (vs.take k).length by omega
  generalize vs.take k = us at hf'
  induction us with
  | nil => simp [pts]
  | cons u us ih =>
    obtain ⟨h1, _⟩ := row_list hk (hf' u (List.mem_cons_self ..))
    have := ih fun v hv => hf' v (List.mem_cons_of_mem _ hv)
    unfold pts at this ⊢
    rw [List.map_cons, List.flatten_cons, List.length_append, List.length_cons]
    omega
/-- A value's kind and parts, by its node's kind: nothing, or of the node's own. -/
theorem fit_parts {ns : List Nd} {i : Nat} {v : Txt} (h : Fit ns i v) : (parts v).2.2 = 0 ∧ (v = nul ∧ parts v = (-1, [], 0) ∨ v ≠ nul ∧ (parts v).1 = kindOf ns i ∧ 0 ≤ kindOf ns i ∧ kindOf ns i ≤ 4) := by
  cases fit_inv h with
  | null _ => exact ⟨by rw [parts_nul], .inl ⟨rfl, parts_nul⟩⟩
  | int h' x h0 h1 => rw [parts_int x h0 h1, h']; exact ⟨rfl, .inr ⟨ne_nul_int x, rfl, by decide, by decide⟩⟩
  | bool h' b => rw [parts_bool, h']; exact ⟨rfl, .inr ⟨ne_nul_bool b, rfl, by decide, by decide⟩⟩
  | str h' s hs => rw [parts_str s hs, h']; exact ⟨rfl, .inr ⟨ne_nul_str s, rfl, by decide, by decide⟩⟩
  | list h' ps hl hp hv his => rw [parts_list ps hv his, h']; exact ⟨rfl, .inr ⟨ne_nul_list ps, rfl, by decide, by decide⟩⟩
  | struct h' ps hl hp hv his => rw [parts_struct ps hv his, h']; exact ⟨rfl, .inr ⟨ne_nul_struct ps, rfl, by decide, by decide⟩⟩
theorem partOr_there (o : List Txt) {v : Txt} (h : v ≠ nul) : partOr o v = (parts v).2.1 := if_neg h
theorem flat_take (vs : List Txt) (k : Nat) (h : k < vs.length) (o : List Txt) : (pts o (vs.take (k + 1))).flatten = (pts o (vs.take k)).flatten ++ partOr o vs[k] := by
  rw [pts_take _ _ _ h, List.flatten_append]
  simp
theorem valid_eq (vs : List Txt) : valid vs = if (vs.all fun v => decide (v ≠ nul)) = true then [] else Bt.packed (there vs) := by
  unfold valid there
  by_cases h : (vs.all fun v => decide (v ≠ nul)) = true
  · rw [if_pos h, if_neg]
    rw [List.contains_iff_mem]
    intro hm
    obtain ⟨v, hv, he⟩ := List.mem_map.1 hm
    rw [List.all_eq_true] at h
    rw [h v hv] at he
    cases he
  · rw [if_neg h, if_pos]
    rw [List.contains_iff_mem]
    rw [Bool.not_eq_true, List.all_eq_false] at h
    obtain ⟨v, hv, he⟩ := h
    exact List.mem_map.2 ⟨v, hv, by simpa using he⟩
end Go.Proofs.YtlllflacnlgigaaGreatDoor.Vp
