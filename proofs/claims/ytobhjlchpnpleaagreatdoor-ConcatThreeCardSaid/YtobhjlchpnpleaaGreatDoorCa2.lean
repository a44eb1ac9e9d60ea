/- Several texts in one: BackPure, DigPure, RoomPure, KerPure, RefBldP, Sized. -/
import Derived.Test.YtobhjlchpnpleaaGreatDoorCa1
/- What is built may be, and its rows are what it was built of; plain Lean. No program. -/
namespace Go.Proofs.YtobhjlchpnpleaaGreatDoor
set_option linter.unusedVariables false
set_option linter.unusedSimpArgs false
open Go

theorem wordB_nat (x : Int) (i : Nat) : ((wordB x i).toNat : Int) = x / 2 ^ (8 * i) % 256 := by
 unfold wordB
 generalize x / 2 ^ (8 * i) = y
 rw [UInt8.toNat_ofNat', Nat.mod_eq_of_lt (by omega)]
 omega
namespace Vp
open Tp

theorem le_cons (c : UInt8) (l : Txt) : le (c :: l) = c.toNat + 256 * le l := rfl
theorem le_word4 (x : Int) (h0 : 0 ≤ x) (h1 : x < 4294967296) : (le (word x 4) : Int) = x := by
 have e : word x 4 = [wordB x 0, wordB x 1, wordB x 2, wordB x 3] := rfl
 rw [e]
 simp only [le_cons, show le [] = 0 from rfl]
 have h0' := wordB_nat x 0
 have h1' := wordB_nat x 1
 have h2' := wordB_nat x 2
 have h3' := wordB_nat x 3
 omega
theorem le_word8 (x : Int) (h0 : -9223372036854775808 ≤ x) (h1 : x ≤ 9223372036854775807) : IntKind.i64.wrap (le (word x 8) : Nat) = x := by
 have e : word x 8 = [wordB x 0, wordB x 1, wordB x 2, wordB x 3, wordB x 4, wordB x 5, wordB x 6, wordB x 7] := rfl
 rw [e]
 simp only [le_cons, show le [] = 0 from rfl]
 have h0' := wordB_nat x 0
 have h1' := wordB_nat x 1
 have h2' := wordB_nat x 2
 have h3' := wordB_nat x 3
 have h4' := wordB_nat x 4
 have h5' := wordB_nat x 5
 have h6' := wordB_nat x 6
 have h7' := wordB_nat x 7
 rw [IntKind.wrap_i64]
 omega

theorem flat_drop {α β : Type} (f : α → List β) (m : Nat) : ∀ (l : List α) (j : Nat) (hj : j < l.length), (∀ a ∈ l, (f a).length = m) → ((l.flatMap f).drop (m * j)).take m = f l[j]
 | [], j, hj, _ => absurd hj (by simp)
 | a :: l, 0, hj, h => by
  rw [List.flatMap_cons, Nat.mul_zero, List.drop_zero, ← h a (by simp), List.take_left]
  rfl
 | a :: l, j + 1, hj, h => by
  have hd : (f a ++ l.flatMap f).drop m = l.flatMap f := by rw [← h a (by simp), List.drop_left]
  rw [List.flatMap_cons, Nat.mul_succ, Nat.add_comm, ← List.drop_drop, hd]
  exact flat_drop f m l j (by simpa using hj) fun b hb => h b (by simp [hb])
theorem flat_length {α β : Type} (f : α → List β) (m : Nat) : ∀ (l : List α), (∀ a ∈ l, (f a).length = m) → (l.flatMap f).length = m * l.length
 | [], _ => by simp
 | a :: l, h => by
  rw [List.flatMap_cons, List.length_append, h a (by simp), flat_length f m l fun b hb => h b (by simp [hb]), List.length_cons, Nat.mul_succ, Nat.add_comm]
theorem sumTo_zero (ms : List Nat) : sumTo ms 0 = 0 := by simp [sumTo]
theorem sumTo_succ (ms : List Nat) (j : Nat) (h : j < ms.length) : sumTo ms (j + 1) = sumTo ms j + ms.getD j 0 := by
 unfold sumTo
 rw [List.take_succ_eq_append_getElem h, List.sum_append, List.getD_eq_getElem?_getD, List.getElem?_eq_getElem h]
 simp
theorem sumTo_all (ms : List Nat) (j : Nat) (h : ms.length ≤ j) : sumTo ms j = ms.sum := by
 unfold sumTo
 rw [List.take_of_length_le h]
theorem sumTo_mono (ms : List Nat) : ∀ (k j : Nat), j ≤ k → sumTo ms j ≤ sumTo ms k
 | 0, j, h => by obtain rfl : j = 0 := by omega
                 exact Nat.le_refl _
 | k + 1, j, h => by
  rcases Nat.lt_or_ge k j with h1 | h1
  ·obtain rfl : j = k + 1 := by omega
   exact Nat.le_refl _
  ·refine Nat.le_trans (sumTo_mono ms k j h1) ?_
   by_cases hk : k < ms.length
   ·rw [sumTo_succ ms k hk]; omega
   ·rw [sumTo_all ms k (by omega), sumTo_all ms (k + 1) (by omega)]; exact Nat.le_refl _
theorem sumTo_le (ms : List Nat) (j : Nat) : sumTo ms j ≤ ms.sum := by
 rcases Nat.lt_or_ge j ms.length with h | h
 ·rw [← sumTo_all ms ms.length (Nat.le_refl _)]
  exact sumTo_mono ms _ _ (by omega)
 ·rw [sumTo_all ms j h]; exact Nat.le_refl _
theorem sum_bound (ms : List Nat) (b : Nat) (h : ∀ m ∈ ms, m ≤ b) : ms.sum ≤ ms.length * b := by
 induction ms with
 | nil => simp
 | cons m ms ih =>
  have h1 := h m (by simp)
  have h2 := ih fun q hq => h q (by simp [hq])
  rw [List.sum_cons, List.length_cons, Nat.succ_mul]
  omega
/-- A part of rows laid one behind the other. -/
theorem flatten_cut {β : Type} : ∀ (xs : List (List β)) (j : Nat) (hj : j < xs.length), ((xs.flatten).drop (sumTo (xs.map List.length) j)).take (xs[j]).length = xs[j]
 | [], j, hj => absurd hj (by simp)
 | x :: xs, 0, hj => by rw [sumTo_zero, List.drop_zero, List.flatten_cons]; exact List.take_left
 | x :: xs, j + 1, hj => by
  have e : sumTo ((x :: xs).map List.length) (j + 1) = x.length + sumTo (xs.map List.length) j := by simp [sumTo]
  rw [e, List.flatten_cons, ← List.drop_drop, List.drop_left]
  exact flatten_cut xs j (by simpa using hj)
theorem sum_flatten {β : Type} (xs : List (List β)) : (xs.map List.length).sum = xs.flatten.length := by
 induction xs with
 | nil => rfl
 | cons x xs ih => rw [List.map_cons, List.sum_cons, ih, List.flatten_cons, List.length_append]
theorem flatten_at {β : Type} (xs : List (List β)) (j t : Nat) (hj : j < xs.length) (ht : t < (xs[j]).length) : xs.flatten[sumTo (xs.map List.length) j + t]? = some (xs[j])[t] := by
 have h := flatten_cut xs j hj
 have h2 : (((xs.flatten).drop (sumTo (xs.map List.length) j)).take (xs[j]).length)[t]? = (xs[j])[t]? := by rw [h]
 rw [List.getElem?_take, if_pos ht, List.getElem?_drop, List.getElem?_eq_getElem ht] at h2
 exact h2

theorem ends_length (ms : List Nat) : (ends ms).length = 4 * (ms.length + 1) := by
 unfold ends endsTo
 rw [flat_length _ 4 _ (fun _ _ => word_length _ _), List.length_range]
theorem num4_ends (ms : List Nat) (j : Nat) (hj : j ≤ ms.length) (hs : ms.sum ≤ 2147483647) : num4 (ends ms) j = (((sumTo ms j : Nat) : Int), true) := by
 have hl := ends_length ms
 have hle := sumTo_le ms j
 have hc : cut4 (ends ms) j = sumTo ms j := by
  unfold cut4 ends endsTo
  rw [flat_drop _ 4 _ j (by rw [List.length_range]; omega) (fun _ _ => word_length _ _), List.getElem_range]
  have := le_word4 (sumTo ms j : Nat) (by omega) (by omega)
  omega
 unfold num4
 rw [hc, if_pos ⟨by omega, by omega⟩]
theorem ends_ok (ms : List Nat) (most : Int) (from_ apart : Nat) (hs : ms.sum ≤ 2147483647) (hm : (ms.sum : Int) ≤ most) (ha : ∀ m ∈ ms, m ≤ apart) : endsOk (ends ms) ms.length most from_ apart = true := by
 unfold endsOk
 rw [List.all_eq_true]
 intro i hi
 rw [List.mem_range] at hi
 have h1 := num4_ends ms i (by omega) hs
 have h2 := sumTo_le ms i
 unfold endOk
 rw [h1]
 simp only [Bool.and_eq_true, Bool.or_eq_true, decide_eq_true_eq, true_and]
 refine ⟨by omega, ?_⟩
 rcases Nat.eq_zero_or_pos i with h0 | h0
 ·exact .inl h0
 ·refine .inr ?_
  obtain ⟨q, rfl⟩ : ∃ q, i = q + 1 := ⟨i - 1, by omega⟩
  have h3 := num4_ends ms q (by omega) hs
  have h4 := sumTo_succ ms q (by omega)
  have h5 : ms.getD q 0 ≤ apart := by
   rw [List.getD_eq_getElem?_getD, List.getElem?_eq_getElem (show q < ms.length by omega)]
   exact ha _ (List.getElem_mem _)
  rw [Nat.add_sub_cancel, h3]
  simp only
  omega

theorem fit_nul {ns : List Nd} {i : Nat} (h : Fit ns i nul) : isNull ns i = true := by
 generalize hv : nul = v at h
 cases fit_inv h with
 | null h' => exact h'
 | int _ x => exact absurd hv.symm (ne_nul_int x)
 | bool _ b => exact absurd hv.symm (ne_nul_bool b)
 | str _ s => exact absurd hv.symm (ne_nul_str s)
 | list _ ps => exact absurd hv.symm (ne_nul_list ps)
 | struct _ ps => exact absurd hv.symm (ne_nul_struct ps)
theorem packed_length (xs : List Bool) : (Bt.packed xs).length = (xs.length + 7) / 8 := by
 unfold Bt.packed
 rw [Bt.bytesOf_length]
theorem there_at (vs : List Txt) (r : Nat) (h : r < vs.length) : (there vs).getD r false = decide (vs[r] ≠ nul) := by
 unfold there
 rw [List.getD_eq_getElem?_getD, List.getElem?_map, List.getElem?_eq_getElem h]
 rfl
theorem on_valid (vs : List Txt) (r : Nat) (h : r < vs.length) : on (valid vs) r = decide (vs[r] ≠ nul) := by
 unfold on valid
 by_cases hc : (there vs).contains false = true
 ·rw [if_pos hc]
  have hne : Bt.packed (there vs) ≠ [] := fun e => by
   have := packed_length (there vs)
   rw [e] at this
   have h2 : (there vs).length = vs.length := by simp [there]
   rw [h2, List.length_nil] at this
   omega
  rw [show decide (Bt.packed (there vs) = []) = false from decide_eq_false hne, Bool.false_or, Bt.packed_bit, there_at vs r h]
 ·rw [if_neg hc]
  rw [show decide (([] : Txt) = []) = true from rfl, Bool.true_or, eq_comm, ← there_at vs r h]
  have hl : r < (there vs).length := by simpa [there] using h
  rw [List.getD_eq_getElem?_getD, List.getElem?_eq_getElem hl, Option.getD_some]
  cases hb : (there vs)[r] with
  | true => rfl
  | false =>
   refine absurd ?_ hc
   rw [List.contains_iff_mem, ← hb]
   exact List.getElem_mem hl
theorem valid_length (vs : List Txt) : (valid vs).length ≤ (vs.length + 7) / 8 := by
 unfold valid
 split
 ·rw [packed_length]; simp [there]
 ·simp
theorem valid_none {ns : List Nd} {i : Nat} (vs : List Txt) (hf : ∀ v ∈ vs, Fit ns i v) : valid vs = [] ∨ (isNull ns i = true ∧ (valid vs).length = (vs.length + 7) / 8) := by
 unfold valid
 by_cases hc : (there vs).contains false = true
 ·rw [if_pos hc]
  refine .inr ⟨?_, by rw [packed_length]; simp [there]⟩
  rw [List.contains_iff_mem] at hc
  unfold there at hc
  obtain ⟨v, hv, he⟩ := List.mem_map.1 hc
  have : v = nul := by simpa using he
  subst this
  exact fit_nul (hf _ hv)
 ·rw [if_neg hc]
  exact .inl rfl
theorem buf_built {ns : List Nd} {i : Nat} (vs : List Txt) (e d : Txt) (hl : vs.length ≤ 64) (hf : ∀ v ∈ vs, Fit ns i v) (he : e.length ≤ 4096) (hd : d.length ≤ 4096) : bufOk ns i 0 vs.length (valid vs) e d = true := by
 have h1 := valid_length vs
 unfold bufOk
 simp only [Bool.and_eq_true, Bool.or_eq_true, decide_eq_true_eq]
 refine ⟨by omega, ?_⟩
 rcases valid_none vs hf with h | ⟨h, h2⟩
 ·exact .inl h
 ·exact .inr ⟨h, by rw [h2]; omega⟩

/-- What is built. -/
def Built (ns : List Nd) (i : Nat) (vs : List Txt) (a : Arr) : Prop :=
 mayA ns a i = true ∧ a.lay = 0 ∧ a.off = 0 ∧ a.len = vs.length ∧ ∀ r (h : r < vs.length), rowA ns a i r = vs[r]
theorem pts_length (o : List Txt) (vs : List Txt) : (pts o vs).length = vs.length := by simp [pts]
theorem pts_at (o : List Txt) (vs : List Txt) (r : Nat) (h : r < vs.length) : (pts o vs)[r]'(by rw [pts_length]; exact h) = partOr o vs[r] := by simp [pts]

theorem bool_text (b : Bool) : decide (bool b = [116]) = b := by cases b <;> simp [bool]
theorem row_part {o : List Txt} {vs : List Txt} {r : Nat} (h : r < (pts o vs).length) : (pts o vs)[r] = partOr o (vs[r]'(by simpa [pts] using h)) := by simp [pts]

theorem built_int {ns : List Nd} (h : may ns = true) {i : Nat} (hi : i < ns.length) (hk : kindOf ns i = 0) (vs : List Txt) (hl : vs.length ≤ 64) (hf : ∀ v ∈ vs, Fit ns i v) :
  Built ns i vs (.mk 0 0 vs.length (valid vs) [] (ints (pts [[48]] vs)) []) := by
 have hks : (kids ns (i : Int)).length = 0 := leaf_kids h hi (by omega)
 have hdl : (ints (pts [[48]] vs)).length = 8 * vs.length := by
  unfold ints
  rw [flat_length _ 8 _ (fun _ _ => word_length _ _), pts_length]
 refine ⟨?_, rfl, rfl, rfl, fun r hr => ?_⟩
 ·rw [mayA, if_pos rfl, (node_of ns i).2 ⟨h, hi⟩, buf_built vs _ _ hl hf (by simp) (by omega), plainOk, if_pos hk]
  simp [mayAll, hks, hdl]
 ·obtain ⟨x, h0, h1, hp, hx⟩ := row_int hk (hf _ (List.getElem_mem hr))
  show textA ns _ i (0 + r) = _
  rw [Nat.zero_add, textA, on_valid vs r hr]
  simp only [if_neg (by decide : ¬ (0 : Int) = 1), if_neg (by decide : ¬ (0 : Int) = 2)]
  simp only [if_pos hk]
  rcases hx with ⟨hn, _⟩ | hx
  ·rw [hn]; simp
  ·have hne : vs[r] ≠ nul := by rw [hx]; exact ne_nul_int x
   rw [if_neg (by simp [hne]), hx]
   congr 1
   unfold int8 ints
   rw [flat_drop _ 8 _ r (by rw [pts_length]; exact hr) (fun _ _ => word_length _ _), pts_at _ _ r hr, hp]
   have : intOfRow [Lib.itoa x] = x := by
    show (atoi (Lib.itoa x)).1 = x
    rw [atoi_itoa x h0 h1]
   rw [this]
   exact le_word8 x h0 h1
theorem built_bool {ns : List Nd} (h : may ns = true) {i : Nat} (hi : i < ns.length) (hk : kindOf ns i = 1) (vs : List Txt) (hl : vs.length ≤ 64) (hf : ∀ v ∈ vs, Fit ns i v) :
  Built ns i vs (.mk 0 0 vs.length (valid vs) [] (bools (pts [[102]] vs)) []) := by
 have hks : (kids ns (i : Int)).length = 0 := leaf_kids h hi (by omega)
 have hdl : (bools (pts [[102]] vs)).length = (vs.length + 7) / 8 := by
  unfold bools truths
  rw [packed_length, List.length_map, pts_length]
 refine ⟨?_, rfl, rfl, rfl, fun r hr => ?_⟩
 ·rw [mayA, if_pos rfl, (node_of ns i).2 ⟨h, hi⟩, buf_built vs _ _ hl hf (by simp) (by omega), plainOk, if_neg (by omega), if_pos hk]
  simp only [mayAll, hks, hdl, Bool.true_and, List.length_nil, decide_true, Bool.and_eq_true, decide_eq_true_eq]
  omega
 ·obtain ⟨b, hp, hx⟩ := row_bool hk (hf _ (List.getElem_mem hr))
  show textA ns _ i (0 + r) = _
  rw [Nat.zero_add, textA, on_valid vs r hr]
  simp only [if_neg (by decide : ¬ (0 : Int) = 1), if_neg (by decide : ¬ (0 : Int) = 2)]
  simp only [if_neg (show ¬ kindOf ns i = 0 by omega), if_pos hk]
  rcases hx with ⟨hn, _⟩ | hx
  ·rw [hn]; simp
  ·have hne : vs[r] ≠ nul := by rw [hx]; exact ne_nul_bool b
   rw [if_neg (by simp [hne]), hx]
   congr 1
   unfold bools truths
   rw [Bt.packed_bit, List.getD_eq_getElem?_getD, List.getElem?_map, List.getElem?_eq_getElem (by rw [pts_length]; exact hr), pts_at _ _ r hr, hp]
   exact bool_text b
theorem built_str {ns : List Nd} (h : may ns = true) {i : Nat} (hi : i < ns.length) (hk : kindOf ns i = 2) (vs : List Txt) (hl : vs.length ≤ 64) (hf : ∀ v ∈ vs, Fit ns i v) :
  Built ns i vs (.mk 0 0 vs.length (valid vs) (ends ((pts [[]] vs).map size0)) (join (pts [[]] vs).flatten) []) := by
 have hks : (kids ns (i : Int)).length = 0 := leaf_kids h hi (by omega)
 obtain ⟨xs, hxl, hx⟩ : ∃ xs : List Txt, xs.length = vs.length ∧ ∀ r (hr : r < vs.length), ∃ hr' : r < xs.length, (xs[r]).length ≤ 16 ∧ partOr [[]] vs[r] = [xs[r]] ∧ (vs[r] = nul ∨ vs[r] = str xs[r]) := by
  refine ⟨vs.map fun v => (partOr [[]] v).getD 0 [], by simp, fun r hr => ⟨by simpa using hr, ?_⟩⟩
  obtain ⟨s, hs, hp, hx⟩ := row_str hk (hf _ (List.getElem_mem hr))
  rw [List.getElem_map, hp]
  exact ⟨hs, rfl, hx.imp And.left id⟩
 have hrows : pts [[]] vs = xs.map fun s => [s] := by
  apply List.ext_getElem (by rw [pts_length, List.length_map, hxl])
  intro r h1 h2
  obtain ⟨hr', _, hp, _⟩ := hx r (by simpa [pts] using h1)
  rw [row_part, hp, List.getElem_map]
 have hms : (pts [[]] vs).map size0 = xs.map List.length := by rw [hrows, List.map_map]; rfl
 have hdat : join (pts [[]] vs).flatten = xs.flatten := by
  rw [hrows]
  show ((xs.map fun s => [s]).flatten).flatten = xs.flatten
  congr 1
  clear hx hxl hrows hms
  induction xs with
  | nil => rfl
  | cons x xs ih => rw [List.map_cons, List.flatten_cons, ih]; rfl
 have hb : ∀ m ∈ xs.map List.length, m ≤ 16 := fun m hm => by
  obtain ⟨x, hx', rfl⟩ := List.mem_map.1 hm
  obtain ⟨r, hr, rfl⟩ := List.getElem_of_mem hx'
  exact (hx r (by omega)).2.1
 have hsum := sum_bound _ 16 hb
 rw [List.length_map] at hsum
 have hdl : (xs.flatten).length = (xs.map List.length).sum := (sum_flatten xs).symm
 have hel := ends_length (xs.map List.length)
 rw [List.length_map] at hel
 rw [hms, hdat]
 refine ⟨?_, rfl, rfl, rfl, fun r hr => ?_⟩
 ·rw [mayA, if_pos rfl, (node_of ns i).2 ⟨h, hi⟩, buf_built vs _ _ hl hf (by omega) (by omega), plainOk, if_neg (by omega), if_neg (by omega), if_pos hk]
  have hok := ends_ok (xs.map List.length) (xs.flatten).length 0 16 (by omega) (by omega) hb
  rw [List.length_map, hxl] at hok
  have e1 : ((0 : Int) + (vs.length : Int)).toNat = vs.length := by omega
  rw [e1, show (0 : Int).toNat = 0 from rfl, hok]
  simp [mayAll, hks]
 ·obtain ⟨hr', hs, hp, hv⟩ := hx r hr
  show textA ns _ i (0 + r) = _
  rw [Nat.zero_add, textA, on_valid vs r hr]
  simp only [if_neg (by decide : ¬ (0 : Int) = 1), if_neg (by decide : ¬ (0 : Int) = 2)]
  simp only [if_neg (show ¬ kindOf ns i = 0 by omega), if_neg (show ¬ kindOf ns i = 1 by omega), if_pos hk]
  rcases hv with hn | hv
  ·rw [hn]; simp
  ·have hne : vs[r] ≠ nul := by rw [hv]; exact ne_nul_str _
   rw [if_neg (by simp [hne]), hv]
   congr 1
   have h1 := num4_ends (xs.map List.length) r (by rw [List.length_map]; omega) (by omega)
   have h2 := num4_ends (xs.map List.length) (r + 1) (by rw [List.length_map]; omega) (by omega)
   have h3 := sumTo_succ (xs.map List.length) r (by rw [List.length_map]; omega)
   rw [List.getD_eq_getElem?_getD, List.getElem?_map, List.getElem?_eq_getElem hr', Option.map_some, Option.getD_some] at h3
   rw [h1, h2]
   simp only [Int.toNat_natCast]
   rw [h3, Nat.add_sub_cancel_left]
   exact flatten_cut xs r hr'

theorem headA_row (ns : List Nd) (a : Arr) (r : List Arr) (i row : Nat) : headA ns (a :: r) i row = rowA ns a i row := by
 obtain ⟨l, f, n, v, e, d, ks⟩ := a
 rw [headA]; rfl
theorem eachA_rows (ns : List Nd) : ∀ (bs : List Arr) (ks : List Nat) (row : Nat), bs.length = ks.length → eachA ns bs ks row = (List.range ks.length).map fun j => rowA ns (bs.getD j Arr.none) (ks.getD j 0) row
 | [], [], row, _ => by rw [eachA]; rfl
 | [], _ :: _, row, h => by simp at h
 | _ :: _, [], row, h => by simp at h
 | .mk l f n v e d cs :: bs, k :: ks, row, h => by
  rw [eachA, List.length_cons, List.range_succ_eq_map, List.map_cons, List.map_map, eachA_rows ns bs ks row (by simpa using h)]
  rfl
theorem mayAll_iff (ns : List Nd) : ∀ (bs : List Arr) (ks : List Nat), bs.length = ks.length → (mayAll ns bs ks = true ↔ ∀ j, j < ks.length → mayA ns (bs.getD j Arr.none) (ks.getD j 0) = true)
 | [], [], _ => by rw [mayAll]; simp
 | [], _ :: _, h => by simp at h
 | _ :: _, [], h => by simp at h
 | b :: bs, k :: ks, h => by
  rw [mayAll, Bool.and_eq_true, mayAll_iff ns bs ks (by simpa using h)]
  constructor
  ·rintro ⟨h1, h2⟩ j hj
   cases j with
   | zero => exact h1
   | succ j => exact h2 j (by simpa using hj)
  ·intro h1
   exact ⟨h1 0 (by simp), fun j hj => h1 (j + 1) (by simpa using hj)⟩
theorem seqO_get {α : Type} : ∀ (l : List (Option α)) (ys : List α), seqO l = some ys → ∀ j : Nat, l[j]? = (ys[j]?).map some
 | [], ys, h, j => by simp [seqO] at h; subst h; simp
 | none :: _, ys, h, j => by simp [seqO] at h
 | some a :: r, ys, h, j => by
  rw [seqO, Option.map_eq_some_iff] at h
  obtain ⟨zs, hz, rfl⟩ := h
  cases j with
  | zero => simp
  | succ j => simpa using seqO_get r zs hz j

theorem built_list {ns : List Nd} (h : may ns = true) {i : Nat} (hi : i < ns.length) (hk : kindOf ns i = 3) (vs : List Txt) (hl : vs.length ≤ 64) (hf : ∀ v ∈ vs, Fit ns i v) (b : Arr)
  (hb : Built ns ((kids ns i).getD 0 0) (pts [] vs).flatten b) (hbl : (pts [] vs).flatten.length ≤ 64) :
  Built ns i vs (.mk 0 0 vs.length (valid vs) (ends ((pts [] vs).map List.length)) [] [b]) := by
 obtain ⟨b1, b2, b3, b4, b5⟩ := hb
 have hsum : ((pts [] vs).map List.length).sum = (pts [] vs).flatten.length := sum_flatten _
 have hml : ((pts [] vs).map List.length).length = vs.length := by rw [List.length_map, pts_length]
 have hel := ends_length ((pts [] vs).map List.length)
 have hpart : ∀ r (hr : r < vs.length), ((pts [] vs)[r]'(by rw [pts_length]; exact hr)) = partOr [] vs[r] := fun r hr => pts_at _ _ _ hr
 refine ⟨?_, rfl, rfl, rfl, fun r hr => ?_⟩
 ·rw [mayA, if_pos rfl, (node_of ns i).2 ⟨h, hi⟩, buf_built vs _ _ hl hf (by omega) (by simp), plainOk]
  simp only [if_neg (show ¬ kindOf ns i = 0 by omega), if_neg (show ¬ kindOf ns i = 1 by omega), if_neg (show ¬ kindOf ns i = 2 by omega), if_pos hk]
  have hok := ends_ok ((pts [] vs).map List.length) (kid0 [b]).len 0 64 (by omega) (by rw [show kid0 [b] = b from rfl, b4, hsum]; exact Int.le_refl _) (fun m hm => by
   obtain ⟨x, hx', rfl⟩ := List.mem_map.1 hm
   obtain ⟨r, hr, rfl⟩ := List.getElem_of_mem hx'
   rw [row_part hr]
   exact (row_list hk (hf _ (List.getElem_mem _))).1)
  rw [hml] at hok
  have e1 : ((0 : Int) + (vs.length : Int)).toNat = vs.length := by omega
  rw [e1, hok, kids_one' h hi hk, mayAll, b1]
  rfl
 ·show textA ns _ i (0 + r) = _
  rw [Nat.zero_add, textA, on_valid vs r hr]
  simp only [if_neg (by decide : ¬ (0 : Int) = 1), if_neg (by decide : ¬ (0 : Int) = 2), if_neg (show ¬ kindOf ns i = 0 by omega), if_neg (show ¬ kindOf ns i = 1 by omega), if_neg (show ¬ kindOf ns i = 2 by omega), if_pos hk]
  obtain ⟨h1, h2, hv⟩ := row_list hk (hf _ (List.getElem_mem hr))
  by_cases hn : vs[r] = nul
  ·rw [hn]; simp
  ·rcases hv with hv | hv
   ·exact absurd hv.1 hn
   ·rw [if_neg (by simp [hn])]
    rw [hv]
    have hr' : r < (pts [] vs).length := by rw [pts_length]; exact hr
    have q1 := num4_ends ((pts [] vs).map List.length) r (by omega) (by omega)
    have q2 := num4_ends ((pts [] vs).map List.length) (r + 1) (by omega) (by omega)
    have q3 := sumTo_succ ((pts [] vs).map List.length) r (by omega)
    rw [List.getD_eq_getElem?_getD, List.getElem?_map, List.getElem?_eq_getElem hr', Option.map_some, Option.getD_some, hpart r hr] at q3
    have q4 := sumTo_le ((pts [] vs).map List.length) (r + 1)
    rw [q1, q2]
    simp only [Int.toNat_natCast]
    rw [q3, Nat.add_sub_cancel_left]
    have e : ((List.range (partOr [] vs[r]).length).map fun j => headA ns [b] ((kids ns i).getD 0 0) (sumTo ((pts [] vs).map List.length) r + j)) = partOr [] vs[r] := by
     apply List.ext_getElem (by simp)
     intro t t1 t2
     rw [List.getElem_map, List.getElem_range, headA_row]
     have hat := flatten_at (pts [] vs) r t hr' (by rw [hpart r hr]; exact t2)
     have hlt := (List.getElem?_eq_some_iff.1 hat).1
     rw [b5 _ hlt]
     have := (List.getElem?_eq_some_iff.1 hat).2
     rw [this]
     simp only [hpart r hr]
    rw [e, ← hv]
theorem col_at (rows : List (List Txt)) (j r : Nat) (h : r < rows.length) : (col rows j)[r]'(by simpa [col] using h) = (rows[r]).getD j [] := by simp [col]
theorem built_struct {ns : List Nd} (h : may ns = true) {i : Nat} (hi : i < ns.length) (hk : kindOf ns i = 4) (vs : List Txt) (hl : vs.length ≤ 64) (hf : ∀ v ∈ vs, Fit ns i v) (bs : List Arr) (hbl : bs.length = (kids ns i).length)
  (hb : ∀ j, j < (kids ns i).length → Built ns ((kids ns i).getD j 0) (col (pts ((kids ns i).map (zero ns)) vs) j) (bs.getD j Arr.none)) :
  Built ns i vs (.mk 0 0 vs.length (valid vs) [] [] bs) := by
 have hcl : ∀ j, (col (pts ((kids ns i).map (zero ns)) vs) j).length = vs.length := fun j => by simp [col, pts]
 refine ⟨?_, rfl, rfl, rfl, fun r hr => ?_⟩
 ·rw [mayA, if_pos rfl, (node_of ns i).2 ⟨h, hi⟩, buf_built vs _ _ hl hf (by simp) (by simp), plainOk]
  simp only [if_neg (show ¬ kindOf ns i = 0 by omega), if_neg (show ¬ kindOf ns i = 1 by omega), if_neg (show ¬ kindOf ns i = 2 by omega), if_neg (show ¬ kindOf ns i = 3 by omega)]
  have h1 : mayAll ns bs (kids ns i) = true := (mayAll_iff ns bs _ hbl).2 fun j hj => (hb j hj).1
  have h2 : (bs.all fun k => decide ((0 : Int) + (vs.length : Int) ≤ k.len)) = true := by
   rw [List.all_eq_true]
   intro k hk'
   obtain ⟨j, hj, rfl⟩ := List.getElem_of_mem hk'
   have := (hb j (by omega)).2.2.2.1
   rw [hcl, List.getD_eq_getElem?_getD, List.getElem?_eq_getElem hj, Option.getD_some] at this
   rw [this, decide_eq_true_eq]
   omega
  rw [h1, h2]
  simp [hbl]
 ·show textA ns _ i (0 + r) = _
  rw [Nat.zero_add, textA, on_valid vs r hr]
  simp only [if_neg (by decide : ¬ (0 : Int) = 1), if_neg (by decide : ¬ (0 : Int) = 2), if_neg (show ¬ kindOf ns i = 0 by omega), if_neg (show ¬ kindOf ns i = 1 by omega), if_neg (show ¬ kindOf ns i = 2 by omega), if_neg (show ¬ kindOf ns i = 3 by omega)]
  obtain ⟨h1, h2, hv⟩ := row_struct h hi hk (hf _ (List.getElem_mem hr))
  by_cases hn : vs[r] = nul
  ·rw [hn]; simp
  ·rcases hv with hv | hv
   ·exact absurd hv.1 hn
   ·rw [if_neg (by simp [hn])]
    rw [hv, eachA_rows ns bs _ r hbl]
    have e : ((List.range (kids ns (i : Int)).length).map fun j => rowA ns (bs.getD j Arr.none) ((kids ns (i : Int)).getD j 0) r) = partOr ((kids ns (i : Int)).map (zero ns)) vs[r] := by
     apply List.ext_getElem (by rw [List.length_map, List.length_range, h1])
     intro t t1 t2
     rw [List.getElem_map, List.getElem_range]
     have ht : t < (kids ns (i : Int)).length := by rw [h1] at t2; exact t2
     rw [(hb t ht).2.2.2.2 r (by rw [hcl]; exact hr), col_at _ _ _ (by rw [pts_length]; exact hr), pts_at _ _ r hr, List.getD_eq_getElem?_getD, List.getElem?_eq_getElem t2]
     rfl
    rw [e, ← hv]
/-- What is built may be; its rows are what it was built of. -/
theorem build_back {ns : List Nd} (h : may ns = true) : ∀ (n i : Nat) (vs : List Txt) (a : Arr), i < ns.length → ns.length - i ≤ n → (∀ v ∈ vs, Fit ns i v) → build ns i vs = some a → Built ns i vs a := by
 intro n
 induction n with
 | zero => intro i vs a hi h1; omega
 | succ n ih =>
  intro i vs a hi h1 hf hb
  rw [build_eq ns h i hi] at hb
  have hkind := may_kind ns h i hi
  by_cases h64 : 64 < vs.length
  ·rw [if_pos h64] at hb; cases hb
  rw [if_neg h64] at hb
  by_cases hk0 : kindOf ns i = 0
  ·rw [if_pos hk0] at hb
   obtain rfl := Option.some.inj hb
   exact built_int h hi hk0 vs (by omega) hf
  rw [if_neg hk0] at hb
  by_cases hk1 : kindOf ns i = 1
  ·rw [if_pos hk1] at hb
   obtain rfl := Option.some.inj hb
   exact built_bool h hi hk1 vs (by omega) hf
  rw [if_neg hk1] at hb
  by_cases hk2 : kindOf ns i = 2
  ·rw [if_pos hk2] at hb
   obtain rfl := Option.some.inj hb
   exact built_str h hi hk2 vs (by omega) hf
  rw [if_neg hk2] at hb
  by_cases hk3 : kindOf ns i = 3
  ·rw [if_pos hk3, Option.map_eq_some_iff] at hb
   obtain ⟨b, hb, rfl⟩ := hb
   obtain ⟨h2, h3⟩ := kid_one_lt h hi hk3
   have hle : (pts [] vs).flatten.length ≤ 64 := by
    rw [build_eq ns h _ h3] at hb
    split at hb
    ·cases hb
    ·omega
   refine built_list h hi hk3 vs (by omega) hf b (ih _ _ b h3 (by omega) (fun p hp => ?_) hb) hle
   obtain ⟨row, hrow, hp'⟩ := List.mem_flatten.1 hp
   obtain ⟨v, hv, rfl⟩ := List.mem_map.1 hrow
   exact (row_list hk3 (hf v hv)).2.1 p hp'
  rw [if_neg hk3, Option.map_eq_some_iff] at hb
  obtain ⟨bs, hb, rfl⟩ := hb
  have hk4 : kindOf ns i = 4 := by omega
  have hbl := seqO_length _ _ hb
  rw [List.length_map, List.length_range] at hbl
  refine built_struct h hi hk4 vs (by omega) hf bs hbl fun j hj => ?_
  obtain ⟨h2, h3⟩ := kid_lt h hj
  have hg := seqO_get _ _ hb j
  rw [List.getElem?_map, List.getElem?_range hj, Option.map_some, List.getElem?_eq_getElem (by omega), Option.map_some, Option.some.injEq] at hg
  rw [List.getD_eq_getElem?_getD (l := bs), List.getElem?_eq_getElem (show j < bs.length by omega), Option.getD_some]
  refine ih _ _ _ h3 (by omega) (fun p hp => ?_) hg
  unfold col at hp
  obtain ⟨row, hrow, rfl⟩ := List.mem_map.1 hp
  obtain ⟨v, hv, rfl⟩ := List.mem_map.1 hrow
  exact (row_struct h hi hk4 (hf v hv)).2.1 j hj
theorem build_vals {ns : List Nd} (h : may ns = true) {i : Nat} (hi : i < ns.length) {vs : List Txt} {a : Arr} (hf : ∀ v ∈ vs, Fit ns i v) (hb : build ns i vs = some a) : mayA ns a i = true ∧ valsA ns a i = vs ∧ a.len = vs.length ∧ a.off = 0 ∧ a.lay = 0 := by
 obtain ⟨h1, h2, h3, h4, h5⟩ := build_back h _ i vs a hi (Nat.le_refl _) hf hb
 refine ⟨h1, ?_, h4, h3, h2⟩
 unfold valsA
 rw [h4, Int.toNat_natCast]
 apply List.ext_getElem (by simp)
 intro r r1 r2
 rw [List.getElem_map, List.getElem_range, h5 r r2]

/-- What Build answers. -/
def fitAll (ns : List Nd) (x : Int) (vs : List Txt) : Bool := vs.all fun v => fits ns (v.length + 1) x v
def buildR (ns : List Nd) (x : Int) (vs : List Txt) : Arr × Int :=
 if node ns x && fitAll ns x vs then (match build ns x.toNat vs with | none => (Arr.none, 1001) | some a => (a, 0)) else (Arr.none, 1000)
theorem fitAll_iff (ns : List Nd) (i : Nat) (vs : List Txt) : fitAll ns (i : Int) vs = true ↔ ∀ v ∈ vs, Fit ns i v := by
 unfold fitAll Fit
 rw [List.all_eq_true]
end Vp
end Go.Proofs.YtobhjlchpnpleaaGreatDoor

/- What the digits up to a place spell; plain Lean. No program. -/
namespace Go.Proofs.YtobhjlchpnpleaaGreatDoor
set_option linter.unusedVariables false

/-- What the digits up to a place spell. -/
def lowAt (l : Vp.Txt) (i0 k : Nat) : Nat := Vp.dval 0 ((l.drop i0).take (k - i0))
theorem lowAt_step (l : Vp.Txt) (i0 k : Nat) (h0 : i0 ≤ k) (hk : k < l.length) : lowAt l i0 (k + 1) = lowAt l i0 k * 10 + (l[k].toNat - 48) := by
 unfold lowAt
 rw [show k + 1 - i0 = (k - i0) + 1 by omega, List.take_succ_eq_append_getElem (by rw [List.length_drop]; omega), Vp.dval_append, Vp.dval_cons, Vp.dval_nil]
 have : (l.drop i0)[k - i0]'(by rw [List.length_drop]; omega) = l[k] := by
  rw [List.getElem_drop]
  congr 1
  omega
 rw [this]
theorem lowAt_end (x : Int) (i0 : Nat) (h : (Lib.itoa x).drop i0 = Lib.decDigits x.natAbs) : lowAt (Lib.itoa x) i0 (Lib.itoa x).length = x.natAbs := by
 unfold lowAt
 rw [List.take_of_length_le (by rw [List.length_drop]; exact Nat.le_refl _), h, Vp.dval_dec]
theorem dval_take_le (l : Vp.Txt) (j : Nat) : Vp.dval 0 (l.take j) ≤ Vp.dval 0 l := by
 have h := Vp.dval_append 0 (l.take j) (l.drop j)
 rw [List.take_append_drop] at h
 rw [h]
 exact Vp.dval_ge _ _
theorem lowAt_le (x : Int) (i0 k : Nat) (h : (Lib.itoa x).drop i0 = Lib.decDigits x.natAbs) : lowAt (Lib.itoa x) i0 k ≤ x.natAbs := by
 unfold lowAt
 rw [h]
 have := dval_take_le (Lib.decDigits x.natAbs) (k - i0)
 rw [Vp.dval_dec] at this
 exact this
theorem itoa_digit (x : Int) (i0 k : Nat) (h : (Lib.itoa x).drop i0 = Lib.decDigits x.natAbs) (h0 : i0 ≤ k) (hk : k < (Lib.itoa x).length) : 48 ≤ (Lib.itoa x)[k].toNat ∧ (Lib.itoa x)[k].toNat ≤ 57 := by
 refine Vp.dec_all x.natAbs _ ?_
 rw [← h]
 have : (Lib.itoa x)[k] = ((Lib.itoa x).drop i0)[k - i0]'(by rw [List.length_drop]; omega) := by
  rw [List.getElem_drop]
  congr 1
  omega
 rw [this]
 exact List.getElem_mem _
theorem itoa_head (x : Int) (hl : 0 < (Lib.itoa x).length) : (((Lib.itoa x)[0].toNat : Int) == 45) = decide (x < 0) := by
 unfold Lib.itoa at hl ⊢
 by_cases h : x < 0
 ·simp [h]
 ·simp only [if_neg h] at hl ⊢
  have := Vp.dec_all x.toNat _ (List.getElem_mem hl)
  rw [decide_eq_false h, beq_eq_false_iff_ne]
  omega
end Go.Proofs.YtobhjlchpnpleaaGreatDoor

/- The rows of an array that may be fit its node, and there is room for them; plain Lean. No program. -/
namespace Go.Proofs.YtobhjlchpnpleaaGreatDoor
set_option linter.unusedVariables false
set_option linter.unusedSimpArgs false
open Go
namespace Vp
open Tp

/-! How many nodes stand below one, itself counted. -/
def subF (ns : List Nd) : Nat → Nat → Nat
 | 0, _ => 0
 | n + 1, i => 1 + ((kids ns (i : Int)).map (subF ns n)).sum
def sub (ns : List Nd) (i : Nat) : Nat := subF ns (ns.length + 1) i
theorem subF_fuel (ns : List Nd) (h : may ns = true) : ∀ (n m i : Nat), i < ns.length → ns.length - i ≤ n → ns.length - i ≤ m → subF ns n i = subF ns m i := by
 intro n
 induction n with
 | zero => intro m i hi h1 _; omega
 | succ n ih =>
  intro m i hi h1 h2
  obtain ⟨m, rfl⟩ : ∃ q, m = q + 1 := ⟨m - 1, by omega⟩
  rw [subF, subF]
  congr 2
  refine List.map_congr_left fun k hk => ?_
  obtain ⟨h3, h4⟩ := kids_gt ns h i k hk
  exact ih m k h4 (by omega) (by omega)
theorem sub_eq (ns : List Nd) (h : may ns = true) (i : Nat) (hi : i < ns.length) : sub ns i = 1 + ((kids ns (i : Int)).map (sub ns)).sum := by
 unfold sub
 rw [subF]
 congr 2
 refine List.map_congr_left fun k hk => ?_
 obtain ⟨h3, h4⟩ := kids_gt ns h i k hk
 exact subF_fuel ns h _ _ k h4 (by omega) (by omega)
theorem sum_filter (p : Nat → Bool) (g : Nat → Nat) (l : List Nat) : ((l.filter p).map g).sum = (l.map fun k => if p k = true then g k else 0).sum := by
 induction l with
 | nil => rfl
 | cons a l ih =>
  by_cases h : p a = true
  ·rw [List.filter_cons_of_pos h, List.map_cons, List.sum_cons, ih, List.map_cons, List.sum_cons, if_pos h]
  ·rw [List.filter_cons_of_neg h, ih, List.map_cons, List.sum_cons, if_neg h, Nat.zero_add]
theorem sum_add (f g : Nat → Nat) (l : List Nat) : (l.map fun k => f k + g k).sum = (l.map f).sum + (l.map g).sum := by
 induction l with
 | nil => rfl
 | cons a l ih => simp only [List.map_cons, List.sum_cons, ih]; omega
theorem sum_one (m : Nat) (x : Nat) : ∀ n, m < n → ((List.range n).map fun k => if k = m then x else 0).sum = x := by
 have h0 : ∀ n, n ≤ m → ((List.range n).map fun k => if k = m then x else 0).sum = 0 := by
  intro n
  induction n with
  | zero => intro _; rfl
  | succ n ih =>
   intro h
   rw [List.range_succ, List.map_append, List.sum_append, ih (by omega)]
   simp only [List.map_cons, List.map_nil, List.sum_cons, List.sum_nil]
   rw [if_neg (by omega)]
   rfl
 intro n
 induction n with
 | zero => intro h; omega
 | succ n ih =>
  intro h
  rw [List.range_succ, List.map_append, List.sum_append]
  simp only [List.map_cons, List.map_nil, List.sum_cons, List.sum_nil]
  by_cases hn : n = m
  ·rw [if_pos hn, h0 n (by omega)]; omega
  ·rw [if_neg hn, ih (by omega)]; omega
theorem sum_congr {f g : Nat → Nat} {l : List Nat} (h : ∀ k ∈ l, f k = g k) : (l.map f).sum = (l.map g).sum := by rw [List.map_congr_left h]
theorem up_of (ns : List Nd) (h : may ns = true) (k : Nat) (hk : k < ns.length) (h0 : 0 < k) : 0 ≤ parentOf ns k ∧ parentOf ns k < k := (may_behind h k hk k (Nat.le_refl _)).2 h0
/-- The nodes from m on whose parents stand ahead of it: all that is below them. -/
def tops (ns : List Nd) (m : Nat) : Nat := ((List.range ns.length).map fun k => if m ≤ k ∧ parentOf ns k < m then sub ns k else 0).sum
theorem tops_step (ns : List Nd) (h : may ns = true) (m : Nat) (hm : m < ns.length) (h0 : 0 < m) : tops ns m = 1 + tops ns (m + 1) := by
 have hup := up_of ns h m hm h0
 have h1 : tops ns m = sub ns m + ((List.range ns.length).map fun k => if m + 1 ≤ k ∧ parentOf ns k < m then sub ns k else 0).sum := by
  unfold tops
  rw [← sum_one m (sub ns m) ns.length hm, ← sum_add]
  refine sum_congr fun k hk => ?_
  by_cases hkm : k = m
  ·subst hkm
   rw [if_pos ⟨Nat.le_refl _, hup.2⟩, if_pos rfl, if_neg (by omega)]
   rfl
  ·rw [if_neg hkm, Nat.zero_add]
   by_cases hc : m ≤ k ∧ parentOf ns k < m
   ·rw [if_pos hc, if_pos (by omega)]
   ·rw [if_neg hc, if_neg (by omega)]
 have h2 : tops ns (m + 1) = ((kids ns (m : Int)).map (sub ns)).sum + ((List.range ns.length).map fun k => if m + 1 ≤ k ∧ parentOf ns k < m then sub ns k else 0).sum := by
  unfold tops kids kidsTo
  rw [sum_filter, ← sum_add]
  refine sum_congr fun k hk => ?_
  rw [List.mem_range] at hk
  by_cases hkid : isKid ns (m : Int) k = true
  ·have hkm : k ∈ kids ns (m : Int) := by
    unfold kids kidsTo
    exact List.mem_filter.2 ⟨List.mem_range.2 hk, hkid⟩
   have hgt := (kids_gt ns h m k hkm).1
   have hkid2 := hkid
   unfold isKid at hkid2
   simp only [Bool.and_eq_true, decide_eq_true_eq, beq_iff_eq] at hkid2
   rw [if_pos (show m + 1 ≤ k ∧ parentOf ns k < ((m + 1 : Nat) : Int) from ⟨by omega, by omega⟩), if_pos hkid, if_neg (by omega)]
   rfl
  ·rw [if_neg hkid, Nat.zero_add]
   have hne : ¬ (0 < k ∧ parentOf ns k = (m : Int)) := fun hc => hkid (by unfold isKid; simp [hc.1, hc.2])
   by_cases hc : m + 1 ≤ k ∧ parentOf ns k < m
   ·rw [if_pos ⟨hc.1, by omega⟩, if_pos hc]
   ·rw [if_neg (by omega), if_neg hc]
 rw [h1, h2, sub_eq ns h m hm]
 omega
theorem tops_eq (ns : List Nd) (h : may ns = true) : ∀ (d m : Nat), 0 < m → m + d = ns.length → tops ns m = d := by
 intro d
 induction d with
 | zero =>
  intro m h0 hm
  unfold tops
  have : ((List.range ns.length).map fun k => if m ≤ k ∧ parentOf ns k < m then sub ns k else 0) = (List.range ns.length).map fun _ => 0 := List.map_congr_left fun k hk => by
   rw [List.mem_range] at hk
   rw [if_neg (by omega)]
  rw [this]
  induction (List.range ns.length) with
  | nil => rfl
  | cons a l ih => rw [List.map_cons, List.sum_cons, ih]
 | succ d ih =>
  intro m h0 hm
  rw [tops_step ns h m (by omega) h0, ih (m + 1) (by omega) (by omega)]
  omega
theorem le_sum (f : Nat → Nat) (l : List Nat) (m : Nat) (h : m ∈ l) : f m ≤ (l.map f).sum := by
 induction l with
 | nil => simp at h
 | cons a l ih =>
  rw [List.map_cons, List.sum_cons]
  rcases List.mem_cons.1 h with rfl | h
  ·omega
  ·have := ih h; omega
theorem sub_le {ns : List Nd} (h : may ns = true) (i : Nat) (hi : i < ns.length) : sub ns i ≤ 8 := by
 have hl := (may_len ns h).2
 rcases Nat.eq_zero_or_pos i with h0 | h0
 ·subst h0
  rw [sub_eq ns h 0 hi]
  have ht : ((kids ns ((0 : Nat) : Int)).map (sub ns)).sum ≤ tops ns 1 := by
   unfold kids kidsTo tops
   rw [sum_filter]
   refine Nat.le_of_eq (sum_congr fun k hk => ?_)
   rw [List.mem_range] at hk
   rcases Nat.eq_zero_or_pos k with hk0 | hk0
   ·subst hk0
    rw [if_neg (by simp [isKid]), if_neg (by omega)]
   ·have hup := up_of ns h k hk hk0
    by_cases hp : parentOf ns k = 0
    ·rw [if_pos (by simp [isKid, hk0, hp]), if_pos ⟨hk0, by omega⟩]
    ·rw [if_neg (by simp [isKid, hp]), if_neg (by omega)]
  have := tops_eq ns h (ns.length - 1) 1 (by decide) (by omega)
  omega
 ·have ht : sub ns i ≤ tops ns i := by
   have := le_sum (fun k => if i ≤ k ∧ parentOf ns k < i then sub ns k else 0) (List.range ns.length) i (List.mem_range.2 hi)
   simp only [Nat.le_refl, true_and] at this
   rwa [if_pos (up_of ns h i hi h0).2] at this
  have := tops_eq ns h (ns.length - i) i h0 (by omega)
  omega

/-! What the rows of an array that may be are. -/
theorem on_null {ns : List Nd} {i : Nat} {f n : Int} {v e d : Txt} {row : Nat} (hb : bufOk ns i f n v e d = true) (ho : on v row = false) : isNull ns i = true := by
 unfold bufOk at hb
 unfold on at ho
 simp only [Bool.or_eq_false_iff, decide_eq_false_iff_not] at ho
 simp only [Bool.and_eq_true, Bool.or_eq_true, decide_eq_true_eq] at hb
 rcases hb.2 with h | h
 ·exact absurd h ho.1
 ·exact h.1
theorem buf_bounds {ns : List Nd} {i : Nat} {f n : Int} {v e d : Txt} (hb : bufOk ns i f n v e d = true) : 0 ≤ f ∧ 0 ≤ n ∧ f + n ≤ 64 := by
 unfold bufOk at hb
 simp only [Bool.and_eq_true, decide_eq_true_eq] at hb
 omega
theorem num4_bounds (s : Txt) (j : Nat) : 0 ≤ (num4 s j).1 ∧ (num4 s j).1 ≤ 2147483647 := by
 unfold num4
 split
 ·simp only; omega
 ·simp
/-- Where things end: a rising row. -/
theorem ends_view {s : Txt} {rows from_ apart : Nat} {most : Int} (h : endsOk s rows most from_ apart = true) :
  (∀ j, j ≤ rows → (num4 s j).2 = true ∧ (num4 s j).1 ≤ most) ∧ ∀ j, j < rows → (num4 s j).1.toNat ≤ (num4 s (j + 1)).1.toNat ∧ (from_ ≤ j → (num4 s (j + 1)).1.toNat - (num4 s j).1.toNat ≤ apart) := by
 unfold endsOk at h
 rw [List.all_eq_true] at h
 refine ⟨fun j hj => ?_, fun j hj => ?_⟩
 ·have := h j (List.mem_range.2 (by omega))
  unfold endOk at this
  simp only [Bool.and_eq_true, decide_eq_true_eq] at this
  exact ⟨this.1, this.2.1⟩
 ·have := h (j + 1) (List.mem_range.2 (by omega))
  unfold endOk at this
  simp only [Bool.and_eq_true, Bool.or_eq_true, decide_eq_true_eq, Nat.add_sub_cancel] at this
  have h1 := num4_bounds s j
  have h2 := num4_bounds s (j + 1)
  omega
theorem run_lt {d : Txt} {k : Int} {row : Nat} {f n : Int} (h : runOk f n [] d k = true) (hk : 0 ≤ k) (hr : (row : Int) < f + n) : runOf d row < k.toNat := by
 unfold runOk at h
 simp only [Bool.and_eq_true, decide_eq_true_eq] at h
 obtain ⟨_, hl, _, hlast⟩ := h
 have hlen : d.length / 4 = k.toNat := by omega
 unfold runOf
 rw [hlen]
 have hpos : 0 < k.toNat := by
  rcases Nat.eq_zero_or_pos k.toNat with h0 | h0
  ·rw [h0] at hlast
   simp [runEnd] at hlast
   omega
  ·exact h0
 have hex : ∃ x ∈ List.range k.toNat, decide ((row : Int) < (num4 d x).1) = true := by
  refine ⟨k.toNat - 1, List.mem_range.2 (by omega), ?_⟩
  unfold runEnd at hlast
  rw [if_neg (by omega)] at hlast
  rw [decide_eq_true_eq]
  omega
 have := List.findIdx_lt_length_of_exists hex
 rwa [List.length_range] at this
theorem leaf_size {ns : List Nd} {i : Nat} (hk : kindOf ns i ≤ 2) {v : Txt} (h : Fit ns i v) : v.length ≤ 38 := by
 cases fit_inv h with
 | null => simp [nul]
 | int _ x h0 h1 => have := digitsLen x h0 h1; simp [int]; omega
 | bool _ b => cases b <;> simp [bool]
 | str _ s hs => exact str_length s hs
 | list h' => omega
 | struct h' => omega
theorem int8_range (d : Txt) (row : Nat) : -9223372036854775808 ≤ int8 d row ∧ int8 d row ≤ 9223372036854775807 := by
 unfold int8
 rw [IntKind.wrap_i64]
 omega
theorem may_node {ns : List Nd} {a : Arr} {i : Nat} (h : mayA ns a i = true) : may ns = true ∧ i < ns.length := by
 obtain ⟨l, f, n, v, e, d, ks⟩ := a
 rw [mayA, Bool.and_eq_true, Bool.and_eq_true] at h
 exact (node_of ns i).1 h.1.1
theorem may_bounds {ns : List Nd} {a : Arr} {i : Nat} (h : mayA ns a i = true) : 0 ≤ a.off ∧ 0 ≤ a.len ∧ a.off + a.len ≤ 64 := by
 obtain ⟨l, f, n, v, e, d, ks⟩ := a
 rw [mayA, Bool.and_eq_true, Bool.and_eq_true] at h
 exact buf_bounds h.1.2
theorem one_view {ns : List Nd} {i : Nat} {e : Txt} {ks : List Arr} (h : oneOk ns i e ks = true) : (¬ kindOf ns i = 3 ∧ ¬ kindOf ns i = 4) ∧ ∃ b, ks = [b] ∧ b.lay = 0 := by
 unfold oneOk inner at h
 simp only [Bool.and_eq_true, decide_eq_true_eq, Bool.not_eq_true', Bool.or_eq_false_iff, beq_eq_false_iff_ne] at h
 obtain ⟨h1, _, h2, h3⟩ := h
 obtain ⟨b, rfl⟩ := List.length_eq_one_iff.1 h2
 exact ⟨h1, b, rfl, h3⟩
/-- An array of a list: one kid; where its rows begin and end. -/
theorem list_view {ns : List Nd} {a : Arr} {i : Nat} (h : mayA ns a i = true) (hk : kindOf ns i = 3) : ∃ (b : Arr) (E : Nat → Nat), a.kids = [b] ∧ mayA ns b ((kids ns i).getD 0 0) = true ∧
  (∀ j, j ≤ a.off.toNat + a.len.toNat → E j ≤ b.len.toNat) ∧ (∀ j, j < a.off.toNat + a.len.toNat → E j ≤ E (j + 1) ∧ E (j + 1) - E j ≤ 64) ∧
  ∀ r, r < a.len.toNat → (rowA ns a i r = nul ∧ isNull ns i = true) ∨ rowA ns a i r = list ((List.range (E (a.off.toNat + r + 1) - E (a.off.toNat + r))).map fun j => rowA ns b ((kids ns i).getD 0 0) (E (a.off.toNat + r) + j)) := by
 obtain ⟨hm, hi⟩ := may_node h
 obtain ⟨l, f, n, v, e, d, ks⟩ := a
 rw [mayA, Bool.and_eq_true, Bool.and_eq_true] at h
 obtain ⟨⟨_, hbuf⟩, h⟩ := h
 have hbb := buf_bounds hbuf
 by_cases hl : l = 0
 ·rw [if_pos hl, Bool.and_eq_true, Bool.and_eq_true, decide_eq_true_eq, kids_one' hm hi hk] at h
  obtain ⟨hlen, hall, hp⟩ := h
  obtain ⟨b, rfl⟩ := List.length_eq_one_iff.1 (show ks.length = 1 from hlen)
  rw [mayAll, Bool.and_eq_true] at hall
  unfold plainOk at hp
  simp only [if_neg (show ¬ kindOf ns i = 0 by omega), if_neg (show ¬ kindOf ns i = 1 by omega), if_neg (show ¬ kindOf ns i = 2 by omega), if_pos hk] at hp
  rw [Bool.and_eq_true] at hp
  obtain ⟨h1, h2⟩ := ends_view hp.2
  have e1 : (f + n).toNat = f.toNat + n.toNat := by omega
  have hbl := may_bounds hall.1
  refine ⟨b, fun j => (num4 e j).1.toNat, rfl, hall.1, fun j hj => ?_, fun j hj => ?_, fun r hr => ?_⟩
  ·have := (h1 j (by simp only [Arr.off, Arr.len] at hj; omega)).2
   show (num4 e j).1.toNat ≤ b.len.toNat
   have e2 : (kid0 [b]).len = b.len := rfl
   omega
  ·have := h2 j (by simp only [Arr.off, Arr.len] at hj; omega)
   exact ⟨this.1, this.2 (Nat.zero_le _)⟩
  ·show (textA ns _ i (f.toNat + r) = _ ∧ _) ∨ textA ns _ i (f.toNat + r) = _
   rw [textA]
   simp only [hl, if_neg (by decide : ¬ (0 : Int) = 1), if_neg (by decide : ¬ (0 : Int) = 2), if_neg (show ¬ kindOf ns i = 0 by omega), if_neg (show ¬ kindOf ns i = 1 by omega), if_neg (show ¬ kindOf ns i = 2 by omega), if_pos hk]
   by_cases ho : on v (f.toNat + r) = false
   ·rw [if_pos ho]; exact .inl ⟨rfl, on_null hbuf ho⟩
   ·rw [if_neg ho]
    refine .inr ?_
    simp only [headA_row]
    rfl
 ·rw [if_neg hl] at h
  have : ∀ x, (oneOk ns i e ks && x) = true → False := fun x hx => by
   rw [Bool.and_eq_true] at hx
   exact (one_view hx.1).1.1 hk
  split at h
  ·exact absurd h (fun h => this _ h)
  ·split at h
   ·exact absurd h (fun h => this _ h)
   ·cases h
/-- An array of a struct: a kid for each node below. -/
theorem struct_view {ns : List Nd} {a : Arr} {i : Nat} (h : mayA ns a i = true) (hk : kindOf ns i = 4) : a.kids.length = (kids ns i).length ∧
  (∀ j, j < (kids ns i).length → mayA ns (a.kids.getD j Arr.none) ((kids ns i).getD j 0) = true ∧ a.off.toNat + a.len.toNat ≤ (a.kids.getD j Arr.none).len.toNat) ∧
  ∀ r, r < a.len.toNat → (rowA ns a i r = nul ∧ isNull ns i = true) ∨ rowA ns a i r = struct ((List.range (kids ns i).length).map fun j => rowA ns (a.kids.getD j Arr.none) ((kids ns i).getD j 0) (a.off.toNat + r)) := by
 obtain ⟨hm, hi⟩ := may_node h
 obtain ⟨l, f, n, v, e, d, ks⟩ := a
 rw [mayA, Bool.and_eq_true, Bool.and_eq_true] at h
 obtain ⟨⟨_, hbuf⟩, h⟩ := h
 have hbb := buf_bounds hbuf
 by_cases hl : l = 0
 ·rw [if_pos hl, Bool.and_eq_true, Bool.and_eq_true, decide_eq_true_eq] at h
  obtain ⟨hlen, hall, hp⟩ := h
  rw [mayAll_iff ns ks _ hlen] at hall
  unfold plainOk at hp
  simp only [if_neg (show ¬ kindOf ns i = 0 by omega), if_neg (show ¬ kindOf ns i = 1 by omega), if_neg (show ¬ kindOf ns i = 2 by omega), if_neg (show ¬ kindOf ns i = 3 by omega)] at hp
  rw [Bool.and_eq_true, Bool.and_eq_true, List.all_eq_true] at hp
  refine ⟨hlen, fun j hj => ⟨hall j hj, ?_⟩, fun r hr => ?_⟩
  ·have hjl : j < ks.length := by omega
   have := hp.2.2 (ks[j]) (List.getElem_mem hjl)
   rw [decide_eq_true_eq] at this
   show f.toNat + n.toNat ≤ (ks.getD j Arr.none).len.toNat
   rw [List.getD_eq_getElem?_getD, List.getElem?_eq_getElem hjl, Option.getD_some]
   omega
  ·show (textA ns _ i (f.toNat + r) = _ ∧ _) ∨ textA ns _ i (f.toNat + r) = _
   rw [textA]
   simp only [hl, if_neg (by decide : ¬ (0 : Int) = 1), if_neg (by decide : ¬ (0 : Int) = 2), if_neg (show ¬ kindOf ns i = 0 by omega), if_neg (show ¬ kindOf ns i = 1 by omega), if_neg (show ¬ kindOf ns i = 2 by omega), if_neg (show ¬ kindOf ns i = 3 by omega)]
   by_cases ho : on v (f.toNat + r) = false
   ·rw [if_pos ho]; exact .inl ⟨rfl, on_null hbuf ho⟩
   ·rw [if_neg ho, eachA_rows ns ks _ _ hlen]
    exact .inr rfl
 ·rw [if_neg hl] at h
  have : ∀ x, (oneOk ns i e ks && x) = true → False := fun x hx => by
   rw [Bool.and_eq_true] at hx
   exact (one_view hx.1).1.2 hk
  split at h
  ·exact absurd h (fun h => this _ h)
  ·split at h
   ·exact absurd h (fun h => this _ h)
   ·cases h
/-- A plain leaf's row. -/
theorem plain_leaf_fit {ns : List Nd} {a : Arr} {i : Nat} (h : mayA ns a i = true) (hk : kindOf ns i ≤ 2) (hl : a.lay = 0) (r : Nat) (hr : r < a.len.toNat) : Fit ns i (rowA ns a i r) := by
 obtain ⟨hm, hi⟩ := may_node h
 have hkind := may_kind ns hm i hi
 obtain ⟨l, f, n, v, e, d, ks⟩ := a
 simp only [Arr.lay] at hl
 simp only [Arr.len] at hr
 rw [mayA, Bool.and_eq_true, Bool.and_eq_true] at h
 obtain ⟨⟨_, hbuf⟩, h⟩ := h
 have hbb := buf_bounds hbuf
 rw [if_pos hl, Bool.and_eq_true, Bool.and_eq_true] at h
 show Fit ns i (textA ns _ i (f.toNat + r))
 rw [textA]
 simp only [hl, if_neg (by decide : ¬ (0 : Int) = 1), if_neg (by decide : ¬ (0 : Int) = 2)]
 by_cases ho : on v (f.toNat + r) = false
 ·rw [if_pos ho]; exact fit_of hm hi (.null (on_null hbuf ho))
 ·rw [if_neg ho]
  by_cases hk0 : kindOf ns i = 0
  ·rw [if_pos hk0]
   have := int8_range d (f.toNat + r)
   exact fit_of hm hi (.int hk0 _ this.1 this.2)
  rw [if_neg hk0]
  by_cases hk1 : kindOf ns i = 1
  ·rw [if_pos hk1]
   exact fit_of hm hi (.bool hk1 _)
  have hk2 : kindOf ns i = 2 := by omega
  rw [if_neg hk1, if_pos hk2]
  have hp := h.2.2
  unfold plainOk at hp
  simp only [if_neg hk0, if_neg hk1, if_pos hk2] at hp
  have := (ends_view hp).2 (f.toNat + r) (by omega)
  exact fit_of hm hi (.str hk2 _ (by
   rw [List.length_take]
   have := this.2 (by omega)
   omega))
/-- A leaf's row, however it is laid down. -/
theorem leaf_fit {ns : List Nd} {a : Arr} {i : Nat} (h : mayA ns a i = true) (hk : kindOf ns i ≤ 2) (r : Nat) (hr : r < a.len.toNat) : Fit ns i (rowA ns a i r) := by
 obtain ⟨hm, hi⟩ := may_node h
 by_cases hl : a.lay = 0
 ·exact plain_leaf_fit h hk hl r hr
 obtain ⟨l, f, n, v, e, d, ks⟩ := a
 simp only [Arr.lay] at hl
 simp only [Arr.len] at hr
 rw [mayA, Bool.and_eq_true, Bool.and_eq_true] at h
 obtain ⟨⟨_, hbuf⟩, h⟩ := h
 have hbb := buf_bounds hbuf
 rw [if_neg hl] at h
 show Fit ns i (textA ns _ i (f.toNat + r))
 rw [textA]
 by_cases ho : on v (f.toNat + r) = false
 ·rw [if_pos ho]; exact fit_of hm hi (.null (on_null hbuf ho))
 rw [if_neg ho]
 by_cases hl1 : l = 1
 ·rw [if_pos hl1] at h ⊢
  rw [Bool.and_eq_true, Bool.and_eq_true] at h
  obtain ⟨_, b, rfl, hbl⟩ := one_view h.1
  obtain ⟨_, hall, hd⟩ := h
  rw [mayAll, Bool.and_eq_true] at hall
  rw [headA_row]
  refine plain_leaf_fit hall.1 hk hbl _ ?_
  unfold dictOk at hd
  rw [Bool.and_eq_true, Bool.and_eq_true, List.all_eq_true] at hd
  have := hd.2.2 r (List.mem_range.2 hr)
  unfold dictAt at this
  rw [show on v (f.toNat + r) = true by simpa using ho] at this
  simp only [Bool.true_and, Bool.not_eq_true', Bool.or_eq_false_iff, decide_eq_false_iff_not] at this
  have h2 := num4_bounds d (f.toNat + r)
  have e2 : (kid0 [b]).len = b.len := rfl
  rw [e2] at this
  omega
 rw [if_neg hl1] at h ⊢
 by_cases hl2 : l = 2
 ·rw [if_pos hl2] at h ⊢
  rw [Bool.and_eq_true, Bool.and_eq_true] at h
  obtain ⟨_, b, rfl, hbl⟩ := one_view h.1
  obtain ⟨_, hall, hd⟩ := h
  rw [mayAll, Bool.and_eq_true] at hall
  rw [headA_row]
  refine plain_leaf_fit hall.1 hk hbl _ ?_
  have hv : v = [] := by
   unfold runOk at hd
   simp only [Bool.and_eq_true, decide_eq_true_eq] at hd
   exact hd.1
  subst hv
  exact run_lt hd (may_bounds hall.1).2.1 (by omega)
 ·rw [if_neg hl2] at h; cases h

/-! All rows fit. -/
def rowsW (g : Nat → Txt) (m : Nat) : Nat := ((List.range m).map fun r => (g r).length).sum
theorem rowsW_succ (g : Nat → Txt) (m : Nat) : rowsW g (m + 1) = rowsW g m + (g m).length := by
 unfold rowsW
 rw [List.range_succ, List.map_append, List.sum_append]
 simp
theorem rowsW_mono (g : Nat → Txt) : ∀ (m k : Nat), k ≤ m → rowsW g k ≤ rowsW g m
 | 0, k, h => by obtain rfl : k = 0 := by omega
                 exact Nat.le_refl _
 | m + 1, k, h => by
  rcases Nat.lt_or_ge m k with h1 | h1
  ·obtain rfl : k = m + 1 := by omega
   exact Nat.le_refl _
  ·have := rowsW_mono g m k h1
   rw [rowsW_succ]
   omega
theorem rowsW_part (g : Nat → Txt) (a : Nat) : ∀ (m : Nat), (join ((List.range m).map fun j => g (a + j))).length = rowsW g (a + m) - rowsW g a
 | 0 => by simp [join]
 | m + 1 => by
  have h1 := rowsW_part g a m
  have h2 := rowsW_mono g (a + m) a (by omega)
  have e : join ((List.range (m + 1)).map fun j => g (a + j)) = join ((List.range m).map fun j => g (a + j)) ++ g (a + m) := by
   rw [List.range_succ, List.map_append]
   unfold join
   rw [List.flatten_append]
   simp
  rw [e, List.length_append, h1, show a + (m + 1) = (a + m) + 1 by omega, rowsW_succ]
  omega
theorem rowsW_le (g : Nat → Txt) (b : Nat) : ∀ m, (∀ r, r < m → (g r).length ≤ b) → rowsW g m ≤ m * b
 | 0, _ => by simp [rowsW]
 | m + 1, h => by
  have h1 := rowsW_le g b m fun r hr => h r (by omega)
  have h2 := h m (by omega)
  rw [rowsW_succ, Nat.succ_mul]
  omega
theorem join_sum (ps : List Txt) : (join ps).length = (ps.map List.length).sum := (sum_flatten ps).symm

def FitsA (ns : List Nd) (a : Arr) (i : Nat) : Prop := (∀ r, r < a.len.toNat → Fit ns i (rowA ns a i r)) ∧ rowsW (rowA ns a i) a.len.toNat ≤ 2560 * sub ns i
theorem fitsA_leaf {ns : List Nd} {a : Arr} {i : Nat} (h : mayA ns a i = true) (hk : kindOf ns i ≤ 2) : FitsA ns a i := by
 obtain ⟨hm, hi⟩ := may_node h
 have hb := may_bounds h
 refine ⟨fun r hr => leaf_fit h hk r hr, ?_⟩
 have h1 := rowsW_le (rowA ns a i) 38 a.len.toNat fun r hr => leaf_size hk (leaf_fit h hk r hr)
 rw [sub_eq ns hm i hi]
 have h2 : a.len.toNat * 38 ≤ 64 * 38 := Nat.mul_le_mul_right _ (by omega)
 omega
theorem list_length (ps : List Txt) : (list ps).length = (join ps).length + 2 := by simp [list]
theorem struct_length (ps : List Txt) : (struct ps).length = (join ps).length + 2 := by simp [struct]
theorem fitsA_list {ns : List Nd} {a : Arr} {i : Nat} (h : mayA ns a i = true) (hk : kindOf ns i = 3) (ih : ∀ b ∈ a.kids, mayA ns b ((kids ns i).getD 0 0) = true → FitsA ns b ((kids ns i).getD 0 0)) : FitsA ns a i := by
 obtain ⟨hm, hi⟩ := may_node h
 have hb := may_bounds h
 obtain ⟨b, E, hks, hbm, hE1, hE2, hrow⟩ := list_view h hk
 obtain ⟨hf, hw⟩ := ih b (by rw [hks]; simp) hbm
 have hsub := sub_eq ns hm i hi
 rw [kids_one' hm hi hk] at hsub
 simp only [List.map_cons, List.map_nil, List.sum_cons, List.sum_nil] at hsub
 have hs8 := sub_le hm i hi
 generalize hG : rowsW (rowA ns b ((kids ns i).getD 0 0)) = G at hw
 have hlen : ∀ r, r < a.len.toNat → (rowA ns a i r).length ≤ 2 + (G (E (a.off.toNat + r + 1)) - G (E (a.off.toNat + r))) := fun r hr => by
  rcases hrow r hr with ⟨h1, _⟩ | h1
  ·rw [h1]; simp [nul]; omega
  ·have := (hE2 (a.off.toNat + r) (by omega)).1
   rw [h1, list_length, rowsW_part, hG, show E (a.off.toNat + r) + (E (a.off.toNat + r + 1) - E (a.off.toNat + r)) = E (a.off.toNat + r + 1) by omega]
   omega
 have hGm : ∀ x y, x ≤ y → G x ≤ G y := fun x y hxy => by rw [← hG]; exact rowsW_mono _ _ _ hxy
 have hpre : ∀ q, q ≤ a.len.toNat → rowsW (rowA ns a i) q ≤ 2 * q + G (E (a.off.toNat + q)) := by
  intro q
  induction q with
  | zero => intro _; simp [rowsW]
  | succ q ihq =>
   intro hq
   have h1 := ihq (by omega)
   have h2 := hlen q (by omega)
   have h3 := hGm _ _ (hE2 (a.off.toNat + q) (by omega)).1
   rw [rowsW_succ, show a.off.toNat + (q + 1) = a.off.toNat + q + 1 by omega]
   omega
 have hEm : ∀ j, j ≤ a.off.toNat + a.len.toNat → G (E j) ≤ 2560 * sub ns ((kids ns i).getD 0 0) := fun j hj => Nat.le_trans (hGm _ _ (hE1 j hj)) hw
 refine ⟨fun r hr => ?_, ?_⟩
 ·rcases hrow r hr with ⟨h1, h2⟩ | h1
  ·rw [h1]; exact fit_of hm hi (.null h2)
  ·have hl := hlen r hr
   have h3 := hEm (a.off.toNat + r + 1) (by omega)
   have h4 := hE2 (a.off.toNat + r) (by omega)
   have h5 := hE1 (a.off.toNat + r + 1) (by omega)
   rw [h1] at hl ⊢
   refine fit_list hm hi hk _ (by simpa using h4.2) (fun p hp => ?_) (by omega)
   obtain ⟨j, hj, rfl⟩ := List.mem_map.1 hp
   have := List.mem_range.1 hj
   exact hf _ (by omega)
 ·have h1 := hpre _ (Nat.le_refl _)
  have h2 := hEm _ (Nat.le_refl (a.off.toNat + a.len.toNat))
  omega
theorem fitsA_struct {ns : List Nd} {a : Arr} {i : Nat} (h : mayA ns a i = true) (hk : kindOf ns i = 4) (ih : ∀ b ∈ a.kids, ∀ k, mayA ns b k = true → FitsA ns b k) : FitsA ns a i := by
 obtain ⟨hm, hi⟩ := may_node h
 have hb := may_bounds h
 obtain ⟨hlen, hkid, hrow⟩ := struct_view h hk
 have hsub := sub_eq ns hm i hi
 have hs8 := sub_le hm i hi
 have hfits : ∀ j, j < (kids ns i).length → FitsA ns (a.kids.getD j Arr.none) ((kids ns i).getD j 0) := fun j hj => by
  refine ih _ ?_ _ (hkid j hj).1
  rw [List.getD_eq_getElem?_getD, List.getElem?_eq_getElem (show j < a.kids.length by omega)]
  exact List.getElem_mem _
 generalize hg : (fun j => rowA ns (a.kids.getD j Arr.none) ((kids ns (i : Int)).getD j 0)) = g
 have hg' : ∀ j, rowA ns (a.kids.getD j Arr.none) ((kids ns (i : Int)).getD j 0) = g j := fun j => by rw [← hg]
 let H : Nat → Nat := fun m => ((List.range (kids ns i).length).map fun j => rowsW (g j) m).sum
 have hH0 : H 0 = 0 := by
  show ((List.range (kids ns i).length).map fun j => rowsW (g j) 0).sum = 0
  have : ((List.range (kids ns i).length).map fun j => rowsW (g j) 0) = (List.range (kids ns i).length).map fun _ => 0 := List.map_congr_left fun j _ => by simp [rowsW]
  rw [this]
  induction (List.range (kids ns i).length) with
  | nil => rfl
  | cons a l ih => rw [List.map_cons, List.sum_cons, ih]
 have hHs : ∀ m, H (m + 1) = H m + ((List.range (kids ns i).length).map fun j => (g j m).length).sum := fun m => by
  show ((List.range (kids ns i).length).map fun j => rowsW (g j) (m + 1)).sum = _
  rw [← sum_add]
  exact sum_congr fun j _ => rowsW_succ _ _
 have hHm : ∀ (y x : Nat), x ≤ y → H x ≤ H y := by
  intro y
  induction y with
  | zero => intro x hx; obtain rfl : x = 0 := by omega
            exact Nat.le_refl _
  | succ y ihy =>
   intro x hx
   rcases Nat.lt_or_ge y x with h1 | h1
   ·obtain rfl : x = y + 1 := by omega
    exact Nat.le_refl _
   ·have := ihy x h1
    rw [hHs]; omega
 have hlen2 : ∀ r, r < a.len.toNat → (rowA ns a i r).length + H (a.off.toNat + r) ≤ 2 + H (a.off.toNat + r + 1) := fun r hr => by
  rw [hHs]
  rcases hrow r hr with ⟨h1, _⟩ | h1
  ·rw [h1]; simp [nul]; omega
  ·rw [h1, struct_length, join_sum, List.map_map]
   have : ((List.range (kids ns (i : Int)).length).map (List.length ∘ fun j => rowA ns (a.kids.getD j Arr.none) ((kids ns (i : Int)).getD j 0) (a.off.toNat + r))) = (List.range (kids ns (i : Int)).length).map fun j => (g j (a.off.toNat + r)).length := List.map_congr_left fun j _ => by
    show (rowA ns _ _ _).length = _
    rw [hg']
   rw [this]
   omega
 have hpre : ∀ q, q ≤ a.len.toNat → rowsW (rowA ns a i) q ≤ 2 * q + H (a.off.toNat + q) := by
  intro q
  induction q with
  | zero => intro _; simp [rowsW]
  | succ q ihq =>
   intro hq
   have h1 := ihq (by omega)
   have h2 := hlen2 q (by omega)
   rw [rowsW_succ, show a.off.toNat + (q + 1) = a.off.toNat + q + 1 by omega]
   omega
 have hHe : ∀ m, m ≤ a.off.toNat + a.len.toNat → H m ≤ 2560 * ((kids ns (i : Int)).map (sub ns)).sum := fun m hm' => by
  have h1 : ∀ (l : List Nat), (∀ j ∈ l, j < (kids ns (i : Int)).length) → (l.map fun j => rowsW (g j) m).sum ≤ 2560 * (l.map fun j => sub ns ((kids ns (i : Int)).getD j 0)).sum := by
   intro l
   induction l with
   | nil => intro _; simp
   | cons j l ihl =>
    intro hl
    have hj := hl j (by simp)
    have q1 := ihl fun x hx => hl x (by simp [hx])
    have q2 := (hfits j hj).2
    rw [hg'] at q2
    have q3 := rowsW_mono (g j) _ m (Nat.le_trans hm' (hkid j hj).2)
    rw [List.map_cons, List.sum_cons, List.map_cons, List.sum_cons]
    omega
  have h2 := h1 (List.range (kids ns i).length) fun j hj => List.mem_range.1 hj
  have h3 : ((List.range (kids ns (i : Int)).length).map fun j => sub ns ((kids ns (i : Int)).getD j 0)) = (kids ns (i : Int)).map (sub ns) := by
   apply List.ext_getElem (by simp)
   intro j j1 j2
   rw [List.getElem_map, List.getElem_range, List.getElem_map, List.getD_eq_getElem?_getD, List.getElem?_eq_getElem (by simpa using j2)]
   rfl
  rw [h3] at h2
  exact h2
 refine ⟨fun r hr => ?_, ?_⟩
 ·rcases hrow r hr with ⟨h1, h2⟩ | h1
  ·rw [h1]; exact fit_of hm hi (.null h2)
  ·have hl := hlen2 r hr
   have h3 := hHe (a.off.toNat + r + 1) (by omega)
   rw [h1] at hl ⊢
   refine fit_struct hm hi hk _ (by simp) (fun j hj => ?_) (by omega)
   have hj' : j < (kids ns (i : Int)).length := by simpa using hj
   rw [List.getD_eq_getElem?_getD (l := (List.range (kids ns (i : Int)).length).map _), List.getElem?_map, List.getElem?_range hj', Option.map_some, Option.getD_some]
   exact (hfits j hj').1 _ (by have := (hkid j hj').2; omega)
 ·have h1 := hpre _ (Nat.le_refl _)
  have h2 := hHe _ (Nat.le_refl (a.off.toNat + a.len.toNat))
  omega
theorem kid_size (a b : Arr) (h : b ∈ a.kids) : SizeOf.sizeOf b < SizeOf.sizeOf a := by
 obtain ⟨l, f, n, v, e, d, ks⟩ := a
 have := List.sizeOf_lt_of_mem h
 simp only [Arr.kids, Arr.mk.sizeOf_spec] at this ⊢
 omega
theorem fitsA {ns : List Nd} : ∀ (N : Nat) (a : Arr) (i : Nat), SizeOf.sizeOf a < N → mayA ns a i = true → FitsA ns a i := by
 intro N
 induction N with
 | zero => intro a i h; omega
 | succ N ih =>
  intro a i hN h
  obtain ⟨hm, hi⟩ := may_node h
  have hkind := may_kind ns hm i hi
  have hkid : ∀ b ∈ a.kids, ∀ k, mayA ns b k = true → FitsA ns b k := fun b hb k hk => ih b k (by have := kid_size a b hb; omega) hk
  by_cases hk2 : kindOf ns i ≤ 2
  ·exact fitsA_leaf h hk2
  by_cases hk3 : kindOf ns i = 3
  ·exact fitsA_list h hk3 fun b hb => hkid b hb _
  ·exact fitsA_struct h (by omega) hkid
theorem vals_fit {ns : List Nd} {a : Arr} {i : Nat} (h : mayA ns a i = true) : ∀ v ∈ valsA ns a i, Fit ns i v := fun v hv => by
 unfold valsA at hv
 obtain ⟨r, hr, rfl⟩ := List.mem_map.1 hv
 exact (fitsA _ a i (Nat.lt_succ_self _) h).1 r (List.mem_range.1 hr)

/-! Room: of fewer values, or of zeros instead, an array can be built if it can be of all. -/
inductive Less (z : Txt) : List Txt → List Txt → Prop where
 | nil : Less z [] []
 | keep (v : Txt) {ws vs : List Txt} : Less z ws vs → Less z (v :: ws) (v :: vs)
 | drop (v : Txt) {ws vs : List Txt} : Less z ws vs → Less z ws (v :: vs)
 | zero (v : Txt) {ws vs : List Txt} : Less z ws vs → Less z (z :: ws) (v :: vs)
theorem Less.refl (z : Txt) : ∀ vs, Less z vs vs
 | [] => .nil
 | v :: vs => .keep v (Less.refl z vs)
theorem Less.length {z : Txt} {ws vs : List Txt} (h : Less z ws vs) : ws.length ≤ vs.length := by
 induction h with
 | nil => exact Nat.le_refl _
 | keep v _ ih => simpa using ih
 | drop v _ ih => rw [List.length_cons]; omega
 | zero v _ ih => simpa using ih
theorem Less.front {z : Txt} {ws vs : List Txt} (ps : List Txt) (h : Less z ws vs) : Less z (ps ++ ws) (ps ++ vs) := by
 induction ps with
 | nil => exact h
 | cons p ps ih => exact .keep p ih
theorem Less.behind {z : Txt} {ws vs : List Txt} (ps : List Txt) (h : Less z ws vs) : Less z ws (ps ++ vs) := by
 induction ps with
 | nil => exact h
 | cons p ps ih => exact .drop p ih
theorem Less.append {z : Txt} {a b c d : List Txt} (h : Less z a b) (k : Less z c d) : Less z (a ++ c) (b ++ d) := by
 induction h with
 | nil => exact k
 | keep v _ ih => exact .keep v ih
 | drop v _ ih => exact .drop v ih
 | zero v _ ih => exact .zero v ih
theorem seqO_some {α : Type} (l : List (Option α)) : (seqO l).isSome = true ↔ ∀ x ∈ l, x.isSome = true := by
 induction l with
 | nil => simp [seqO]
 | cons a l ih =>
  cases a with
  | none => simp [seqO]
  | some a => simp [seqO, ih]
theorem partOr_zero_list {ns : List Nd} (h : may ns = true) {i : Nat} (hi : i < ns.length) (hk : kindOf ns i = 3) : partOr [] (zero ns i) = [] := by
 rw [zero_eq ns h i hi]
 by_cases h0 : isNull ns i = true
 ·rw [if_pos h0, partOr_nul]
 ·rw [if_neg h0]
  simp only [if_neg (show ¬ kindOf ns i = 0 by omega), if_neg (show ¬ kindOf ns i = 1 by omega), if_neg (show ¬ kindOf ns i = 2 by omega), if_pos hk]
  exact partOr_list [] [] (by simp [list, join]) (by simp)
theorem partOr_zero_struct {ns : List Nd} (h : may ns = true) {i : Nat} (hi : i < ns.length) (hk : kindOf ns i = 4) : partOr ((kids ns i).map (zero ns)) (zero ns i) = (kids ns i).map (zero ns) := by
 have hz := (zero_fit h _ i hi (Nat.le_refl _)).1
 have hq : zero ns i = nul ∨ zero ns i = struct ((kids ns i).map (zero ns)) := by
  rw [zero_eq ns h i hi]
  by_cases h0 : isNull ns i = true
  ·rw [if_pos h0]; exact .inl rfl
  ·rw [if_neg h0]
   simp only [if_neg (show ¬ kindOf ns i = 0 by omega), if_neg (show ¬ kindOf ns i = 1 by omega), if_neg (show ¬ kindOf ns i = 2 by omega), if_neg (show ¬ kindOf ns i = 3 by omega)]
   exact .inr trivial
 rcases hq with hq | hq
 ·rw [hq, partOr_nul]
 ·rw [hq] at hz ⊢
  refine partOr_struct _ _ (fit_len hz) fun p hp => ?_
  obtain ⟨k, hk', rfl⟩ := List.mem_map.1 hp
  exact fit_is4 h hk' (zero_fit h _ k (kids_gt ns h i k hk').2 (Nat.le_refl _)).1
theorem less_flat {ns : List Nd} (h : may ns = true) {i : Nat} (hi : i < ns.length) (hk : kindOf ns i = 3) {z : Txt} {ws vs : List Txt} (hl : Less (zero ns i) ws vs) : Less z (pts [] ws).flatten (pts [] vs).flatten := by
 induction hl with
 | nil => exact .nil
 | keep v _ ih => exact Less.front _ ih
 | drop v _ ih => exact Less.behind _ ih
 | zero v _ ih =>
  show Less z (partOr [] (zero ns i) ++ _) _
  rw [partOr_zero_list h hi hk]
  exact Less.behind _ ih
theorem less_col {ns : List Nd} (h : may ns = true) {i : Nat} (hi : i < ns.length) (hk : kindOf ns i = 4) {j : Nat} (hj : j < (kids ns i).length) {ws vs : List Txt} (hl : Less (zero ns i) ws vs) :
  Less (zero ns ((kids ns i).getD j 0)) (col (pts ((kids ns i).map (zero ns)) ws) j) (col (pts ((kids ns i).map (zero ns)) vs) j) := by
 induction hl with
 | nil => exact .nil
 | keep v _ ih => exact .keep _ ih
 | drop v _ ih => exact .drop _ ih
 | zero v _ ih =>
  have e : (partOr ((kids ns (i : Int)).map (zero ns)) (zero ns i)).getD j [] = zero ns ((kids ns (i : Int)).getD j 0) := by
   rw [partOr_zero_struct h hi hk, List.getD_eq_getElem?_getD, List.getElem?_map, List.getElem?_eq_getElem hj, List.getD_eq_getElem?_getD, List.getElem?_eq_getElem hj]
   rfl
  show Less _ ((partOr ((kids ns (i : Int)).map (zero ns)) (zero ns i)).getD j [] :: _) _
  rw [e]
  exact .zero _ ih
theorem room_less {ns : List Nd} (h : may ns = true) : ∀ (n i : Nat) (ws vs : List Txt), i < ns.length → ns.length - i ≤ n → Less (zero ns i) ws vs → (build ns i vs).isSome = true → (build ns i ws).isSome = true := by
 intro n
 induction n with
 | zero => intro i ws vs hi h1; omega
 | succ n ih =>
  intro i ws vs hi h1 hl hb
  have hll := hl.length
  have hkind := may_kind ns h i hi
  rw [build_eq ns h i hi] at hb ⊢
  by_cases h64 : 64 < vs.length
  ·rw [if_pos h64] at hb; cases hb
  rw [if_neg h64] at hb
  rw [if_neg (by omega)]
  by_cases hk0 : kindOf ns i = 0
  ·rw [if_pos hk0]; rfl
  rw [if_neg hk0] at hb ⊢
  by_cases hk1 : kindOf ns i = 1
  ·rw [if_pos hk1]; rfl
  rw [if_neg hk1] at hb ⊢
  by_cases hk2 : kindOf ns i = 2
  ·rw [if_pos hk2]; rfl
  rw [if_neg hk2] at hb ⊢
  by_cases hk3 : kindOf ns i = 3
  ·rw [if_pos hk3, Option.isSome_map] at hb ⊢
   obtain ⟨h2, h3⟩ := kid_one_lt h hi hk3
   exact ih _ _ _ h3 (by omega) (less_flat h hi hk3 hl) hb
  rw [if_neg hk3, Option.isSome_map, seqO_some] at hb ⊢
  intro x hx
  obtain ⟨j, hj, rfl⟩ := List.mem_map.1 hx
  rw [List.mem_range] at hj
  obtain ⟨h2, h3⟩ := kid_lt h hj
  exact ih _ _ _ h3 (by omega) (less_col h hi (by omega) hj hl) (hb _ (List.mem_map.2 ⟨j, List.mem_range.2 hj, rfl⟩))
/-- Rows of a part of a range. -/
theorem range_sub (g : Nat → Txt) (a m n : Nat) (h : a + m ≤ n) : List.Sublist ((List.range m).map fun j => g (a + j)) ((List.range n).map g) := by
 have e : (List.range m).map (fun j => g (a + j)) = (((List.range n).map g).drop a).take m := by
  apply List.ext_getElem
  ·simp; omega
  ·intro j h1 h2
   rw [List.getElem_map, List.getElem_range, List.getElem_take, List.getElem_drop, List.getElem_map, List.getElem_range]
 rw [e]
 exact (List.take_sublist _ _).trans (List.drop_sublist _ _)
theorem flat_rows (g : Nat → Txt) (E : Nat → Nat) (f : Nat) (rows : Nat → List Txt) (z : Txt) : ∀ q, (∀ r, r < q → E (f + r) ≤ E (f + r + 1) ∧ (rows r = [] ∨ rows r = (List.range (E (f + r + 1) - E (f + r))).map fun j => g (E (f + r) + j))) →
  Less z ((List.range q).map rows).flatten ((List.range (E (f + q) - E f)).map fun j => g (E f + j)) ∧ E f ≤ E (f + q)
 | 0, _ => ⟨by simp only [List.range_zero, List.map_nil, List.flatten_nil, Nat.add_zero, Nat.sub_self]; exact .nil, Nat.le_refl _⟩
 | q + 1, h => by
  obtain ⟨h1, h2⟩ := flat_rows g E f rows z q fun r hr => h r (by omega)
  obtain ⟨h3, h4⟩ := h q (by omega)
  refine ⟨?_, by rw [show f + (q + 1) = f + q + 1 by omega]; omega⟩
  have e1 : ((List.range (q + 1)).map rows).flatten = ((List.range q).map rows).flatten ++ rows q := by rw [List.range_succ, List.map_append, List.flatten_append]; simp
  have e2 : (List.range (E (f + (q + 1)) - E f)).map (fun j => g (E f + j)) = (List.range (E (f + q) - E f)).map (fun j => g (E f + j)) ++ (List.range (E (f + q + 1) - E (f + q))).map fun j => g (E (f + q) + j) := by
   rw [show f + (q + 1) = f + q + 1 by omega, show E (f + q + 1) - E f = (E (f + q) - E f) + (E (f + q + 1) - E (f + q)) by omega, List.range_add, List.map_append, List.map_map]
   congr 1
   refine List.map_congr_left fun j _ => ?_
   show g (E f + (E (f + q) - E f + j)) = _
   rw [show E f + (E (f + q) - E f + j) = E (f + q) + j by omega]
  rw [e1, e2]
  refine Less.append h1 ?_
  rcases h4 with h4 | h4
  ·rw [h4]
   have := Less.behind (z := z) ((List.range (E (f + q + 1) - E (f + q))).map fun j => g (E (f + q) + j)) Less.nil
   rwa [List.append_nil] at this
  ·rw [h4]; exact Less.refl z _
theorem less_map (z : Txt) (F G : Nat → Txt) (l : List Nat) (h : ∀ r ∈ l, F r = G r ∨ F r = z) : Less z (l.map F) (l.map G) := by
 induction l with
 | nil => exact .nil
 | cons a l ih =>
  have h2 := ih fun r hr => h r (by simp [hr])
  rw [List.map_cons, List.map_cons]
  rcases h a (by simp) with h1 | h1
  ·rw [h1]; exact .keep _ h2
  ·rw [h1]; exact .zero _ h2
theorem Less.trans_sub {z : Txt} {a b c : List Txt} (h : Less z a b) (k : List.Sublist b c) : Less z a c := by
 induction k generalizing a with
 | slnil => exact h
 | cons x _ ih => exact .drop x (ih h)
 | cons_cons x _ ih =>
  cases h with
  | keep _ h => exact .keep x (ih h)
  | drop _ h => exact .drop x (ih h)
  | zero _ h => exact .zero x (ih h)
theorem vals_length {ns : List Nd} {a : Arr} {i : Nat} : (valsA ns a i).length = a.len.toNat := by simp [valsA]
/-- There is room for the rows of an array that may be. -/
theorem vals_room {ns : List Nd} : ∀ (N : Nat) (a : Arr) (i : Nat), SizeOf.sizeOf a < N → mayA ns a i = true → (build ns i (valsA ns a i)).isSome = true := by
 intro N
 induction N with
 | zero => intro a i h; omega
 | succ N ih =>
  intro a i hN h
  obtain ⟨hm, hi⟩ := may_node h
  have hkind := may_kind ns hm i hi
  have hb := may_bounds h
  have hvl : (valsA ns a i).length ≤ 64 := by rw [vals_length]; omega
  have hkid : ∀ b ∈ a.kids, ∀ k, mayA ns b k = true → (build ns k (valsA ns b k)).isSome = true := fun b hb k hk => ih b k (by have := kid_size a b hb; omega) hk
  have hfit := vals_fit h
  have hfa : ∀ (b : Arr) (k : Nat), mayA ns b k = true → ∀ r, r < b.len.toNat → Fit ns k (rowA ns b k r) := fun b k hk => (fitsA _ b k (Nat.lt_succ_self _) hk).1
  rw [build_eq ns hm i hi, if_neg (by omega)]
  by_cases hk0 : kindOf ns i = 0
  ·rw [if_pos hk0]; rfl
  rw [if_neg hk0]
  by_cases hk1 : kindOf ns i = 1
  ·rw [if_pos hk1]; rfl
  rw [if_neg hk1]
  by_cases hk2 : kindOf ns i = 2
  ·rw [if_pos hk2]; rfl
  rw [if_neg hk2]
  by_cases hk3 : kindOf ns i = 3
  ·rw [if_pos hk3, Option.isSome_map]
   obtain ⟨h2, h3⟩ := kid_one_lt hm hi hk3
   obtain ⟨b, E, hks, hbm, hE1, hE2, hrow⟩ := list_view h hk3
   have hroom := hkid b (by rw [hks]; simp) _ hbm
   have hrows : ∀ r, r < a.len.toNat → E (a.off.toNat + r) ≤ E (a.off.toNat + r + 1) ∧ (partOr [] (rowA ns a i r) = [] ∨ partOr [] (rowA ns a i r) = (List.range (E (a.off.toNat + r + 1) - E (a.off.toNat + r))).map fun j => rowA ns b ((kids ns i).getD 0 0) (E (a.off.toNat + r) + j)) := fun r hr => by
    refine ⟨(hE2 _ (by omega)).1, ?_⟩
    have hf := hfit (rowA ns a i r) (by unfold valsA; exact List.mem_map.2 ⟨r, List.mem_range.2 hr, rfl⟩)
    rcases hrow r hr with ⟨h1, _⟩ | h1
    ·exact .inl (by rw [h1, partOr_nul])
    ·rw [h1] at hf ⊢
     refine .inr (partOr_list _ _ (fit_len hf) fun p hp => ?_)
     obtain ⟨t, ht, rfl⟩ := List.mem_map.1 hp
     have ht' := List.mem_range.1 ht
     have hEb := hE1 (a.off.toNat + r + 1) (by omega)
     exact fit_is4 hm (kid0_mem (by rw [kids_one' hm hi hk3]; simp)) (hfa b _ hbm _ (by omega))
   obtain ⟨hless, _⟩ := flat_rows (rowA ns b ((kids ns i).getD 0 0)) E a.off.toNat (fun r => partOr [] (rowA ns a i r)) (zero ns ((kids ns i).getD 0 0)) a.len.toNat hrows
   have e : (pts [] (valsA ns a i)).flatten = ((List.range a.len.toNat).map fun r => partOr [] (rowA ns a i r)).flatten := by
    unfold pts valsA
    rw [List.map_map]; rfl
   rw [e]
   refine room_less hm _ _ _ _ h3 (Nat.le_refl _) (hless.trans_sub ?_) hroom
   exact range_sub _ _ _ _ (by have := hE1 _ (Nat.le_refl (a.off.toNat + a.len.toNat)); omega)
  rw [if_neg hk3, Option.isSome_map, seqO_some]
  have hk4 : kindOf ns i = 4 := by omega
  intro x hx
  obtain ⟨j, hj, rfl⟩ := List.mem_map.1 hx
  rw [List.mem_range] at hj
  obtain ⟨h2, h3⟩ := kid_lt hm hj
  obtain ⟨hlen, hkids, hrow⟩ := struct_view h hk4
  have hmem : a.kids.getD j Arr.none ∈ a.kids := by
   rw [List.getD_eq_getElem?_getD, List.getElem?_eq_getElem (show j < a.kids.length by omega)]
   exact List.getElem_mem _
  have hroom := hkid _ hmem _ (hkids j hj).1
  have e : col (pts ((kids ns i).map (zero ns)) (valsA ns a i)) j = (List.range a.len.toNat).map fun r => (partOr ((kids ns i).map (zero ns)) (rowA ns a i r)).getD j [] := by
   unfold col pts valsA
   rw [List.map_map, List.map_map]; rfl
  rw [e]
  have hless : Less (zero ns ((kids ns i).getD j 0)) ((List.range a.len.toNat).map fun r => (partOr ((kids ns i).map (zero ns)) (rowA ns a i r)).getD j []) ((List.range a.len.toNat).map fun r => rowA ns (a.kids.getD j Arr.none) ((kids ns i).getD j 0) (a.off.toNat + r)) := by
   refine less_map _ _ _ _ fun r hr => ?_
   rw [List.mem_range] at hr
   have hf := hfit (rowA ns a i r) (by unfold valsA; exact List.mem_map.2 ⟨r, List.mem_range.2 hr, rfl⟩)
   rcases hrow r hr with ⟨h1, _⟩ | h1
   ·refine .inr ?_
    rw [h1, partOr_nul, List.getD_eq_getElem?_getD, List.getElem?_map, List.getElem?_eq_getElem hj, List.getD_eq_getElem?_getD, List.getElem?_eq_getElem hj]
    rfl
   ·refine .inl ?_
    rw [h1] at hf ⊢
    rw [partOr_struct _ _ (fit_len hf) fun p hp => ?_, List.getD_eq_getElem?_getD, List.getElem?_map, List.getElem?_range hj]
    ·rfl
    ·obtain ⟨t, ht, rfl⟩ := List.mem_map.1 hp
     have ht' := List.mem_range.1 ht
     exact fit_is4 hm (kid0_mem ht') (hfa _ _ (hkids t ht').1 _ (by have := (hkids t ht').2; omega))
  refine room_less hm _ _ _ _ h3 (Nat.le_refl _) (hless.trans_sub ?_) hroom
  exact range_sub _ _ _ _ (hkids j hj).2
theorem vals_built {ns : List Nd} {a : Arr} {i : Nat} (h : mayA ns a i = true) : ∃ b, build ns i (valsA ns a i) = some b :=
 Option.isSome_iff_exists.1 (vals_room _ a i (Nat.lt_succ_self _) h)
end Vp
end Go.Proofs.YtobhjlchpnpleaaGreatDoor

/- What Concat, Take, Plain, Slice answer, in plain Lean, and how they go together. No program. -/
namespace Go.Proofs.YtobhjlchpnpleaaGreatDoor
set_option linter.unusedVariables false
set_option linter.unusedSimpArgs false
namespace Vp
open Tp

/-- May an array of a node be? -/
def may2 (ns : List Nd) (a : Arr) (x : Int) : Bool := node ns x && mayA ns a x.toNat
/-- An array of values, or an error of one's own. -/
def fulR (ns : List Nd) (x : Int) (vs : List Txt) (full : Int) : Arr × Int := if (buildR ns x vs).2 = 0 then ((buildR ns x vs).1, 0) else (Arr.none, full)
def concR (ns : List Nd) (x : Int) (a b : Arr) : Arr × Int :=
 if may2 ns a x && may2 ns b x then fulR ns x (valsA ns a x.toNat ++ valsA ns b x.toNat) 1201 else (Arr.none, 1200)
def inRows (n : Nat) (r : Int) : Bool := decide (0 ≤ r ∧ r < n)
def pick (vs : List Txt) (rows : List Int) : List Txt := rows.map fun r => vs.getD r.toNat []
def takeR (ns : List Nd) (x : Int) (a : Arr) (rows : List Int) : Arr × Int :=
 if may2 ns a x then (if rows.all (inRows (valsA ns a x.toNat).length) then fulR ns x (pick (valsA ns a x.toNat) rows) 1302 else (Arr.none, 1301)) else (Arr.none, 1300)
def plainR (ns : List Nd) (x : Int) (a : Arr) : Arr × Int := if may2 ns a x then fulR ns x (valsA ns a x.toNat) 1800 else (Arr.none, 1800)
def sliceA (a : Arr) (from_ count : Int) : Arr := .mk a.lay (a.off + from_) count a.valid a.ends a.data a.kids
def sliceR (ns : List Nd) (x : Int) (a : Arr) (from_ count : Int) : Arr × Int :=
 if may2 ns a x then (if 0 ≤ from_ ∧ 0 ≤ count ∧ from_ ≤ a.len ∧ count ≤ a.len - from_ then (sliceA a from_ count, 0) else (Arr.none, 1101)) else (Arr.none, 1100)

theorem may2_iff {ns : List Nd} {a : Arr} {x : Int} (h : may2 ns a x = true) : ∃ i : Nat, x = (i : Int) ∧ may ns = true ∧ i < ns.length ∧ mayA ns a i = true := by
 unfold may2 at h
 rw [Bool.and_eq_true] at h
 have h0 : 0 ≤ x := by
  have := h.1
  unfold node at this
  rw [Bool.and_eq_true, decide_eq_true_eq] at this
  exact this.2.1
 obtain ⟨i, rfl⟩ := Int.eq_ofNat_of_zero_le h0
 have g := (node_of ns i).1 h.1
 rw [Int.toNat_natCast] at h
 exact ⟨i, rfl, g.1, g.2, h.2⟩
theorem may2_nat {ns : List Nd} {a : Arr} {i : Nat} (h : mayA ns a i = true) : may2 ns a (i : Int) = true := by
 unfold may2
 rw [Int.toNat_natCast, h, (node_of ns i).2 (may_node h)]
 rfl
theorem buildR_fit {ns : List Nd} (hm : may ns = true) {i : Nat} (hi : i < ns.length) {vs : List Txt} (hf : ∀ v ∈ vs, Fit ns i v) :
  buildR ns (i : Int) vs = match build ns i vs with | none => (Arr.none, 1001) | some a => (a, 0) := by
 unfold buildR
 rw [(node_of ns i).2 ⟨hm, hi⟩, (fitAll_iff ns i vs).2 hf, Int.toNat_natCast]
 rfl
theorem fulR_fit {ns : List Nd} (hm : may ns = true) {i : Nat} (hi : i < ns.length) {vs : List Txt} (hf : ∀ v ∈ vs, Fit ns i v) (full : Int) :
  fulR ns (i : Int) vs full = match build ns i vs with | none => (Arr.none, full) | some a => (a, 0) := by
 unfold fulR
 rw [buildR_fit hm hi hf]
 cases build ns i vs with
 | none => rfl
 | some a => rfl
/-- What is made of values that fit: there it stands, and reads as they are. -/
theorem fulR_ok {ns : List Nd} (hm : may ns = true) {i : Nat} (hi : i < ns.length) {vs : List Txt} (hf : ∀ v ∈ vs, Fit ns i v) {full : Int} (hfull : full ≠ 0) (h : (fulR ns (i : Int) vs full).2 = 0) :
  mayA ns (fulR ns (i : Int) vs full).1 i = true ∧ valsA ns (fulR ns (i : Int) vs full).1 i = vs ∧ (fulR ns (i : Int) vs full).1.len = vs.length ∧ build ns i vs = some (fulR ns (i : Int) vs full).1 := by
 rw [fulR_fit hm hi hf] at h ⊢
 cases hb : build ns i vs with
 | none => rw [hb] at h; exact absurd h hfull
 | some a =>
  have g := build_vals hm hi hf hb
  exact ⟨g.1, g.2.1, g.2.2.1, rfl⟩
theorem fulR_none (ns : List Nd) (x : Int) (vs : List Txt) (full : Int) (h : (fulR ns x vs full).2 ≠ 0) : (fulR ns x vs full).1 = Arr.none := by
 unfold fulR at h ⊢
 split
 ·rename_i g
  rw [if_pos g] at h
  exact absurd rfl h
 ·rfl
theorem concR_none (ns : List Nd) (x : Int) (a b : Arr) (h : (concR ns x a b).2 ≠ 0) : (concR ns x a b).1 = Arr.none := by
 unfold concR at h ⊢
 split
 ·rename_i g
  rw [if_pos g] at h
  exact fulR_none _ _ _ _ h
 ·rfl
theorem takeR_none (ns : List Nd) (x : Int) (a : Arr) (rows : List Int) (h : (takeR ns x a rows).2 ≠ 0) : (takeR ns x a rows).1 = Arr.none := by
 unfold takeR at h ⊢
 split
 ·rename_i g
  rw [if_pos g] at h
  split
  ·rename_i k
   rw [if_pos k] at h
   exact fulR_none _ _ _ _ h
  ·rfl
 ·rfl
/-- What Concat answers, where it answers. -/
theorem concR_ok {ns : List Nd} {x : Int} {a b : Arr} (h : (concR ns x a b).2 = 0) :
  may2 ns a x = true ∧ may2 ns b x = true ∧ may2 ns (concR ns x a b).1 x = true ∧ valsA ns (concR ns x a b).1 x.toNat = valsA ns a x.toNat ++ valsA ns b x.toNat ∧
  (concR ns x a b).1.len = a.len + b.len ∧ build ns x.toNat (valsA ns a x.toNat ++ valsA ns b x.toNat) = some (concR ns x a b).1 := by
 unfold concR at h ⊢
 cases ha : may2 ns a x with
 | false => rw [ha] at h; exact absurd (show (1200 : Int) = 0 from h) (by decide)
 | true =>
  cases hb : may2 ns b x with
  | false => rw [ha, hb] at h; exact absurd (show (1200 : Int) = 0 from h) (by decide)
  | true =>
   rw [ha, hb] at h
   obtain ⟨i, rfl, hm, hi, hma⟩ := may2_iff ha
   obtain ⟨i', he, _, _, hmb⟩ := may2_iff hb
   have he' : i' = i := by omega
   subst he'
   have hf : ∀ v ∈ valsA ns a i' ++ valsA ns b i', Fit ns i' v := fun v hv => by
    rcases List.mem_append.1 hv with hv | hv
    ·exact vals_fit hma v hv
    ·exact vals_fit hmb v hv
   simp only [Bool.and_true, if_true, Int.toNat_natCast] at h ⊢
   obtain ⟨g1, g2, g3, g4⟩ := fulR_ok hm hi hf (by decide) h
   refine ⟨trivial, trivial, may2_nat g1, g2, ?_, g4⟩
   have ba := may_bounds hma
   have bb := may_bounds hmb
   rw [g3, List.length_append, vals_length, vals_length]
   omega
/-- Concat of two that may be. -/
theorem concR_eq {ns : List Nd} {i : Nat} {a b : Arr} (ha : mayA ns a i = true) (hb : mayA ns b i = true) :
  concR ns (i : Int) a b = match build ns i (valsA ns a i ++ valsA ns b i) with | none => (Arr.none, 1201) | some c => (c, 0) := by
 unfold concR
 rw [may2_nat ha, may2_nat hb, Bool.and_true, if_pos rfl, Int.toNat_natCast]
 obtain ⟨hm, hi⟩ := may_node ha
 exact fulR_fit hm hi (fun v hv => by
  rcases List.mem_append.1 hv with hv | hv
  ·exact vals_fit ha v hv
  ·exact vals_fit hb v hv) _
theorem build_nil {ns : List Nd} (h : may ns = true) : ∀ (n i : Nat), i < ns.length → ns.length - i ≤ n → (build ns i []).isSome = true := by
 intro n
 induction n with
 | zero => intro i hi h1; omega
 | succ n ih =>
  intro i hi h1
  rw [build_eq ns h i hi, if_neg (by decide)]
  by_cases hk0 : kindOf ns i = 0
  ·rw [if_pos hk0]; rfl
  rw [if_neg hk0]
  by_cases hk1 : kindOf ns i = 1
  ·rw [if_pos hk1]; rfl
  rw [if_neg hk1]
  by_cases hk2 : kindOf ns i = 2
  ·rw [if_pos hk2]; rfl
  rw [if_neg hk2]
  by_cases hk3 : kindOf ns i = 3
  ·rw [if_pos hk3, Option.isSome_map]
   obtain ⟨h2, h3⟩ := kid_one_lt h hi hk3
   exact ih _ h3 (by omega)
  rw [if_neg hk3, Option.isSome_map, seqO_some]
  intro x hx
  obtain ⟨j, hj, rfl⟩ := List.mem_map.1 hx
  rw [List.mem_range] at hj
  obtain ⟨h2, h3⟩ := kid_lt h hj
  exact ih _ h3 (by omega)
/-- An empty array is there, and may be. -/
theorem nil_ok {ns : List Nd} (h : may ns = true) {i : Nat} (hi : i < ns.length) : (buildR ns (i : Int) []).2 = 0 ∧ mayA ns (buildR ns (i : Int) []).1 i = true ∧ valsA ns (buildR ns (i : Int) []).1 i = [] := by
 obtain ⟨b, hb⟩ := Option.isSome_iff_exists.1 (build_nil h _ i hi (Nat.le_refl _))
 have hf : ∀ v ∈ ([] : List Txt), Fit ns i v := fun v hv => by cases hv
 rw [buildR_fit h hi hf, hb]
 have g := build_vals h hi hf hb
 exact ⟨rfl, g.1, g.2.1⟩
/-- With an empty one, either way round, an array is as built. -/
theorem concR_nil {ns : List Nd} {i : Nat} {a z : Arr} (ha : mayA ns a i = true) (hz : mayA ns z i = true) (hv : valsA ns z i = []) :
  ∃ b, concR ns (i : Int) a z = (b, 0) ∧ concR ns (i : Int) z a = (b, 0) := by
 obtain ⟨b, hb⟩ := vals_built ha
 refine ⟨b, ?_, ?_⟩
 ·rw [concR_eq ha hz, hv, List.append_nil, hb]
 ·rw [concR_eq hz ha, hv, List.nil_append, hb]
/-- Three behind one another, whichever two come first. -/
theorem concR_three {ns : List Nd} {x : Int} {a b c : Arr} (h1 : (concR ns x a b).2 = 0) (h2 : (concR ns x b c).2 = 0) (h3 : (concR ns x (concR ns x a b).1 c).2 = 0) (h4 : (concR ns x a (concR ns x b c).1).2 = 0) :
  (concR ns x (concR ns x a b).1 c).1 = (concR ns x a (concR ns x b c).1).1 := by
 have g1 := concR_ok h1
 have g2 := concR_ok h2
 have g3 := concR_ok h3
 have g4 := concR_ok h4
 have e3 := g3.2.2.2.2.2
 have e4 := g4.2.2.2.2.2
 rw [g1.2.2.2.1] at e3
 rw [g2.2.2.2.1] at e4
 rw [List.append_assoc] at e3
 rw [e3] at e4
 exact Option.some.inj e4
theorem plainR_eq {ns : List Nd} {i : Nat} {a : Arr} (h : mayA ns a i = true) : ∃ b, build ns i (valsA ns a i) = some b ∧ plainR ns (i : Int) a = (b, 0) ∧ mayA ns b i = true ∧ valsA ns b i = valsA ns a i := by
 obtain ⟨hm, hi⟩ := may_node h
 obtain ⟨b, hb⟩ := vals_built h
 have g := build_vals hm hi (vals_fit h) hb
 refine ⟨b, hb, ?_, g.1, g.2.1⟩
 unfold plainR
 rw [may2_nat h, if_pos rfl, Int.toNat_natCast, fulR_fit hm hi (vals_fit h), hb]

/-! Slices. -/
theorem textA_slice (ns : List Nd) (l f n f' n' : Int) (v e d : Txt) (ks : List Arr) (i row : Nat) : textA ns (.mk l f n v e d ks) i row = textA ns (.mk l f' n' v e d ks) i row := by
 rw [textA, textA]
theorem endOk_slice {s : Txt} {most : Int} {f f' ap j : Nat} (hf : f ≤ f') (h : endOk s most f ap j = true) : endOk s most f' ap j = true := by
 unfold endOk at h ⊢
 simp only [Bool.and_eq_true, Bool.or_eq_true, decide_eq_true_eq] at h ⊢
 refine ⟨h.1, h.2.1, ?_⟩
 rcases h.2.2 with g | ⟨g1, g2⟩
 ·exact .inl g
 ·refine .inr ⟨g1, ?_⟩
  rcases g2 with g | g
  ·exact .inl (by omega)
  ·exact .inr g
theorem endsOk_slice {s : Txt} {most : Int} {rows rows' f f' ap : Nat} (hr : rows' ≤ rows) (hf : f ≤ f') (h : endsOk s rows most f ap = true) : endsOk s rows' most f' ap = true := by
 unfold endsOk at h ⊢
 rw [List.all_eq_true] at h ⊢
 exact fun j hj => endOk_slice hf (h j (List.mem_range.2 (by have := List.mem_range.1 hj; omega)))
theorem slice_may {ns : List Nd} {a : Arr} {i : Nat} {f' c : Int} (h : mayA ns a i = true) (h0 : 0 ≤ f') (h1 : 0 ≤ c) (h2 : f' + c ≤ a.len) : mayA ns (sliceA a f' c) i = true := by
 obtain ⟨l, f, n, v, e, d, ks⟩ := a
 have hb := may_bounds h
 simp only [Arr.off, Arr.len] at hb h2
 simp only [sliceA, Arr.lay, Arr.off, Arr.valid, Arr.ends, Arr.data, Arr.kids]
 rw [mayA] at h ⊢
 rw [Bool.and_eq_true, Bool.and_eq_true] at h ⊢
 obtain ⟨⟨hn, hbuf⟩, hrest⟩ := h
 refine ⟨⟨hn, ?_⟩, ?_⟩
 ·unfold bufOk at hbuf ⊢
  simp only [Bool.and_eq_true, Bool.or_eq_true, decide_eq_true_eq] at hbuf ⊢
  refine ⟨by omega, ?_⟩
  rcases hbuf.2 with g | g
  ·exact .inl g
  ·exact .inr ⟨g.1, by omega⟩
 ·by_cases l0 : l = 0
  ·rw [if_pos l0] at hrest ⊢
   simp only [Bool.and_eq_true] at hrest ⊢
   refine ⟨hrest.1, hrest.2.1, ?_⟩
   have hp := hrest.2.2
   unfold plainOk at hp ⊢
   by_cases k0 : kindOf ns i = 0
   ·rw [if_pos k0] at hp ⊢
    simp only [Bool.and_eq_true, decide_eq_true_eq] at hp ⊢
    exact ⟨hp.1, by omega⟩
   rw [if_neg k0] at hp ⊢
   by_cases k1 : kindOf ns i = 1
   ·rw [if_pos k1] at hp ⊢
    simp only [Bool.and_eq_true, decide_eq_true_eq] at hp ⊢
    exact ⟨hp.1, by omega⟩
   rw [if_neg k1] at hp ⊢
   by_cases k2 : kindOf ns i = 2
   ·rw [if_pos k2] at hp ⊢
    exact endsOk_slice (by omega) (by omega) hp
   rw [if_neg k2] at hp ⊢
   by_cases k3 : kindOf ns i = 3
   ·rw [if_pos k3] at hp ⊢
    rw [Bool.and_eq_true] at hp ⊢
    exact ⟨hp.1, endsOk_slice (by omega) (Nat.le_refl _) hp.2⟩
   rw [if_neg k3] at hp ⊢
   simp only [Bool.and_eq_true] at hp ⊢
   refine ⟨hp.1, hp.2.1, ?_⟩
   rw [List.all_eq_true] at hp ⊢
   intro k hk
   have := of_decide_eq_true (hp.2.2 k hk)
   exact decide_eq_true (by omega)
  rw [if_neg l0] at hrest ⊢
  by_cases l1 : l = 1
  ·rw [if_pos l1] at hrest ⊢
   simp only [Bool.and_eq_true] at hrest ⊢
   refine ⟨hrest.1, hrest.2.1, ?_⟩
   have hd := hrest.2.2
   unfold dictOk at hd ⊢
   simp only [Bool.and_eq_true, decide_eq_true_eq] at hd ⊢
   refine ⟨hd.1, by omega, ?_⟩
   have hall := hd.2.2
   rw [List.all_eq_true] at hall ⊢
   intro j hj
   have := hall (f'.toNat + j) (List.mem_range.2 (by have := List.mem_range.1 hj; omega))
   rwa [show f.toNat + (f'.toNat + j) = (f + f').toNat + j by omega] at this
  rw [if_neg l1] at hrest ⊢
  by_cases l2 : l = 2
  ·rw [if_pos l2] at hrest ⊢
   simp only [Bool.and_eq_true] at hrest ⊢
   refine ⟨hrest.1, hrest.2.1, ?_⟩
   have hd := hrest.2.2
   unfold runOk at hd ⊢
   simp only [Bool.and_eq_true, decide_eq_true_eq] at hd ⊢
   exact ⟨hd.1, hd.2.1, hd.2.2.1, by have := hd.2.2.2; omega⟩
  rw [if_neg l2] at hrest
  exact absurd hrest (by decide)
theorem slice_vals {ns : List Nd} {a : Arr} {i : Nat} {f' c : Int} (h : mayA ns a i = true) (h0 : 0 ≤ f') (h1 : 0 ≤ c) (h2 : f' + c ≤ a.len) :
  valsA ns (sliceA a f' c) i = ((valsA ns a i).drop f'.toNat).take c.toNat := by
 obtain ⟨l, f, n, v, e, d, ks⟩ := a
 have hb := may_bounds h
 simp only [Arr.off, Arr.len] at hb h2
 unfold valsA
 simp only [sliceA, Arr.lay, Arr.off, Arr.len, Arr.valid, Arr.ends, Arr.data, Arr.kids]
 apply List.ext_getElem
 ·simp only [List.length_map, List.length_range, List.length_take, List.length_drop]; omega
 ·intro j hj1 hj2
  simp only [List.getElem_map, List.getElem_range, List.getElem_take, List.getElem_drop]
  unfold rowA
  simp only [Arr.off]
  rw [textA_slice ns l (f + f') c f n v e d ks, show (f + f').toNat + j = f.toNat + (f'.toNat + j) by omega]

/-! Rows by numbers. -/
theorem pick_mem {vs : List Txt} {rows : List Int} (h : rows.all (inRows vs.length) = true) : ∀ v ∈ pick vs rows, v ∈ vs := by
 intro v hv
 obtain ⟨r, hr, rfl⟩ := List.mem_map.1 hv
 have g : 0 ≤ r ∧ r < vs.length := of_decide_eq_true ((List.all_eq_true.1 h) r hr)
 rw [List.getD_eq_getElem?_getD, List.getElem?_eq_getElem (by omega)]
 exact List.getElem_mem _
theorem pick_length (vs : List Txt) (rows : List Int) : (pick vs rows).length = rows.length := by simp [pick]
theorem takeR_eq {ns : List Nd} {i : Nat} {a : Arr} {rows : List Int} (ha : mayA ns a i = true) (hr : rows.all (inRows (valsA ns a i).length) = true) :
  takeR ns (i : Int) a rows = match build ns i (pick (valsA ns a i) rows) with | none => (Arr.none, 1302) | some c => (c, 0) := by
 unfold takeR
 rw [may2_nat ha, if_pos rfl, Int.toNat_natCast, if_pos hr]
 obtain ⟨hm, hi⟩ := may_node ha
 exact fulR_fit hm hi (fun v hv => vals_fit ha v (pick_mem hr v hv)) _
/-- What Take answers, where it answers. -/
theorem takeR_ok {ns : List Nd} {x : Int} {a : Arr} {rows : List Int} (h : (takeR ns x a rows).2 = 0) :
  may2 ns a x = true ∧ rows.all (inRows (valsA ns a x.toNat).length) = true ∧ may2 ns (takeR ns x a rows).1 x = true ∧ valsA ns (takeR ns x a rows).1 x.toNat = pick (valsA ns a x.toNat) rows ∧
  (takeR ns x a rows).1.len = rows.length := by
 cases ha : may2 ns a x with
 | false => unfold takeR at h; rw [ha] at h; exact absurd (show (1300 : Int) = 0 from h) (by decide)
 | true =>
  cases hr : rows.all (inRows (valsA ns a x.toNat).length) with
  | false => unfold takeR at h; rw [ha, hr] at h; exact absurd (show (1301 : Int) = 0 from h) (by decide)
  | true =>
   obtain ⟨i, rfl, hm, hi, hma⟩ := may2_iff ha
   rw [Int.toNat_natCast] at hr ⊢
   have hf : ∀ v ∈ pick (valsA ns a i) rows, Fit ns i v := fun v hv => vals_fit hma v (pick_mem hr v hv)
   have e : takeR ns (i : Int) a rows = fulR ns (i : Int) (pick (valsA ns a i) rows) 1302 := by
    unfold takeR
    rw [ha, if_pos rfl, Int.toNat_natCast, if_pos hr]
   rw [e] at h ⊢
   obtain ⟨g1, g2, g3, g4⟩ := fulR_ok hm hi hf (by decide) h
   exact ⟨rfl, rfl, may2_nat g1, g2, by rw [g3, pick_length]⟩
/-- Rows of rows are rows. -/
theorem pick_pick (vs : List Txt) (xs ys : List Int) (h : ys.all (inRows xs.length) = true) : pick (pick vs xs) ys = pick vs (ys.map fun k => xs.getD k.toNat 0) := by
 unfold pick
 rw [List.map_map]
 refine List.map_congr_left fun k hk => ?_
 have g : 0 ≤ k ∧ k < xs.length := of_decide_eq_true ((List.all_eq_true.1 h) k hk)
 have hlt : k.toNat < xs.length := by omega
 simp only [Function.comp, List.getD_eq_getElem?_getD, List.getElem?_map, List.getElem?_eq_getElem hlt, Option.map_some, Option.getD_some]
theorem takeR_twice {ns : List Nd} {x : Int} {a : Arr} {xs ys : List Int} (h : (takeR ns x a xs).2 = 0) (hy : ys.all (inRows xs.length) = true) :
  takeR ns x (takeR ns x a xs).1 ys = takeR ns x a (ys.map fun k => xs.getD k.toNat 0) := by
 obtain ⟨h1, h2, h3, h4, h5⟩ := takeR_ok h
 obtain ⟨i, rfl, hm, hi, hma⟩ := may2_iff h1
 obtain ⟨i', he, _, _, hmb⟩ := may2_iff h3
 have he' : i' = i := by omega
 subst he'
 rw [Int.toNat_natCast] at h2 h4
 have hz : (ys.map fun k => xs.getD k.toNat 0).all (inRows (valsA ns a i').length) = true := by
  rw [List.all_eq_true] at h2 hy ⊢
  intro r hr
  obtain ⟨k, hk, rfl⟩ := List.mem_map.1 hr
  have g : 0 ≤ k ∧ k < xs.length := of_decide_eq_true (hy k hk)
  refine h2 _ ?_
  rw [List.getD_eq_getElem?_getD, List.getElem?_eq_getElem (by omega)]
  exact List.getElem_mem _
 have hl : (valsA ns (takeR ns (i' : Int) a xs).1 i').length = xs.length := by rw [h4, pick_length]
 rw [takeR_eq hma hz, takeR_eq hmb (by rw [hl]; exact hy), h4, pick_pick _ _ _ hy]
/-- Rows beside one another. -/
def beside (i k : Nat) : List Int := (List.range k).map fun j => ((i + j : Nat) : Int)
theorem pick_beside (vs : List Txt) (i k : Nat) (h : i + k ≤ vs.length) : pick vs (beside i k) = (vs.drop i).take k := by
 apply List.ext_getElem
 ·simp only [pick, beside, List.length_map, List.length_range, List.length_take, List.length_drop]; omega
 ·intro j hj1 hj2
  have hj : j < k := by simpa [pick, beside] using hj1
  simp only [pick, beside, List.getElem_map, List.getElem_range, List.getElem_take, List.getElem_drop, Int.toNat_natCast]
  rw [List.getD_eq_getElem?_getD, List.getElem?_eq_getElem (by omega)]
  rfl
theorem beside_in (i k n : Nat) (h : i + k ≤ n) : (beside i k).all (inRows n) = true := by
 rw [List.all_eq_true]
 intro r hr
 obtain ⟨j, hj, rfl⟩ := List.mem_map.1 hr
 rw [List.mem_range] at hj
 exact decide_eq_true (by omega)
theorem take_slice {ns : List Nd} {i : Nat} {a : Arr} (ha : mayA ns a i = true) {f k : Nat} (h : (f : Int) + (k : Int) ≤ a.len) :
  (takeR ns (i : Int) a (beside f k)).2 = 0 ∧ plainR ns (i : Int) (sliceA a f k) = takeR ns (i : Int) a (beside f k) := by
 have hs := slice_may ha (f' := (f : Int)) (c := (k : Int)) (by omega) (by omega) h
 have hv := slice_vals ha (f' := (f : Int)) (c := (k : Int)) (by omega) (by omega) h
 obtain ⟨b, hb, hp, _⟩ := plainR_eq hs
 rw [Int.toNat_natCast, Int.toNat_natCast] at hv
 have hl : f + k ≤ (valsA ns a i).length := by rw [vals_length]; omega
 rw [hv, ← pick_beside _ _ _ hl] at hb
 rw [takeR_eq ha (beside_in f k _ hl), hb, hp]
 exact ⟨rfl, rfl⟩
/-- A whole is its two parts, one behind the other. -/
theorem conc_parts {ns : List Nd} {i : Nat} {a : Arr} (ha : mayA ns a i = true) {k : Nat} (h : (k : Int) ≤ a.len) :
  ∃ b, concR ns (i : Int) (sliceA a 0 k) (sliceA a k (a.len - k)) = (b, 0) ∧ plainR ns (i : Int) a = (b, 0) := by
 have hb := may_bounds ha
 have hs := slice_may ha (f' := 0) (c := (k : Int)) (by omega) (by omega) (by omega)
 have hv := slice_vals ha (f' := 0) (c := (k : Int)) (by omega) (by omega) (by omega)
 have hs2 := slice_may ha (f' := (k : Int)) (c := a.len - k) (by omega) (by omega) (by omega)
 have hv2 := slice_vals ha (f' := (k : Int)) (c := a.len - k) (by omega) (by omega) (by omega)
 obtain ⟨b, hb2, hp, _⟩ := plainR_eq ha
 refine ⟨b, ?_, hp⟩
 rw [concR_eq hs hs2, hv, hv2]
 have e : ((valsA ns a i).drop (0 : Int).toNat).take (k : Int).toNat ++ ((valsA ns a i).drop (k : Int).toNat).take (a.len - k).toNat = valsA ns a i := by
  rw [Int.toNat_natCast]
  show ((valsA ns a i).drop 0).take k ++ _ = _
  rw [List.drop_zero, List.take_of_length_le (l := (valsA ns a i).drop k), List.take_append_drop]
  rw [List.length_drop, vals_length]
  omega
 rw [e, hb2]
end Vp
end Go.Proofs.YtobhjlchpnpleaaGreatDoor

/- What the reference's build gathers, row by row; plain Lean. No program. -/
namespace Go.Proofs.YtobhjlchpnpleaaGreatDoor.Vp
set_option linter.unusedVariables false
set_option linter.unusedSimpArgs false
open Tp Go

theorem pts_take (o : List Txt) (vs : List Txt) (k : Nat) (h : k < vs.length) : pts o (vs.take (k + 1)) = pts o (vs.take k) ++ [partOr o vs[k]] := by
 unfold pts
 rw [List.take_succ_eq_append_getElem h, List.map_append]; rfl
theorem pts_takes (o : List Txt) (vs : List Txt) (k : Nat) : (pts o vs).take k = pts o (vs.take k) := by
 unfold pts
 rw [List.map_take]
theorem ints_take (vs : List Txt) (k : Nat) (h : k < vs.length) : ints (pts [[48]] (vs.take (k + 1))) = ints (pts [[48]] (vs.take k)) ++ word (intOfRow (partOr [[48]] vs[k])) 8 := by
 rw [pts_take _ _ _ h]
 unfold ints
 rw [List.flatMap_append]
 simp
theorem truths_eq (ns : List Nd) (i : Nat) (hk : kindOf ns i = 1) (vs : List Txt) (hf : ∀ v ∈ vs, Fit ns i v) : truths (pts [[102]] vs) = vs.map fun v => decide (v = [116]) := by
 unfold truths pts
 rw [List.map_map]
 refine List.map_congr_left fun v hv => ?_
 obtain ⟨b, h1, h2⟩ := row_bool hk (hf v hv)
 show decide ((partOr [[102]] v).getD 0 [] = [116]) = _
 rw [h1]
 rcases h2 with ⟨rfl, rfl⟩ | rfl
 ·decide
 ·cases b <;> decide
/-- Where the first rows begin. -/
def starts (ms : List Nat) (k : Nat) : Txt := (List.range k).flatMap fun j => word (sumTo ms j : Nat) 4
theorem starts_succ (ms : List Nat) (k : Nat) : starts ms (k + 1) = starts ms k ++ word (sumTo ms k : Nat) 4 := by
 unfold starts
 rw [List.range_succ, List.flatMap_append]
 simp
theorem starts_ends (ms : List Nat) : starts ms (ms.length + 1) = ends ms := rfl
theorem starts_length (ms : List Nat) (k : Nat) : (starts ms k).length = 4 * k := by
 induction k with
 | zero => rfl
 | succ k ih => rw [starts_succ, List.length_append, ih, word_length]; omega
theorem sum_list (vs : List Txt) (k : Nat) : sumTo ((pts [] vs).map List.length) k = (pts [] (vs.take k)).flatten.length := by
 unfold sumTo
 rw [← List.map_take, pts_takes, List.length_flatten]
theorem join_append (xs ys : List Txt) : join (xs ++ ys) = join xs ++ join ys := by unfold join; exact List.flatten_append
theorem strs_take (ns : List Nd) (i : Nat) (hk : kindOf ns i = 2) (vs : List Txt) (hf : ∀ v ∈ vs, Fit ns i v) (k : Nat) : sumTo ((pts [[]] vs).map size0) k = (join (pts [[]] (vs.take k)).flatten).length := by
 unfold sumTo
 rw [← List.map_take, pts_takes]
 have hf' : ∀ v ∈ vs.take k, Fit ns i v := fun v hv => hf v (List.mem_of_mem_take hv)
 generalize vs.take k = us at hf'
 induction us with
 | nil => rfl
 | cons u us ih =>
  obtain ⟨s, _, h1, _⟩ := row_str hk (hf' u (List.mem_cons_self ..))
  have := ih fun v hv => hf' v (List.mem_cons_of_mem _ hv)
  unfold pts at this ⊢
  rw [List.map_cons, h1, List.map_cons, List.sum_cons, this, List.flatten_cons, join_append, List.length_append]
  simp [size0, join]
theorem strs_bound (ns : List Nd) (i : Nat) (hk : kindOf ns i = 2) (vs : List Txt) (hf : ∀ v ∈ vs, Fit ns i v) (k : Nat) : (join (pts [[]] (vs.take k)).flatten).length ≤ 16 * k := by
 have hf' : ∀ v ∈ vs.take k, Fit ns i v := fun v hv => hf v (List.mem_of_mem_take hv)
 have hl : (vs.take k).length ≤ k := by rw [List.length_take]; omega
 suffices h : (join (pts [[]] (vs.take k)).flatten).length ≤ 16 * (vs.take k).length by omega
 generalize vs.take k = us at hf'
 induction us with
 | nil => simp [pts, join]
 | cons u us ih =>
  obtain ⟨s, hs, h1, _⟩ := row_str hk (hf' u (List.mem_cons_self ..))
  have := ih fun v hv => hf' v (List.mem_cons_of_mem _ hv)
  unfold pts at this ⊢
  rw [List.map_cons, h1, List.flatten_cons, join_append, List.length_append]
  simp only [join, List.flatten_cons, List.flatten_nil, List.append_nil, List.length_cons]
  simp only [join] at this
  omega
theorem list_bound (ns : List Nd) (i : Nat) (hk : kindOf ns i = 3) (vs : List Txt) (hf : ∀ v ∈ vs, Fit ns i v) (k : Nat) : (pts [] (vs.take k)).flatten.length ≤ 64 * k := by
 have hf' : ∀ v ∈ vs.take k, Fit ns i v := fun v hv => hf v (List.mem_of_mem_take hv)
 have hl : (vs.take k).length ≤ k := by rw [List.length_take]; omega
 suffices h : (pts [] (vs.take k)).flatten.length ≤ 64 * (vs.take k).length by omega
 generalize vs.take k = us at hf'
 induction us with
 | nil => simp [pts]
 | cons u us ih =>
  obtain ⟨h1, _⟩ := row_list hk (hf' u (List.mem_cons_self ..))
  have := ih fun v hv => hf' v (List.mem_cons_of_mem _ hv)
  unfold pts at this ⊢
  rw [List.map_cons, List.flatten_cons, List.length_append, List.length_cons]
  omega
/-- A value's kind and parts, by its node's kind: nothing, or of the node's own. -/
theorem fit_parts {ns : List Nd} {i : Nat} {v : Txt} (h : Fit ns i v) : (parts v).2.2 = 0 ∧ (v = nul ∧ parts v = (-1, [], 0) ∨ v ≠ nul ∧ (parts v).1 = kindOf ns i ∧ 0 ≤ kindOf ns i ∧ kindOf ns i ≤ 4) := by
 cases fit_inv h with
 | null _ => exact ⟨by rw [parts_nul], .inl ⟨rfl, parts_nul⟩⟩
 | int h' x h0 h1 => rw [parts_int x h0 h1, h']; exact ⟨rfl, .inr ⟨ne_nul_int x, rfl, by decide, by decide⟩⟩
 | bool h' b => rw [parts_bool, h']; exact ⟨rfl, .inr ⟨ne_nul_bool b, rfl, by decide, by decide⟩⟩
 | str h' s hs => rw [parts_str s hs, h']; exact ⟨rfl, .inr ⟨ne_nul_str s, rfl, by decide, by decide⟩⟩
 | list h' ps hl hp hv his => rw [parts_list ps hv his, h']; exact ⟨rfl, .inr ⟨ne_nul_list ps, rfl, by decide, by decide⟩⟩
 | struct h' ps hl hp hv his => rw [parts_struct ps hv his, h']; exact ⟨rfl, .inr ⟨ne_nul_struct ps, rfl, by decide, by decide⟩⟩
theorem partOr_there (o : List Txt) {v : Txt} (h : v ≠ nul) : partOr o v = (parts v).2.1 := if_neg h
theorem flat_take (vs : List Txt) (k : Nat) (h : k < vs.length) (o : List Txt) : (pts o (vs.take (k + 1))).flatten = (pts o (vs.take k)).flatten ++ partOr o vs[k] := by
 rw [pts_take _ _ _ h, List.flatten_append]
 simp
theorem valid_eq (vs : List Txt) : valid vs = if (vs.all fun v => decide (v ≠ nul)) = true then [] else Bt.packed (there vs) := by
 unfold valid there
 by_cases h : (vs.all fun v => decide (v ≠ nul)) = true
 ·rw [if_pos h, if_neg]
  rw [List.contains_iff_mem]
  intro hm
  obtain ⟨v, hv, he⟩ := List.mem_map.1 hm
  rw [List.all_eq_true] at h
  rw [h v hv] at he
  cases he
 ·rw [if_neg h, if_pos]
  rw [List.contains_iff_mem]
  rw [Bool.not_eq_true, List.all_eq_false] at h
  obtain ⟨v, hv, he⟩ := h
  exact List.mem_map.2 ⟨v, hv, by simpa using he⟩
end Go.Proofs.YtobhjlchpnpleaaGreatDoor.Vp

/- Arrays of which no part is longer than the model's bounds. -/
namespace Go.Proofs.YtobhjlchpnpleaaGreatDoor
set_option linter.unusedVariables false

mutual
def SizedA : Arr → Prop
 | .mk _ _ _ _ _ _ ks => ks.length * 96 ≤ 140737488351232 ∧ SizedAll ks
def SizedAll : List Arr → Prop
 | [] => True
 | a :: r => SizedA a ∧ SizedAll r
end
theorem SizedAll.mem : ∀ (ks : List Arr), SizedAll ks → ∀ a ∈ ks, SizedA a
 | [], _, a, h => by cases h
 | x :: r, hs, a, h => by
  rw [SizedAll] at hs
  rcases List.mem_cons.1 h with rfl | h
  ·exact hs.1
  ·exact SizedAll.mem r hs.2 a h
theorem sizedAll_of : ∀ (ks : List Arr), (∀ a ∈ ks, SizedA a) → SizedAll ks
 | [], _ => by rw [SizedAll]; trivial
 | x :: r, h => by
  rw [SizedAll]
  exact ⟨h x (List.mem_cons_self), sizedAll_of r fun a ha => h a (List.mem_cons_of_mem _ ha)⟩
end Go.Proofs.YtobhjlchpnpleaaGreatDoor
