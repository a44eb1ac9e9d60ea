/- What is built may be, and its rows are what it was built of; plain Lean. No program. -/
import Derived.Test.YtlllflacnlgigaaDoorArrPure
namespace Go.Proofs.YtlllflacnlgigaaDoor
set_option linter.unusedVariables false
set_option linter.unusedSimpArgs false
open Go

theorem wordB_nat (x : Int) (i : Nat) : ((wordB x i).toNat : Int) = x / 2 ^ (8 * i) % 256 := by
  unfold wordB
  generalize x / 2 ^ (8 * i) = y
  rw [UInt8.toNat_ofNat', Nat.mod_eq_of_lt (by omega)]
  omega
namespace Vp
open Tp

theorem le_cons (c : UInt8) (l : Txt) : le (c :: l) = c.toNat + 256 * le l := rfl
theorem le_word4 (x : Int) (h0 : 0 ≤ x) (h1 : x < 4294967296) : (le (word x 4) : Int) = x := by
  have e : word x 4 = [wordB x 0, wordB x 1, wordB x 2, wordB x 3] := rfl
  rw [e]
  simp only [le_cons, show le [] = 0 from rfl]
  have h0' := wordB_nat x 0
  have h1' := wordB_nat x 1
  have h2' := wordB_nat x 2
  have h3' := wordB_nat x 3
  omega
theorem le_word8 (x : Int) (h0 : -9223372036854775808 ≤ x) (h1 : x ≤ 9223372036854775807) : IntKind.i64.wrap (le (word x 8) : Nat) = x := by
  have e : word x 8 = [wordB x 0, wordB x 1, wordB x 2, wordB x 3, wordB x 4, wordB x 5, wordB x 6, wordB x 7] := rfl
  rw [e]
  simp only [le_cons, show le [] = 0 from rfl]
  have h0' := wordB_nat x 0
  have h1' := wordB_nat x 1
  have h2' := wordB_nat x 2
  have h3' := wordB_nat x 3
  have h4' := wordB_nat x 4
  have h5' := wordB_nat x 5
  have h6' := wordB_nat x 6
  have h7' := wordB_nat x 7
  rw [IntKind.wrap_i64]
  omega

theorem flat_drop {α β : Type} (f : α → List β) (m : Nat) : ∀ (l : List α) (j : Nat) (hj : j < l.length), (∀ a ∈ l, (f a).length = m) → ((l.flatMap f).drop (m * j)).take m = f l[j]
  | [], j, hj, _ => absurd hj (by simp)
  | a :: l, 0, hj, h => by
    rw [List.flatMap_cons, Nat.mul_zero, List.drop_zero, ← h a (by simp), List.take_left]
    rfl
  | a :: l, j + 1, hj, h => by
    have hd : (f a ++ l.flatMap f).drop m = l.flatMap f := by rw [← h a (by simp), List.drop_left]
    rw [List.flatMap_cons, Nat.mul_succ, Nat.add_comm, ← List.drop_drop, hd]
    exact flat_drop f m l j (by simpa using hj) fun b hb => h b (by simp [hb])
theorem flat_length {α β : Type} (f : α → List β) (m : Nat) : ∀ (l : List α), (∀ a ∈ l, (f a).length = m) → (l.flatMap f).length = m * l.length
  | [], _ => by simp
  | a :: l, h => by
    rw [List.flatMap_cons, List.length_append, h a (by simp), flat_length f m l fun b hb => h b (by simp [hb]), List.length_cons, Nat.mul_succ, Nat.add_comm]
theorem sumTo_zero (ms : List Nat) : sumTo ms 0 = 0 := by simp [sumTo]
theorem sumTo_succ (ms : List Nat) (j : Nat) (h : j < ms.length) : sumTo ms (j + 1) = sumTo ms j + ms.getD j 0 := by
  unfold sumTo
  rw [List.take_succ_eq_append_getElem h, List.sum_append, List.getD_eq_getElem?_getD, List.getElem?_eq_getElem h]
  simp
theorem sumTo_all (ms : List Nat) (j : Nat) (h : ms.length ≤ j) : sumTo ms j = ms.sum := by
  unfold sumTo
  rw [List.take_of_length_le h]
theorem sumTo_mono (ms : List Nat) : ∀ (k j : Nat), j ≤ k → sumTo ms j ≤ sumTo ms k
  | 0, j, h => by obtain rfl : j = 0 := by omega
                  exact Nat.le_refl _
  | k + 1, j, h => by
    rcases Nat.lt_or_ge k j with h1 | h1
    · obtain rfl : j = k + 1 := by omega
      exact Nat.le_refl _
    · refine Nat.le_trans (sumTo_mono ms k j h1) ?_
      by_cases hk : k < ms.length
      · rw [sumTo_succ ms k hk]; omega
      · rw [sumTo_all ms k (by omega), sumTo_all ms (k + 1) (by omega)]; exact Nat.le_refl _
theorem sumTo_le (ms : List Nat) (j : Nat) : sumTo ms j ≤ ms.sum := by
  rcases Nat.lt_or_ge j ms.length with h | h
  · rw [← sumTo_all ms ms.length (Nat.le_refl _)]
    exact sumTo_mono ms _ _ (by omega)
  · rw [sumTo_all ms j h]; exact Nat.le_refl _
theorem sum_bound (ms : List Nat) (b : Nat) (h : ∀ m ∈ ms, m ≤ b) : ms.sum ≤ ms.length * b := by
  induction ms with
  | nil => simp
  | cons m ms ih =>
    have h1 := h m (by simp)
    have h2 := ih fun q hq => h q (by simp [hq])
    rw [List.sum_cons, List.length_cons, Nat.succ_mul]
    omega
/-- A part of rows laid one behind the other. -/
theorem flatten_cut {β : Type} : ∀ (xs : List (List β)) (j : Nat) (hj : j < xs.length), ((xs.flatten).drop (sumTo (xs.map List.length) j)).take (xs[j]).length = xs[j]
  | [], j, hj => absurd hj (by simp)
  | x :: xs, 0, hj => by rw [sumTo_zero, List.drop_zero, List.flatten_cons]; exact List.take_left
  | x :: xs, j + 1, hj => by
    have e : sumTo ((x :: xs).map List.length) (j + 1) = x.length + sumTo (xs.map List.length) j := by simp [sumTo]
    rw [e, List.flatten_cons, ← List.drop_drop, List.drop_left]
    exact flatten_cut xs j (by simpa using hj)
theorem sum_flatten {β : Type} (xs : List (List β)) : (xs.map List.length).sum = xs.flatten.length := by
  induction xs with
  | nil => rfl
  | cons x xs ih => rw [List.map_cons, List.sum_cons, ih, List.flatten_cons, List.length_append]
theorem flatten_at {β : Type} (xs : List (List β)) (j t : Nat) (hj : j < xs.length) (ht : t < (xs[j]).length) : xs.flatten[sumTo (xs.map List.length) j + t]? = some (xs[j])[t] := by
  have h := flatten_cut xs j hj
  have h2 : (((xs.flatten).drop (sumTo (xs.map List.length) j)).take (xs[j]).length)[t]? = (xs[j])[t]? := by rw [h]
  rw [List.getElem?_take, if_pos ht, List.getElem?_drop, List.getElem?_eq_getElem ht] at h2
  exact h2

theorem ends_length (ms : List Nat) : (ends ms).length = 4 * (ms.length + 1) := by
  unfold ends endsTo
  rw [flat_length _ 4 _ (fun _ _ => word_length _ _), List.length_range]
theorem num4_ends (ms : List Nat) (j : Nat) (hj : j ≤ ms.length) (hs : ms.sum ≤ 2147483647) : num4 (ends ms) j = (((sumTo ms j : Nat) : Int), true) := by
  have hl := ends_length ms
  have hle := sumTo_le ms j
  have hc : cut4 (ends ms) j = sumTo ms j := by
    unfold cut4 ends endsTo
    rw [flat_drop _ 4 _ j (by rw [List.length_range]; omega) (fun _ _ => word_length _ _), List.getElem_range]
    have := le_word4 (sumTo ms j : Nat) (by omega) (by omega)
    omega
  unfold num4
  rw [hc, if_pos ⟨by omega, by omega⟩]
theorem ends_ok (ms : List Nat) (most : Int) (from_ apart : Nat) (hs : ms.sum ≤ 2147483647) (hm : (ms.sum : Int) ≤ most) (ha : ∀ m ∈ ms, m ≤ apart) : endsOk (ends ms) ms.length most from_ apart = true := by
  unfold endsOk
  rw [List.all_eq_true]
  intro i hi
  rw [List.mem_range] at hi
  have h1 := num4_ends ms i (by omega) hs
  have h2 := sumTo_le ms i
  unfold endOk
  rw [h1]
  simp only [Bool.and_eq_true, Bool.or_eq_true, decide_eq_true_eq, true_and]
  refine ⟨by omega, ?_⟩
  rcases Nat.eq_zero_or_pos i with h0 | h0
  · exact .inl h0
  · refine .inr ?_
    obtain ⟨q, rfl⟩ : ∃ q, i = q + 1 := ⟨i - 1, by omega⟩
    have h3 := num4_ends ms q (by omega) hs
    have h4 := sumTo_succ ms q (by omega)
    have h5 : ms.getD q 0 ≤ apart := by
      rw [List.getD_eq_getElem?_getD, List.getElem?_eq_getElem (show q < ms.length by omega)]
      exact ha _ (List.getElem_mem _)
    rw [Nat.add_sub_cancel, h3]
    simp only
    omega

theorem fit_nul {ns : List Nd} {i : Nat} (h : Fit ns i nul) : isNull ns i = true := by
  generalize hv : nul = v at h
  cases fit_inv h with
  | null h' => exact h'
  | int _ x => exact absurd hv.symm (ne_nul_int x)
  | bool _ b => exact absurd hv.symm (ne_nul_bool b)
  | str _ s => exact absurd hv.symm (ne_nul_str s)
  | list _ ps => exact absurd hv.symm (ne_nul_list ps)
  | struct _ ps => exact absurd hv.symm (ne_nul_struct ps)
theorem packed_length (xs : List Bool) : (Bt.packed xs).length = (xs.length + 7) / 8 := by
  unfold Bt.packed
  rw [Bt.bytesOf_length]
theorem there_at (vs : List Txt) (r : Nat) (h : r < vs.length) : (there vs).getD r false = decide (vs[r] ≠ nul) := by
  unfold there
  rw [List.getD_eq_getElem?_getD, List.getElem?_map, List.getElem?_eq_getElem h]
  rfl
theorem on_valid (vs : List Txt) (r : Nat) (h : r < vs.length) : on (valid vs) r = decide (vs[r] ≠ nul) := by
  unfold on valid
  by_cases hc : (there vs).contains false = true
  · rw [if_pos hc]
    have hne : Bt.packed (there vs) ≠ [] := fun e => by
      have := packed_length (there vs)
      rw [e] at this
      have h2 : (there vs).length = vs.length := by simp [there]
      rw [h2, List.length_nil] at this
      omega
    rw [show decide (Bt.packed (there vs) = []) = false from decide_eq_false hne, Bool.false_or, Bt.packed_bit, there_at vs r h]
  · rw [if_neg hc]
    rw [show decide (([] : Txt) = []) = true from rfl, Bool.true_or, eq_comm, ← there_at vs r h]
    have hl : r < (there vs).length := by simpa [there] using h
    rw [List.getD_eq_getElem?_getD, List.getElem?_eq_getElem hl, Option.getD_some]
    cases hb : (there vs)[r] with
    | true => rfl
    | false =>
      refine absurd ?_ hc
      rw [List.contains_iff_mem, ← hb]
      exact List.getElem_mem hl
theorem valid_length (vs : List Txt) : (valid vs).length ≤ (vs.length + 7) / 8 := by
  unfold valid
  split
  · rw [packed_length]; simp [there]
  · simp
theorem valid_none {ns : List Nd} {i : Nat} (vs : List Txt) (hf : ∀ v ∈ vs, Fit ns i v) : valid vs = [] ∨ (isNull ns i = true ∧ (valid vs).length = (vs.length + 7) / 8) := by
  unfold valid
  by_cases hc : (there vs).contains false = true
  · rw [if_pos hc]
    refine .inr ⟨?_, by rw [packed_length]; simp [there]⟩
    rw [List.contains_iff_mem] at hc
    unfold there at hc
    obtain ⟨v, hv, he⟩ := List.mem_map.1 hc
    have : v = nul := by simpa using he
    subst this
    exact fit_nul (hf _ hv)
  · rw [if_neg hc]
    exact .inl rfl
theorem buf_built {ns : List Nd} {i : Nat} (vs : List Txt) (e d : Txt) (hl : vs.length ≤ 64) (hf : ∀ v ∈ vs, Fit ns i v) (he : e.length ≤ 4096) (hd : d.length ≤ 4096) : bufOk ns i 0 vs.length (valid vs) e d = true := by
  have h1 := valid_length vs
  unfold bufOk
  simp only [Bool.and_eq_true, Bool.or_eq_true, decide_eq_true_eq]
  refine ⟨by omega, ?_⟩
  rcases valid_none vs hf with h | ⟨h, h2⟩
  · exact .inl h
  · exact .inr ⟨h, by rw [h2]; omega⟩

/-- What is built. -/
def Built (ns : List Nd) (i : Nat) (vs : List Txt) (a : Arr) : Prop :=
  mayA ns a i = true ∧ a.lay = 0 ∧ a.off = 0 ∧ a.len = vs.length ∧ ∀ r (h : r < vs.length), rowA ns a i r = vs[r]
theorem pts_length (o : List Txt) (vs : List Txt) : (pts o vs).length = vs.length := by simp [pts]
theorem pts_at (o : List Txt) (vs : List Txt) (r : Nat) (h : r < vs.length) : (pts o vs)[r]'(by rw [pts_length]; exact h) = partOr o vs[r] := by simp [pts]

theorem bool_text (b : Bool) : decide (bool b = [116]) = b := by cases b <;> simp [bool]
theorem row_part {o : List Txt} {vs : List Txt} {r : Nat} (h : r < (pts o vs).length) : (pts o vs)[r] = partOr o (vs[r]'(by simpa [pts] using h)) := by simp [pts]

theorem built_int {ns : List Nd} (h : may ns = true) {i : Nat} (hi : i < ns.length) (hk : kindOf ns i = 0) (vs : List Txt) (hl : vs.length ≤ 64) (hf : ∀ v ∈ vs, Fit ns i v) :
    Built ns i vs (.mk 0 0 vs.length (valid vs) [] (ints (pts [[48]] vs)) []) := by
  have hks : (kids ns (i : Int)).length = 0 := leaf_kids h hi (by omega)
  have hdl : (ints (pts [[48]] vs)).length = 8 * vs.length := by
    unfold ints
    rw [flat_length _ 8 _ (fun _ _ => word_length _ _), pts_length]
  refine ⟨?_, rfl, rfl, rfl, fun r hr => ?_⟩
  · rw [mayA, if_pos rfl, (node_of ns i).2 ⟨h, hi⟩, buf_built vs _ _ hl hf (by simp) (by omega), plainOk, if_pos hk]
    simp [mayAll, hks, hdl]
  · obtain ⟨x, h0, h1, hp, hx⟩ := row_int hk (hf _ (List.getElem_mem hr))
    show textA ns _ i (0 + r) = _
    rw [Nat.zero_add, textA, on_valid vs r hr]
    simp only [if_neg (by decide : ¬ (0 : Int) = 1), if_neg (by decide : ¬ (0 : Int) = 2)]
    simp only [if_pos hk]
    rcases hx with ⟨hn, _⟩ | hx
    · rw [hn]; simp
    · have hne : vs[r] ≠ nul := by rw [hx]; exact ne_nul_int x
      rw [if_neg (by simp [hne]), hx]
      congr 1
      unfold int8 ints
      rw [flat_drop _ 8 _ r (by rw [pts_length]; exact hr) (fun _ _ => word_length _ _), pts_at _ _ r hr, hp]
      have : intOfRow [Lib.itoa x] = x := by
        show (atoi (Lib.itoa x)).1 = x
        rw [atoi_itoa x h0 h1]
      rw [this]
      exact le_word8 x h0 h1
theorem built_bool {ns : List Nd} (h : may ns = true) {i : Nat} (hi : i < ns.length) (hk : kindOf ns i = 1) (vs : List Txt) (hl : vs.length ≤ 64) (hf : ∀ v ∈ vs, Fit ns i v) :
    Built ns i vs (.mk 0 0 vs.length (valid vs) [] (bools (pts [[102]] vs)) []) := by
  have hks : (kids ns (i : Int)).length = 0 := leaf_kids h hi (by omega)
  have hdl : (bools (pts [[102]] vs)).length = (vs.length + 7) / 8 := by
    unfold bools truths
    rw [packed_length, List.length_map, pts_length]
  refine ⟨?_, rfl, rfl, rfl, fun r hr => ?_⟩
  · rw [mayA, if_pos rfl, (node_of ns i).2 ⟨h, hi⟩, buf_built vs _ _ hl hf (by simp) (by omega), plainOk, if_neg (by omega), if_pos hk]
    simp only [mayAll, hks, hdl, Bool.true_and, List.length_nil, decide_true, Bool.and_eq_true, decide_eq_true_eq]
    omega
  · obtain ⟨b, hp, hx⟩ := row_bool hk (hf _ (List.getElem_mem hr))
    show textA ns _ i (0 + r) = _
    rw [Nat.zero_add, textA, on_valid vs r hr]
    simp only [if_neg (by decide : ¬ (0 : Int) = 1), if_neg (by decide : ¬ (0 : Int) = 2)]
    simp only [if_neg (show ¬ kindOf ns i = 0 by omega), if_pos hk]
    rcases hx with ⟨hn, _⟩ | hx
    · rw [hn]; simp
    · have hne : vs[r] ≠ nul := by rw [hx]; exact ne_nul_bool b
      rw [if_neg (by simp [hne]), hx]
      congr 1
      unfold bools truths
      rw [Bt.packed_bit, List.getD_eq_getElem?_getD, List.getElem?_map, List.getElem?_eq_getElem (by rw [pts_length]; exact hr), pts_at _ _ r hr, hp]
      exact bool_text b
theorem built_str {ns : List Nd} (h : may ns = true) {i : Nat} (hi : i < ns.length) (hk : kindOf ns i = 2) (vs : List Txt) (hl : vs.length ≤ 64) (hf : ∀ v ∈ vs, Fit ns i v) :
    Built ns i vs (.mk 0 0 vs.length (valid vs) (ends ((pts [[]] vs).map size0)) (join (pts [[]] vs).flatten) []) := by
  have hks : (kids ns (i : Int)).length = 0 := leaf_kids h hi (by omega)
  obtain ⟨xs, hxl, hx⟩ : ∃ xs : List Txt, xs.length = vs.length ∧ ∀ r (hr : r < vs.length), ∃ hr' : r < xs.length, (xs[r]).length ≤ 16 ∧ partOr [[]] vs[r] = [xs[r]] ∧ (vs[r] = nul ∨ vs[r] = str xs[r]) := by
    refine ⟨vs.map fun v => (partOr [[]] v).getD 0 [], by simp, fun r hr => ⟨by simpa using hr, ?_⟩⟩
    obtain ⟨s, hs, hp, hx⟩ := row_str hk (hf _ (List.getElem_mem hr))
    rw [List.getElem_map, hp]
    exact ⟨hs, rfl, hx.imp And.left id⟩
  have hrows : pts [[]] vs = xs.map fun s => [s] := by
    apply List.ext_getElem (by rw [pts_length, List.length_map, hxl])
    intro r h1 h2
    obtain ⟨hr', _, hp, _⟩ := hx r (by simpa [pts] using h1)
    rw [row_part, hp, List.getElem_map]
  have hms : (pts [[]] vs).map size0 = xs.map List.length := by rw [hrows, List.map_map]; rfl
  have hdat : join (pts [[]] vs).flatten = xs.flatten := by
    rw [hrows]
    show ((xs.map fun s => [s]).flatten).flatten = xs.flatten
    congr 1
    clear hx hxl hrows hms
    induction xs with
    | nil => rfl
    | cons x xs ih => rw [List.map_cons, List.flatten_cons, ih]; rfl
  have hb : ∀ m ∈ xs.map List.length, m ≤ 16 := fun m hm => by
    obtain ⟨x, hx', rfl⟩ := List.mem_map.1 hm
    obtain ⟨r, hr, rfl⟩ := List.getElem_of_mem hx'
    exact (hx r (by omega)).2.1
  have hsum := sum_bound _ 16 hb
  rw [List.length_map] at hsum
  have hdl : (xs.flatten).length = (xs.map List.length).sum := (sum_flatten xs).symm
  have hel := ends_length (xs.map List.length)
  rw [List.length_map] at hel
  rw [hms, hdat]
  refine ⟨?_, rfl, rfl, rfl, fun r hr => ?_⟩
  · rw [mayA, if_pos rfl, (node_of ns i).2 ⟨h, hi⟩, buf_built vs _ _ hl hf (by omega) (by omega), plainOk, if_neg (by omega), if_neg (by omega), if_pos hk]
    have hok := ends_ok (xs.map List.length) (xs.flatten).length 0 16 (by omega) (by omega) hb
    rw [List.length_map, hxl] at hok
    have e1 : ((0 : Int) + (vs.length : Int)).toNat = vs.length := by omega
    rw [e1, show (0 : Int).toNat = 0 from rfl, hok]
    simp [mayAll, hks]
  · obtain ⟨hr', hs, hp, hv⟩ := hx r hr
    show textA ns _ i (0 + r) = _
    rw [Nat.zero_add, textA, on_valid vs r hr]
    simp only [if_neg (by decide : ¬ (0 : Int) = 1), if_neg (by decide : ¬ (0 : Int) = 2)]
    simp only [if_neg (show ¬ kindOf ns i = 0 by omega), if_neg (show ¬ kindOf ns i = 1 by omega), if_pos hk]
    rcases hv with hn | hv
    · rw [hn]; simp
    · have hne : vs[r] ≠ nul := by rw [hv]; exact ne_nul_str _
      rw [if_neg (by simp [hne]), hv]
      congr 1
      have h1 := num4_ends (xs.map List.length) r (by rw [List.length_map]; omega) (by omega)
      have h2 := num4_ends (xs.map List.length) (r + 1) (by rw [List.length_map]; omega) (by omega)
      have h3 := sumTo_succ (xs.map List.length) r (by rw [List.length_map]; omega)
      rw [List.getD_eq_getElem?_getD, List.getElem?_map, List.getElem?_eq_getElem hr', Option.map_some, Option.getD_some] at h3
      rw [h1, h2]
      simp only [Int.toNat_natCast]
      rw [h3, Nat.add_sub_cancel_left]
      exact flatten_cut xs r hr'

theorem headA_row (ns : List Nd) (a : Arr) (r : List Arr) (i row : Nat) : headA ns (a :: r) i row = rowA ns a i row := by
  obtain ⟨l, f, n, v, e, d, ks⟩ := a
  rw [headA]; rfl
theorem eachA_rows (ns : List Nd) : ∀ (bs : List Arr) (ks : List Nat) (row : Nat), bs.length = ks.length → eachA ns bs ks row = (List.range ks.length).map fun j => rowA ns (bs.getD j Arr.none) (ks.getD j 0) row
  | [], [], row, _ => by rw [eachA]; rfl
  | [], _ :: _, row, h => by simp at h
  | _ :: _, [], row, h => by simp at h
  | .mk l f n v e d cs :: bs, k :: ks, row, h => by
    rw [eachA, List.length_cons, List.range_succ_eq_map, List.map_cons, List.map_map, eachA_rows ns bs ks row (by simpa using h)]
    rfl
theorem mayAll_iff (ns : List Nd) : ∀ (bs : List Arr) (ks : List Nat), bs.length = ks.length → (mayAll ns bs ks = true ↔ ∀ j, j < ks.length → mayA ns (bs.getD j Arr.none) (ks.getD j 0) = true)
  | [], [], _ => by rw [mayAll]; simp
  | [], _ :: _, h => by simp at h
  | _ :: _, [], h => by simp at h
  | b :: bs, k :: ks, h => by
    rw [mayAll, Bool.and_eq_true, mayAll_iff ns bs ks (by simpa using h)]
    constructor
    · rintro ⟨h1, h2⟩ j hj
      cases j with
      | zero => exact h1
      | succ j => exact h2 j (by simpa using hj)
    · intro h1
      exact ⟨h1 0 (by simp), fun j hj => h1 (j + 1) (by simpa using hj)⟩
theorem seqO_get {α : Type} : ∀ (l : List (Option α)) (ys : List α), seqO l = some ys → ∀ j : Nat, l[j]? = (ys[j]?).map some
  | [], ys, h, j => by simp [seqO] at h; subst h; simp
  | none :: _, ys, h, j => by simp [seqO] at h
  | some a :: r, ys, h, j => by
    rw [seqO, Option.map_eq_some_iff] at h
    obtain ⟨zs, hz, rfl⟩ := h
    cases j with
    | zero => simp
    | succ j => simpa using seqO_get r zs hz j

theorem built_list {ns : List Nd} (h : may ns = true) {i : Nat} (hi : i < ns.length) (hk : kindOf ns i = 3) (vs : List Txt) (hl : vs.length ≤ 64) (hf : ∀ v ∈ vs, Fit ns i v) (b : Arr)
    (hb : Built ns ((kids ns i).getD 0 0) (pts [] vs).flatten b) (hbl : (pts [] vs).flatten.length ≤ 64) :
    Built ns i vs (.mk 0 0 vs.length (valid vs) (ends ((pts [] vs).map List.length)) [] [b]) := by
  obtain ⟨b1, b2, b3, b4, b5⟩ := hb
  have hsum : ((pts [] vs).map List.length).sum = (pts [] vs).flatten.length := sum_flatten _
  have hml : ((pts [] vs).map List.length).length = vs.length := by rw [List.length_map, pts_length]
  have hel := ends_length ((pts [] vs).map List.length)
  have hpart : ∀ r (hr : r < vs.length), ((pts [] vs)[r]'(by rw [pts_length]; exact hr)) = partOr [] vs[r] := fun r hr => pts_at _ _ _ hr
  refine ⟨?_, rfl, rfl, rfl, fun r hr => ?_⟩
  · rw [mayA, if_pos rfl, (node_of ns i).2 ⟨h, hi⟩, buf_built vs _ _ hl hf (by omega) (by simp), plainOk]
    simp only [if_neg (show ¬ kindOf ns i = 0 by omega), if_neg (show ¬ kindOf ns i = 1 by omega), if_neg (show ¬ kindOf ns i = 2 by omega), if_pos hk]
    have hok := ends_ok ((pts [] vs).map List.length) (kid0 [b]).len 0 64 (by omega) (by rw [show kid0 [b] = b from rfl, b4, hsum]; exact Int.le_refl _) (fun m hm => by
      obtain ⟨x, hx', rfl⟩ := List.mem_map.1 hm
      obtain ⟨r, hr, rfl⟩ := List.getElem_of_mem hx'
      rw [row_part hr]
      exact (row_list hk (hf _ (List.getElem_mem _))).1)
    rw [hml] at hok
    have e1 : ((0 : Int) + (vs.length : Int)).toNat = vs.length := by omega
    rw [e1, hok, kids_one' h hi hk, mayAll, b1]
    rfl
  · show textA ns _ i (0 + r) = _
    rw [Nat.zero_add, textA, on_valid vs r hr]
    simp only [if_neg (by decide : ¬ (0 : Int) = 1), if_neg (by decide : ¬ (0 : Int) = 2), if_neg (show ¬ kindOf ns i = 0 by omega), if_neg (show ¬ kindOf ns i = 1 by omega), if_neg (show ¬ kindOf ns i = 2 by omega), if_pos hk]
    obtain ⟨h1, h2, hv⟩ := row_list hk (hf _ (List.getElem_mem hr))
    by_cases hn : vs[r] = nul
    · rw [hn]; simp
    · rcases hv with hv | hv
      · exact absurd hv.1 hn
      · rw [if_neg (by simp [hn])]
        rw [hv]
        have hr' : r < (pts [] vs).length := by rw [pts_length]; exact hr
        have q1 := num4_ends ((pts [] vs).map List.length) r (by omega) (by omega)
        have q2 := num4_ends ((pts [] vs).map List.length) (r + 1) (by omega) (by omega)
        have q3 := sumTo_succ ((pts [] vs).map List.length) r (by omega)
        rw [List.getD_eq_getElem?_getD, List.getElem?_map, List.getElem?_eq_getElem hr', Option.map_some, Option.getD_some, hpart r hr] at q3
        have q4 := sumTo_le ((pts [] vs).map List.length) (r + 1)
        rw [q1, q2]
        simp only [Int.toNat_natCast]
        rw [q3, Nat.add_sub_cancel_left]
        have e : ((List.range (partOr [] vs[r]).length).map fun j => headA ns [b] ((kids ns i).getD 0 0) (sumTo ((pts [] vs).map List.length) r + j)) = partOr [] vs[r] := by
          apply List.ext_getElem (by simp)
          intro t t1 t2
          rw [List.getElem_map, List.getElem_range, headA_row]
          have hat := flatten_at (pts [] vs) r t hr' (by rw [hpart r hr]; exact t2)
          have hlt := (List.getElem?_eq_some_iff.1 hat).1
          rw [b5 _ hlt]
          have := (List.getElem?_eq_some_iff.1 hat).2
          rw [this]
          simp only [hpart r hr]
        rw [e, ← hv]
theorem col_at (rows : List (List Txt)) (j r : Nat) (h : r < rows.length) : (col rows j)[r]'(by simpa [col] using h) = (rows[r]).getD j [] := by simp [col]
theorem built_struct {ns : List Nd} (h : may ns = true) {i : Nat} (hi : i < ns.length) (hk : kindOf ns i = 4) (vs : List Txt) (hl : vs.length ≤ 64) (hf : ∀ v ∈ vs, Fit ns i v) (bs : List Arr) (hbl : bs.length = (kids ns i).length)
    (hb : ∀ j, j < (kids ns i).length → Built ns ((kids ns i).getD j 0) (col (pts ((kids ns i).map (zero ns)) vs) j) (bs.getD j Arr.none)) :
    Built ns i vs (.mk 0 0 vs.length (valid vs) [] [] bs) := by
  have hcl : ∀ j, (col (pts ((kids ns i).map (zero ns)) vs) j).length = vs.length := fun j => by simp [col, pts]
  refine ⟨?_, rfl, rfl, rfl, fun r hr => ?_⟩
  · rw [mayA, if_pos rfl, (node_of ns i).2 ⟨h, hi⟩, buf_built vs _ _ hl hf (by simp) (by simp), plainOk]
    simp only [if_neg (show ¬ kindOf ns i = 0 by omega), if_neg (show ¬ kindOf ns i = 1 by omega), if_neg (show ¬ kindOf ns i = 2 by omega), if_neg (show ¬ kindOf ns i = 3 by omega)]
    have h1 : mayAll ns bs (kids ns i) = true := (mayAll_iff ns bs _ hbl).2 fun j hj => (hb j hj).1
    have h2 : (bs.all fun k => decide ((0 : Int) + (vs.length : Int) ≤ k.len)) = true := by
      rw [List.all_eq_true]
      intro k hk'
      obtain ⟨j, hj, rfl⟩ := List.getElem_of_mem hk'
      have := (hb j (by omega)).2.2.2.1
      rw [hcl, List.getD_eq_getElem?_getD, List.getElem?_eq_getElem hj, Option.getD_some] at this
      rw [this, decide_eq_true_eq]
      omega
    rw [h1, h2]
    simp [hbl]
  · show textA ns _ i (0 + r) = _
    rw [Nat.zero_add, textA, on_valid vs r hr]
    simp only [if_neg (by decide : ¬ (0 : Int) = 1), if_neg (by decide : ¬ (0 : Int) = 2), if_neg (show ¬ kindOf ns i = 0 by omega), if_neg (show ¬ kindOf ns i = 1 by omega), if_neg (show ¬ kindOf ns i = 2 by omega), if_neg (show ¬ kindOf ns i = 3 by omega)]
    obtain ⟨h1, h2, hv⟩ := row_struct h hi hk (hf _ (List.getElem_mem hr))
    by_cases hn : vs[r] = nul
    · rw [hn]; simp
    · rcases hv with hv | hv
      · exact absurd hv.1 hn
      · rw [if_neg (by simp [hn])]
        rw [hv, eachA_rows ns bs _ r hbl]
        have e : ((List.range (kids ns (i : Int)).length).map fun j => rowA ns (bs.getD j Arr.none) ((kids ns (i : Int)).getD j 0) r) = partOr ((kids ns (i : Int)).map (zero ns)) vs[r] := by
          apply List.ext_getElem (by rw [List.length_map, List.length_range, h1])
          intro t t1 t2
          rw [List.getElem_map, List.getElem_range]
          have ht : t < (kids ns (i : Int)).length := by rw [h1] at t2; exact t2
          rw [(hb t ht).2.2.2.2 r (by rw [hcl]; exact hr), col_at _ _ _ (by rw [pts_length]; exact hr), pts_at _ _ r hr, List.getD_eq_getElem?_getD, List.getElem?_eq_getElem t2]
          rfl
        rw [e, ← hv]
/-- What is built may be; its rows are what it was built of. -/
theorem build_back {ns : List Nd} (h : may ns = true) : ∀ (n i : Nat) (vs : List Txt) (a : Arr), i < ns.length → ns.length - i ≤ n → (∀ v ∈ vs, Fit ns i v) → build ns i vs = some a → Built ns i vs a := by
  intro n
  induction n with
  | zero => intro i vs a hi h1; omega
  | succ n ih =>
    intro i vs a hi h1 hf hb
    rw [build_eq ns h i hi] at hb
    have hkind := may_kind ns h i hi
    by_cases h64 : 64 < vs.length
    · rw [if_pos h64] at hb; cases hb
    rw [if_neg h64] at hb
    by_cases hk0 : kindOf ns i = 0
    · rw [if_pos hk0] at hb
      obtain rfl := Option.some.inj hb
      exact built_int h hi hk0 vs (by omega) hf
    rw [if_neg hk0] at hb
    by_cases hk1 : kindOf ns i = 1
    · rw [if_pos hk1] at hb
      obtain rfl := Option.some.inj hb
      exact built_bool h hi hk1 vs (by omega) hf
    rw [if_neg hk1] at hb
    by_cases hk2 : kindOf ns i = 2
    · rw [if_pos hk2] at hb
      obtain rfl := Option.some.inj hb
      exact built_str h hi hk2 vs (by omega) hf
    rw [if_neg hk2] at hb
    by_cases hk3 : kindOf ns i = 3
    · rw [if_pos hk3, Option.map_eq_some_iff] at hb
      obtain ⟨b, hb, rfl⟩ := hb
      obtain ⟨h2, h3⟩ := kid_one_lt h hi hk3
      have hle : (pts [] vs).flatten.length ≤ 64 := by
        rw [build_eq ns h _ h3] at hb
        split at hb
        · cases hb
        · omega
      refine built_list h hi hk3 vs (by omega) hf b (ih _ _ b h3 (by omega) (fun p hp => ?_) hb) hle
      obtain ⟨row, hrow, hp'⟩ := List.mem_flatten.1 hp
      obtain ⟨v, hv, rfl⟩ := List.mem_map.1 hrow
      exact (row_list hk3 (hf v hv)).2.1 p hp'
    rw [if_neg hk3, Option.map_eq_some_iff] at hb
    obtain ⟨bs, hb, rfl⟩ := hb
    have hk4 : kindOf ns i = 4 := by omega
    have hbl := seqO_length _ _ hb
    rw [List.length_map, List.length_range] at hbl
    refine built_struct h hi hk4 vs (by omega) hf bs hbl fun j hj => ?_
    obtain ⟨h2, h3⟩ := kid_lt h hj
    have hg := seqO_get _ _ hb j
    rw [List.getElem?_map, List.getElem?_range hj, Option.map_some, List.getElem?_eq_getElem (by omega), Option.map_some, Option.some.injEq] at hg
    rw [List.getD_eq_getElem?_getD (l := bs), List.getElem?_eq_getElem (show j < bs.length by omega), Option.getD_some]
    refine ih _ _ _ h3 (by omega) (fun p hp => ?_) hg
    unfold col at hp
    obtain ⟨row, hrow, rfl⟩ := List.mem_map.1 hp
    obtain ⟨v, hv, rfl⟩ := List.mem_map.1 hrow
    exact (row_struct h hi hk4 (hf v hv)).2.1 j hj
theorem build_vals {ns : List Nd} (h : may ns = true) {i : Nat} (hi : i < ns.length) {vs : List Txt} {a : Arr} (hf : ∀ v ∈ vs, Fit ns i v) (hb : build ns i vs = some a) : mayA ns a i = true ∧ valsA ns a i = vs ∧ a.len = vs.length ∧ a.off = 0 ∧ a.lay = 0 := by
  obtain ⟨h1, h2, h3, h4, h5⟩ := build_back h _ i vs a hi (Nat.le_refl _) hf hb
  refine ⟨h1, ?_, h4, h3, h2⟩
  unfold valsA
  rw [h4, Int.toNat_natCast]
  apply List.ext_getElem (by simp)
  intro r r1 r2
  rw [List.getElem_map, List.getElem_range, h5 r r2]

/-- What Build answers. -/
def fitAll (ns : List Nd) (x : Int) (vs : List Txt) : Bool := vs.all fun v => fits ns (v.length + 1) x v
def buildR (ns : List Nd) (x : Int) (vs : List Txt) : Arr × Int :=
  if node ns x && fitAll ns x vs then (match build ns x.toNat vs with | none => (Arr.none, 1001) | some a => (a, 0)) else (Arr.none, 1000)
theorem fitAll_iff (ns : List Nd) (i : Nat) (vs : List Txt) : fitAll ns (i : Int) vs = true ↔ ∀ v ∈ vs, Fit ns i v := by
  unfold fitAll Fit
  rw [List.all_eq_true]
end Vp
end Go.Proofs.YtlllflacnlgigaaDoor
