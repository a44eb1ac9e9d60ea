/- Chapter 7: the makers of values, and the comparison of rows of texts, walked. -/
import Derived.Test.YtlllflacnlgigaaGreatDoorMc7
namespace Go.Proofs.YtlllflacnlgigaaGreatDoor
open Go.RowKit
set_option linter.unusedVariables false
set_option linter.unusedSimpArgs false

/-- A slice of texts. -/
def TextsAt (w : World) (v : Value) (xs : List Vp.Txt) : Prop :=
  ∃ a c, v = .slice a xs.length c ∧ xs.length ≤ c ∧ c ≤ maxLen ∧ (xs ≠ [] → ∃ bk o, a = some ⟨bk, o, none⟩ ∧ bk < w.heap.size ∧ ∀ j x, xs[j]? = some x → w.cell? ⟨bk, o + j, none⟩ = some (tv x))
theorem TextsAt.below {w w' : World} {v : Value} {xs : List Vp.Txt} (h : TextsAt w v xs) (hb : Below w.heap.size w w') : TextsAt w' v xs := by
  obtain ⟨a, c, rfl, h1, h2, h3⟩ := h
  refine ⟨a, c, rfl, h1, h2, fun hn => ?_⟩
  obtain ⟨bk, o, rfl, hk, hc⟩ := h3 hn
  exact ⟨bk, o, rfl, Nat.lt_of_lt_of_le hk hb.size, fun j x hx => by rw [hb.cell (p := ⟨bk, o + j, none⟩) hk]; exact hc j x hx⟩
theorem own_texts {w : World} {base : Nat} {v : Value} {xs : List Vp.Txt} (h : w.ownsRow base 9 1 v xs.length (xs.map tv)) : TextsAt w v xs := by
  obtain ⟨hl, h⟩ := h
  rcases h with ⟨rfl, hx⟩ | ⟨g, cap, cur, rfl, hb, hh, hnc, hm, hcs, htake⟩
  · have hx' : xs = [] := by simpa using hx
    subst hx'
    exact ⟨none, 0, rfl, Nat.le_refl _, by decide, fun h => absurd rfl h⟩
  · refine ⟨_, cap, rfl, hnc, hm, fun _ => ⟨g, 0, rfl, (Array.getElem?_eq_some_iff.1 hh).1, fun j x hx => ?_⟩⟩
    have hj := (List.getElem?_eq_some_iff.1 hx).1
    simp only [World.cell?, hh, Option.isSome_none, Bool.false_eq_true, if_false]
    rw [Nat.zero_add, ← Array.getElem?_toList]
    have h1 : (cur.toList.take (xs.length * 1))[j]? = some (tv x) := by rw [htake, List.getElem?_map, hx]; rfl
    rw [List.getElem?_take] at h1
    split at h1
    · exact h1
    · cases h1

theorem null_calls (w : World) : Calls Tryz.prog 13 #[] w fun e w' => e = .returned (.string ⟨#[110]⟩) ∧ w = w' := by
  go_enter Tryz.func13, Tryz.ntmps13
  go_wp2
  go_ret
  exact ⟨rfl, rfl⟩
theorem bool_calls (on : Bool) (w : World) : Calls Tryz.prog 16 #[.bool on] w fun e w' => e = .returned (tv (Vp.bool on)) ∧ w = w' := by
  cases on
  all_goals
    go_enter Tryz.func16, Tryz.ntmps16
    go_wp2
    go_ret
    exact ⟨rfl, rfl⟩
theorem decDigits_length (n : Nat) : (Lib.decDigits n).length ≤ n + 1 := by
  induction n using Nat.strongRecOn with
  | ind n ih =>
    rw [Lib.decDigits]
    split
    · simp
    · rename_i h
      rw [List.length_append, List.length_singleton]
      have := ih (n / 10) (by omega)
      omega
theorem digits_le (k : Nat) : ∀ n : Nat, n < 10 ^ (k + 1) → (Lib.decDigits n).length ≤ k + 1 := by
  induction k with
  | zero =>
    intro n h
    rw [Lib.decDigits, dif_pos (by omega)]
    simp
  | succ k ih =>
    intro n h
    rw [Lib.decDigits]
    split
    · simp
    · rw [List.length_append, List.length_singleton]
      have := ih (n / 10) (by rw [Nat.pow_succ] at h; omega)
      omega
theorem itoa_length (x : Int) (h0 : -9223372036854775808 ≤ x) (h1 : x ≤ 9223372036854775807) : (Lib.itoa x).length ≤ 20 := by
  unfold Lib.itoa
  split
  · rw [List.length_cons]
    have := digits_le 18 x.natAbs (by omega)
    omega
  · have := digits_le 18 x.toNat (by omega)
    omega
theorem mk_append (a b : List UInt8) : (⟨a.toArray⟩ : ByteArray) ++ ⟨b.toArray⟩ = ⟨(a ++ b).toArray⟩ := by
  apply ByteArray.ext
  simp

set_option maxHeartbeats 800000 in
theorem int_calls (x : Int) (W : World) (hv : Vars W) (h0 : -9223372036854775808 ≤ x) (h1 : x ≤ 9223372036854775807) :
    Calls Tryz.prog 14 #[.int .i64 x] W fun e w' => e = .returned (tv (Vp.int x)) ∧ Below W.heap.size W w' := by
  have hl := itoa_length x h0 h1
  have HC := Lib.hid (itoa_calls x W hv h0 h1)
  have HU := Lib.hid (show tv (Vp.int x) = .string (((⟨#[105]⟩ : ByteArray) ++ ⟨(Lib.itoa x).toArray⟩) ++ ⟨#[59]⟩) by
    rw [show (⟨#[105]⟩ : ByteArray) = ⟨[105].toArray⟩ from rfl, show (⟨#[59]⟩ : ByteArray) = ⟨[59].toArray⟩ from rfl, mk_append, mk_append]; rfl)
  have hz := mk_size (Lib.itoa x)
  go_enter Tryz.func14, Tryz.ntmps14
  go_wp2_with (go_at_call 39; refine HC.out.mono ?_; rintro e w' ⟨rfl, hb⟩)
  go_ret
  exact ⟨by rw [HU.out]; rfl, hb⟩

set_option maxHeartbeats 800000 in
theorem str_calls (l : List UInt8) (W : World) (hv : Vars W) (hs : l.length ≤ 140737488351232) :
    Calls Tryz.prog 18 #[.string ⟨l.toArray⟩] W fun e w' => e = .returned (tv (Vp.str l)) ∧ Below W.heap.size W w' := by
  have hl := itoa_length (l.length : Int) (by omega) (by omega)
  have hz1 := mk_size l
  have HC := Lib.hid (itoa_calls (l.length : Int) W hv (by omega) (by omega))
  have HU := Lib.hid (show tv (Vp.str l) = .string ((((⟨#[115]⟩ : ByteArray) ++ ⟨(Lib.itoa l.length).toArray⟩) ++ ⟨#[58]⟩) ++ ⟨l.toArray⟩) by
    rw [show (⟨#[115]⟩ : ByteArray) = ⟨[115].toArray⟩ from rfl, show (⟨#[58]⟩ : ByteArray) = ⟨[58].toArray⟩ from rfl, mk_append, mk_append, mk_append]; simp [Vp.str])
  have hz := mk_size (Lib.itoa l.length)
  go_enter Tryz.func18, Tryz.ntmps18
  go_wp2_with (go_at_call 39; refine HC.out.mono ?_; rintro e w' ⟨rfl, hb⟩)
  go_ret
  exact ⟨by rw [HU.out]; rfl, hb⟩

theorem flatten_join (xs : List Vp.Txt) : Lib.join xs [] = Vp.join xs := by
  unfold Lib.join Vp.join
  induction xs with
  | nil => rfl
  | cons x r ih =>
    cases r with
    | nil => simp [List.intercalate]
    | cons y r => simp [List.intercalate, List.intersperse] at ih ⊢; exact ih
theorem join_calls (v : Value) (xs : List Vp.Txt) (W : World) (ht : TextsAt W v xs) (hn : xs.length ≤ 140737488351232) (hl : (Vp.join xs).length ≤ 140737488351232) :
    ∃ a c, v = .slice a xs.length c ∧ Calls Tryz.prog 42 #[.slice a xs.length c, .string ⟨#[]⟩] W fun e w' => e = .returned (tv (Vp.join xs)) ∧ Below W.heap.size W w' := by
  obtain ⟨a, c, rfl, hc, hm, h3⟩ := ht
  refine ⟨a, c, rfl, ?_⟩
  by_cases hx : xs = []
  · subst hx
    refine (Tryz.strings_Join_none a c ⟨#[]⟩ W).mono ?_
    rintro e w' ⟨rfl, rfl⟩
    exact ⟨rfl, Below.refl _ _⟩
  · obtain ⟨bk, o, rfl, hk, hcell⟩ := h3 hx
    have hm' : (xs.map fun l : Vp.Txt => (⟨l.toArray⟩ : ByteArray)).map (·.data.toList) = xs := by simp [Function.comp_def]
    have hlen : (xs.map fun l : Vp.Txt => (⟨l.toArray⟩ : ByteArray)).length = xs.length := by simp
    have := Tryz.strings_Join bk o c (xs.map fun l => ⟨l.toArray⟩) ⟨#[]⟩ W (by
      intro j x hj
      rw [List.getElem?_map] at hj
      obtain ⟨y, hy, rfl⟩ := Option.map_eq_some_iff.1 hj
      exact hcell j y hy) hk (by rw [hlen]; omega) (by rw [hlen]; omega) (by rw [hm', show (⟨#[]⟩ : ByteArray).data.toList = [] from rfl, flatten_join]; omega)
    rw [hlen, hm', show (⟨#[]⟩ : ByteArray).data.toList = [] from rfl, flatten_join] at this
    exact this

set_option maxHeartbeats 800000 in
theorem list_calls (v : Value) (xs : List Vp.Txt) (W : World) (ht : TextsAt W v xs) (hn : xs.length ≤ 140737488351232) (hl : (Vp.join xs).length ≤ 140737488351232) :
    Calls Tryz.prog 20 #[v] W fun e w' => e = .returned (tv (Vp.list xs)) ∧ Below W.heap.size W w' := by
  obtain ⟨a, c, rfl, HJ⟩ := join_calls v xs W ht hn hl
  have hz := mk_size (Vp.join xs)
  have HC := Lib.hid HJ
  have HU := Lib.hid (show tv (Vp.list xs) = .string (((⟨#[91]⟩ : ByteArray) ++ ⟨(Vp.join xs).toArray⟩) ++ ⟨#[93]⟩) by
    rw [show (⟨#[91]⟩ : ByteArray) = ⟨[91].toArray⟩ from rfl, show (⟨#[93]⟩ : ByteArray) = ⟨[93].toArray⟩ from rfl, mk_append, mk_append]; rfl)
  clear HJ ht
  go_enter Tryz.func20, Tryz.ntmps20
  go_wp2_with (go_at_call 42; refine HC.out.mono ?_; rintro e w' ⟨rfl, hb⟩)
  go_ret
  exact ⟨by rw [HU.out]; rfl, hb⟩

set_option maxHeartbeats 800000 in
theorem struct_calls (v : Value) (xs : List Vp.Txt) (W : World) (ht : TextsAt W v xs) (hn : xs.length ≤ 140737488351232) (hl : (Vp.join xs).length ≤ 140737488351232) :
    Calls Tryz.prog 22 #[v] W fun e w' => e = .returned (tv (Vp.struct xs)) ∧ Below W.heap.size W w' := by
  obtain ⟨a, c, rfl, HJ⟩ := join_calls v xs W ht hn hl
  have hz := mk_size (Vp.join xs)
  have HC := Lib.hid HJ
  have HU := Lib.hid (show tv (Vp.struct xs) = .string (((⟨#[123]⟩ : ByteArray) ++ ⟨(Vp.join xs).toArray⟩) ++ ⟨#[125]⟩) by
    rw [show (⟨#[123]⟩ : ByteArray) = ⟨[123].toArray⟩ from rfl, show (⟨#[125]⟩ : ByteArray) = ⟨[125].toArray⟩ from rfl, mk_append, mk_append]; rfl)
  clear HJ ht
  go_enter Tryz.func22, Tryz.ntmps22
  go_wp2_with (go_at_call 42; refine HC.out.mono ?_; rintro e w' ⟨rfl, hb⟩)
  go_ret
  exact ⟨by rw [HU.out]; rfl, hb⟩

set_option maxHeartbeats 800000 in
theorem sameTexts_calls (v u : Value) (xs ys : List Vp.Txt) (W : World) (hx : TextsAt W v xs) (hy : TextsAt W u ys) :
    Calls Tryz.prog 10 #[v, u] W fun e w' => e = .returned (.bool (xs == ys)) ∧ Below W.heap.size W w' := by
  obtain ⟨a, c, rfl, hc, hm, h3⟩ := hx
  obtain ⟨a', c', rfl, hc', hm', h3'⟩ := hy
  unfold maxLen at hm hm'
  by_cases hlen : xs.length = ys.length
  · have hlen' : (ys.length : Int) = (xs.length : Int) := by omega
    replace h3 := Lib.hid h3
    replace h3' := Lib.hid h3'
    go_enter Tryz.func10, Tryz.ntmps10
    go_wp2
    go_loopw [5] (fun i wr => ∃ k : Nat, k ≤ xs.length ∧ i = .int .i64 k ∧ xs.take k = ys.take k ∧ Below W.heap.size W wr) (fun i _ => xs.length - (intOf i).toNat)
    case atStart => exact ⟨0, Nat.zero_le _, rfl, by simp, Below.refl _ _⟩
    case round =>
      obtain ⟨k, hk, rfl, htk, hb⟩ := hrel
      by_cases hlt : k < xs.length
      · obtain ⟨bk, o, rfl, hbk, hcell⟩ := h3.out (by intro e; rw [e] at hlt; exact Nat.not_lt_zero _ hlt)
        obtain ⟨bk', o', rfl, hbk', hcell'⟩ := h3'.out (by intro e; rw [e] at hlen; rw [hlen] at hlt; exact Nat.not_lt_zero _ hlt)
        have hlt2 : k < ys.length := by omega
        have c1 : wr.cell? ⟨bk, o + k, none⟩ = some (.string ⟨xs[k].toArray⟩) := (hb.cell (p := ⟨bk, o + k, none⟩) hbk).trans (hcell k _ (List.getElem?_eq_getElem hlt))
        have c2 : wr.cell? ⟨bk', o' + k, none⟩ = some (.string ⟨ys[k].toArray⟩) := (hb.cell (p := ⟨bk', o' + k, none⟩) hbk').trans (hcell' k _ (List.getElem?_eq_getElem hlt2))
        have HT := Lib.hid htk
        clear htk hcell hcell'
        generalize hx : xs[k] = x at c1
        generalize hy : ys[k] = y at c2
        have HX := Lib.hid hx
        have HY := Lib.hid hy
        clear hx hy
        by_cases hxy : x = y
        · subst hxy
          clear h3 h3'
          go_wp2
          go_quiet (fail)
          go_wp2
          refine ⟨⟨k + 1, by omega, by go_num, ?_, below_drewN hb nq⟩, by simp [intOf]; omega⟩
          rw [List.take_succ_eq_append_getElem hlt, List.take_succ_eq_append_getElem hlt2, HT.out, HX.out, HY.out]
        · clear h3 h3'
          have hxy' : (x == y) = false := by simp [hxy]
          go_wp2
          go_quiet (fail)
          go_wp2
          go_ret
          have HU : (xs == ys) = false := by
            rw [beq_eq_false_iff_ne]
            intro e
            subst e
            exact hxy (HX.out.symm.trans HY.out)
          exact ⟨by rw [HU]; rfl, below_drewN hb nq⟩
      · obtain rfl : k = xs.length := by omega
        have HU := Lib.hid (show (xs == ys) = true by rw [beq_iff_eq]; rw [List.take_length, hlen, List.take_length] at htk; exact htk)
        clear htk
        go_wp2
        go_ret
        exact ⟨by rw [HU.out]; rfl, hb⟩
  · have hlen' : ¬ (xs.length : Int) = (ys.length : Int) := by omega
    have HU := Lib.hid (show (xs == ys) = false by rw [beq_eq_false_iff_ne]; intro e; exact hlen (by rw [e]))
    go_enter Tryz.func10, Tryz.ntmps10
    go_wp2
    go_ret
    exact ⟨by rw [HU.out]; rfl, Below.refl _ _⟩
end Go.Proofs.YtlllflacnlgigaaGreatDoor
