/- Several texts in one: ValV, ValM. -/
import Derived.Test.YtobhjlchpnpleaaGreatDoorCa4
/- Chapter 7: the taker's value, walked: by induction over how deep it may go. -/
namespace Go.Proofs.YtobhjlchpnpleaaGreatDoor
open Go.RowKit
set_option linter.unusedVariables false
set_option linter.unusedSimpArgs false

theorem own_mono_lit {w a : World} (h : a.heap.size ≤ w.heap.size) (l : List UInt8) : (w.alloc (.cells #[tv l] 9)).ownsRow a.heap.size 9 1 (.slice (some ⟨w.heap.size, 0, none⟩) 1 1) 1 [tv l] :=
 own_lit w a.heap.size 9 [tv l] h (by unfold maxLen; simp)

theorem own_mono {w : World} {base base' n : Nat} {e : TypeId} {v : Value} {xs : List Value} (h : w.ownsRow base e 1 v n xs) (hb : base' ≤ base) : w.ownsRow base' e 1 v n xs := by
 obtain ⟨h1, h2⟩ := h
 refine ⟨h1, h2.imp id ?_⟩
 rintro ⟨g, cap, cur, h3, h4, h5⟩
 exact ⟨g, cap, cur, h3, Nat.le_trans hb h4, h5⟩

theorem val_zero : ValOK 0 := by
 intro b t W hb6 hv h hs
 have hw : (5 : Int) - ((0 : Nat) : Int) = 5 := by omega
 rw [hw]
 go_enter Tryz.func119, Tryz.ntmps119
 go_wp2_with (go_at_call 141; refine (fail_calls b t W h).mono ?_; rintro e w' ⟨rfl, H, hb⟩)
 go_ret2
 exact ⟨_, rfl, ⟨rfl, .inl ⟨rfl, rfl⟩⟩, H, hb⟩

set_option maxHeartbeats 1600000 in
theorem val_succ (d : Nat) (hd : d + 1 ≤ 5) (ih : ValOK d) : ValOK (d + 1) := by
 intro b t W hb6 hv h hs
 have hrow := fun (t : Vp.Tk) (c : UInt8) (W : World) => row_calls d (by omega) ih b t c W hb6
 obtain ⟨z, hz⟩ : ∃ z : Int, z = 5 - ((d + 1 : Nat) : Int) := ⟨_, rfl⟩
 rw [← hz]
 have hz1 : z + 1 = 5 - (d : Int) := by omega
 have hz4 : ¬ (4 < z) := by omega
 have hz0 : 0 ≤ z := by omega
 have hz5 : z ≤ 4 := by omega
 rw [← hz1] at hrow
 have hcall := byte_calls b t W h hs
 have hU : Vp.value (d + 1) t = (let b := Vp.byte t
  if b.1 = 110 then (-1, [], b.2)
  else if b.1 = 105 then let n := Vp.number b.2 59; (0, [n.2.1], n.2.2)
  else if b.1 = 116 ∨ b.1 = 102 then (1, [[b.1]], b.2)
  else if b.1 = 115 then let n := Vp.number b.2 58; let s := Vp.bytes n.2.2 n.1; (2, [s.1], s.2)
  else if b.1 = 91 then let r := Vp.row (fun t => (Vp.value d t).2.2) 93 b.2; (3, r.1, r.2)
  else if b.1 = 123 then let r := Vp.row (fun t => (Vp.value d t).2.2) 125 b.2; (4, r.1, r.2)
  else (0, [], ⟨b.2.rest, true⟩)) := rfl
 have hs1 : (Vp.byte t).2.rest.length ≤ 65536 := Nat.le_trans (Vp.byte_le t) hs
 rw [hU]
 clear hU hz hz1 hd ih
 generalize Vp.byte t = q at hcall hs1 ⊢
 obtain ⟨c, t1⟩ := q
 simp only at hcall hs1 ⊢
 have HR := Lib.hid hrow
 have HC := Lib.hid hcall
 clear hrow hcall
 by_cases e1 : c = 110
 ·subst e1
  rw [if_pos rfl]
  go_enter Tryz.func119, Tryz.ntmps119
  go_wp2_with (go_at_call 142; refine HC.out.mono ?_; rintro e w' ⟨rfl, H, hb⟩)
  go_ret2
  exact ⟨_, rfl, ⟨rfl, .inl ⟨rfl, rfl⟩⟩, H, hb⟩
 rw [if_neg e1]
 by_cases e2 : c = 105
 ·subst e2
  rw [if_pos rfl]
  go_enter Tryz.func119, Tryz.ntmps119
  go_wp2_with (first
   | (go_at_call 142; refine HC.out.mono ?_; rintro e w' ⟨rfl, H, hb⟩)
   | (go_at_call 143; refine (number_calls b t1 59 _ (hv.grown hb hb6) hb6 H hs1).mono ?_; rintro e w2 ⟨rfl, H2, hb2⟩; replace hb2 := hb.trans hb2))
  go_ret2
  exact ⟨_, rfl, own_mono_lit hb2.size _, H2.grown (World.grownBy_alloc _ _ none) (by simp), grown_alloc hb2 _⟩
 rw [if_neg e2]
 by_cases e3 : c = 116
 ·subst e3
  rw [if_pos (by decide)]
  have hcv : ∀ W' : World, (convert 132 9 (.slice (some ⟨W'.heap.size, 0, none⟩) 1 1)).run Tryz.prog (W'.alloc (.cells #[.int .u8 116] 5)).drew = .ok (tv [116]) (W'.alloc (.cells #[.int .u8 116] 5)).drew := fun W' =>
   run_string (P := Tryz.prog) (w := (W'.alloc _).drew) 132 9 5 Tryz.underlying132 Tryz.underlying5 Tryz.underlying9 W'.heap.size 1 1 [116] rfl (Row.new W' 5 #[.int .u8 116])
  go_enter Tryz.func119, Tryz.ntmps119
  go_wp2_with (go_at_call 142; refine HC.out.mono ?_; rintro e w' ⟨rfl, H, hb⟩)
  replace hcv := hcv w'
  go_region
  go_wp2
  go_ret2
  have ho := own_mono_lit (a := W) (w := w'.alloc (.cells #[.int .u8 116] 5)) (by have := hb.size; simp; omega) [116]
  rw [show (w'.alloc (.cells #[.int .u8 116] 5)).heap.size = w'.heap.size + 1 by simp] at ho
  exact ⟨_, rfl, ho, H.grown (grown_drew (grown_alloc (grown_alloc (grown_refl _ none) _) _)) (by simp), grown_drew (grown_alloc (grown_alloc hb _) _)⟩
 by_cases e4 : c = 102
 ·subst e4
  rw [if_pos (by decide)]
  have hcv : ∀ W' : World, (convert 132 9 (.slice (some ⟨W'.heap.size, 0, none⟩) 1 1)).run Tryz.prog (W'.alloc (.cells #[.int .u8 102] 5)).drew = .ok (tv [102]) (W'.alloc (.cells #[.int .u8 102] 5)).drew := fun W' =>
   run_string (P := Tryz.prog) (w := (W'.alloc _).drew) 132 9 5 Tryz.underlying132 Tryz.underlying5 Tryz.underlying9 W'.heap.size 1 1 [102] rfl (Row.new W' 5 #[.int .u8 102])
  go_enter Tryz.func119, Tryz.ntmps119
  go_wp2_with (go_at_call 142; refine HC.out.mono ?_; rintro e w' ⟨rfl, H, hb⟩)
  replace hcv := hcv w'
  go_region
  go_wp2
  go_ret2
  have ho := own_mono_lit (a := W) (w := w'.alloc (.cells #[.int .u8 102] 5)) (by have := hb.size; simp; omega) [102]
  rw [show (w'.alloc (.cells #[.int .u8 102] 5)).heap.size = w'.heap.size + 1 by simp] at ho
  exact ⟨_, rfl, ho, H.grown (grown_drew (grown_alloc (grown_alloc (grown_refl _ none) _) _)) (by simp), grown_drew (grown_alloc (grown_alloc hb _) _)⟩
 rw [if_neg (by simp [e3, e4])]
 by_cases e5 : c = 115
 ·subst e5
  rw [if_pos rfl]
  go_enter Tryz.func119, Tryz.ntmps119
  go_wp2_with (first
   | (go_at_call 142; refine HC.out.mono ?_; rintro e w' ⟨rfl, H, hb⟩)
   | (go_at_call 143; refine (number_calls b t1 58 _ (hv.grown hb hb6) hb6 H hs1).mono ?_; rintro e w2 ⟨rfl, H2, hb2⟩; replace hb2 := hb.trans hb2)
   | (go_at_call 144; refine (bytes_calls b _ _ _ H2 (Nat.le_trans (Vp.number_le _ _) hs1) (atoi_bd _).2).mono ?_; rintro e w3 ⟨rfl, H3, hb3⟩; replace hb3 := hb2.trans hb3))
  go_ret2
  exact ⟨_, rfl, own_mono_lit hb3.size _, H3.grown (World.grownBy_alloc _ _ none) (by simp), grown_alloc hb3 _⟩
 rw [if_neg e5]
 by_cases e6 : c = 91
 ·subst e6
  rw [if_pos rfl]
  go_enter Tryz.func119, Tryz.ntmps119
  go_wp2_with (first
   | (go_at_call 142; refine HC.out.mono ?_; rintro e w' ⟨rfl, H, hb⟩)
   | (go_at_call 145; refine (HR.out t1 93 _ (hv.grown hb hb6) H hs1).mono ?_; rintro e w2 ⟨v, rfl, ho, H2, hb2⟩; replace ho := own_mono ho hb.size; replace hb2 := hb.trans hb2))
  go_ret2
  exact ⟨_, rfl, ho, H2, hb2⟩
 rw [if_neg e6]
 by_cases e7 : c = 123
 ·subst e7
  rw [if_pos rfl]
  go_enter Tryz.func119, Tryz.ntmps119
  go_wp2_with (first
   | (go_at_call 142; refine HC.out.mono ?_; rintro e w' ⟨rfl, H, hb⟩)
   | (go_at_call 145; refine (HR.out t1 125 _ (hv.grown hb hb6) H hs1).mono ?_; rintro e w2 ⟨v, rfl, ho, H2, hb2⟩; replace ho := own_mono ho hb.size; replace hb2 := hb.trans hb2))
  go_ret2
  exact ⟨_, rfl, ho, H2, hb2⟩
 rw [if_neg e7]
 have hne : ∀ k : UInt8, ¬ c = k → ((c.toNat : Int) == (k.toNat : Int)) = false := by
  intro k hk
  rw [beq_eq_false_iff_ne]
  intro e
  exact hk (UInt8.toNat_inj.1 (by omega))
 have n1 : ((c.toNat : Int) == 110) = false := hne 110 e1
 have n2 : ((c.toNat : Int) == 105) = false := hne 105 e2
 have n3 : ((c.toNat : Int) == 116) = false := hne 116 e3
 have n4 : ((c.toNat : Int) == 102) = false := hne 102 e4
 have n5 : ((c.toNat : Int) == 115) = false := hne 115 e5
 have n6 : ((c.toNat : Int) == 91) = false := hne 91 e6
 have n7 : ((c.toNat : Int) == 123) = false := hne 123 e7
 clear hne e1 e2 e3 e4 e5 e6 e7
 generalize (c.toNat : Int) = y at *
 go_enter Tryz.func119, Tryz.ntmps119
 go_wp2_with (first
  | (go_at_call 142; refine HC.out.mono ?_; rintro e w' ⟨rfl, H, hb⟩)
  | (go_at_call 141; refine (fail_calls b t1 _ H).mono ?_; rintro e w2 ⟨rfl, H2, hb2⟩; replace hb2 := hb.trans hb2))
 go_ret2
 exact ⟨_, rfl, ⟨rfl, .inl ⟨rfl, rfl⟩⟩, H2, hb2⟩

theorem val_all : ∀ d, d ≤ 5 → ValOK d
 | 0, _ => val_zero
 | d + 1, h => val_succ d h (val_all d (by omega))

theorem own_nil {w : World} {base : Nat} {e : TypeId} : w.ownsRow base e 1 (.slice none 0 0) 0 [] := ⟨rfl, .inl ⟨rfl, rfl⟩⟩

set_option maxHeartbeats 1600000 in
/-- value.Parts. -/
theorem parts_calls (v : List UInt8) (W : World) (hv : Vars W) (hs : v.length ≤ 140737488351232) :
  Calls Tryz.prog 86 #[.string ⟨v.toArray⟩] W fun e w' => ∃ r, e = .returned (.tuple #[.int .i64 (Vp.parts v).1, r, .int .i64 (Vp.parts v).2.2]) ∧
   w'.ownsRow W.heap.size 9 1 r (Vp.parts v).2.1.length ((Vp.parts v).2.1.map tv) ∧ Below W.heap.size W w' := by
 have hz : (⟨v.toArray⟩ : ByteArray).size = v.length := mk_size v
 have hbox : Below W.heap.size W (W.alloc (.cells #[tv v, .bool false] 142)) := (Below.refl _ _).alloc (Nat.le_refl _) _
 by_cases hl : 65536 < v.length
 ·have HU := Lib.hid (show Vp.parts v = (0, [], 700) by unfold Vp.parts; rw [if_pos hl])
  have hl' : (65536 : Int) < (v.length : Int) := by omega
  go_enter Tryz.func86, Tryz.ntmps86
  go_wp2
  go_ret3
  rw [HU.out]
  exact ⟨_, rfl, own_nil, hbox⟩
 ·have hl' : ¬ (65536 : Int) < (v.length : Int) := by omega
  have hcall := val_all 5 (Nat.le_refl _) W.heap.size ⟨v, false⟩ (W.alloc (.cells #[tv v, .bool false] 142)) hv.six (hv.below hbox hv.six) (Row.new W _ _) (by simp only; omega)
  rw [show (5 : Int) - ((5 : Nat) : Int) = 0 by decide] at hcall
  have hU : Vp.parts v = (if (Vp.value 5 ⟨v, false⟩).2.2.bad = true ∨ (Vp.value 5 ⟨v, false⟩).2.2.rest ≠ [] then (0, [], 700) else ((Vp.value 5 ⟨v, false⟩).1, (Vp.value 5 ⟨v, false⟩).2.1, 0)) := by
   unfold Vp.parts
   rw [if_neg hl]
  rw [hU]
  clear hU
  generalize Vp.value 5 ⟨v, false⟩ = q at hcall ⊢
  obtain ⟨kind, ps, ⟨s, bad⟩⟩ := q
  have HC := Lib.hid hcall
  clear hcall
  cases bad with
  | true =>
   rw [if_pos (.inl rfl)]
   go_enter Tryz.func86, Tryz.ntmps86
   go_wp2_with (go_at_call 119; refine HC.out.mono ?_; rintro e w' ⟨r, rfl, ho, H, hb⟩; have c0 := H.c0; have c1 := H.c1; have hbel := hbox.grown hb (by simp) (fun k e => by have := Option.some.inj e; omega); replace ho := own_mono ho (base' := W.heap.size) (by simp))
   go_ret3
   exact ⟨_, rfl, own_nil, hbel⟩
  | false =>
   cases s with
   | nil =>
    rw [if_neg (by simp)]
    go_enter Tryz.func86, Tryz.ntmps86
    go_wp2_with (go_at_call 119; refine HC.out.mono ?_; rintro e w' ⟨r, rfl, ho, H, hb⟩; have c0 := H.c0; have c1 := H.c1; have hbel := hbox.grown hb (by simp) (fun k e => by have := Option.some.inj e; omega); replace ho := own_mono ho (base' := W.heap.size) (by simp))
    go_ret3
    exact ⟨_, rfl, ho, hbel⟩
   | cons x r =>
    rw [if_pos (.inr (by simp))]
    go_enter Tryz.func86, Tryz.ntmps86
    go_wp2_with (go_at_call 119; refine HC.out.mono ?_; rintro e w' ⟨r, rfl, ho, H, hb⟩; have c0 := H.c0; have c1 := H.c1; have hbel := hbox.grown hb (by simp) (fun k e => by have := Option.some.inj e; omega); replace ho := own_mono ho (base' := W.heap.size) (by simp))
    go_ret3
    exact ⟨_, rfl, own_nil, hbel⟩
end Go.Proofs.YtobhjlchpnpleaaGreatDoor

/- Chapter 7: the makers of values, and the comparison of rows of texts, walked. -/
namespace Go.Proofs.YtobhjlchpnpleaaGreatDoor
open Go.RowKit
set_option linter.unusedVariables false
set_option linter.unusedSimpArgs false

/-- A slice of texts. -/
def TextsAt (w : World) (v : Value) (xs : List Vp.Txt) : Prop :=
 ∃ a c, v = .slice a xs.length c ∧ xs.length ≤ c ∧ c ≤ maxLen ∧ (xs ≠ [] → ∃ bk o, a = some ⟨bk, o, none⟩ ∧ bk < w.heap.size ∧ ∀ j x, xs[j]? = some x → w.cell? ⟨bk, o + j, none⟩ = some (tv x))
theorem TextsAt.below {w w' : World} {v : Value} {xs : List Vp.Txt} (h : TextsAt w v xs) (hb : Below w.heap.size w w') : TextsAt w' v xs := by
 obtain ⟨a, c, rfl, h1, h2, h3⟩ := h
 refine ⟨a, c, rfl, h1, h2, fun hn => ?_⟩
 obtain ⟨bk, o, rfl, hk, hc⟩ := h3 hn
 exact ⟨bk, o, rfl, Nat.lt_of_lt_of_le hk hb.size, fun j x hx => by rw [hb.cell (p := ⟨bk, o + j, none⟩) hk]; exact hc j x hx⟩
theorem own_texts {w : World} {base : Nat} {v : Value} {xs : List Vp.Txt} (h : w.ownsRow base 9 1 v xs.length (xs.map tv)) : TextsAt w v xs := by
 obtain ⟨hl, h⟩ := h
 rcases h with ⟨rfl, hx⟩ | ⟨g, cap, cur, rfl, hb, hh, hnc, hm, hcs, htake⟩
 ·have hx' : xs = [] := by simpa using hx
  subst hx'
  exact ⟨none, 0, rfl, Nat.le_refl _, by decide, fun h => absurd rfl h⟩
 ·refine ⟨_, cap, rfl, hnc, hm, fun _ => ⟨g, 0, rfl, (Array.getElem?_eq_some_iff.1 hh).1, fun j x hx => ?_⟩⟩
  have hj := (List.getElem?_eq_some_iff.1 hx).1
  simp only [World.cell?, hh, Option.isSome_none, Bool.false_eq_true, if_false]
  rw [Nat.zero_add, ← Array.getElem?_toList]
  have h1 : (cur.toList.take (xs.length * 1))[j]? = some (tv x) := by rw [htake, List.getElem?_map, hx]; rfl
  rw [List.getElem?_take] at h1
  split at h1
  ·exact h1
  ·cases h1

theorem null_calls (w : World) : Calls Tryz.prog 116 #[] w fun e w' => e = .returned (.string ⟨#[110]⟩) ∧ w = w' := by
 go_enter Tryz.func116, Tryz.ntmps116
 go_wp2
 go_ret
 exact ⟨rfl, rfl⟩
theorem bool_calls (on : Bool) (w : World) : Calls Tryz.prog 96 #[.bool on] w fun e w' => e = .returned (tv (Vp.bool on)) ∧ w = w' := by
 cases on
 all_goals
  go_enter Tryz.func96, Tryz.ntmps96
  go_wp2
  go_ret
  exact ⟨rfl, rfl⟩
theorem digits_le (k : Nat) : ∀ n : Nat, n < 10 ^ (k + 1) → (Lib.decDigits n).length ≤ k + 1 := by
 induction k with
 | zero =>
  intro n h
  rw [Lib.decDigits, dif_pos (by omega)]
  simp
 | succ k ih =>
  intro n h
  rw [Lib.decDigits]
  split
  ·simp
  ·rw [List.length_append, List.length_singleton]
   have := ih (n / 10) (by rw [Nat.pow_succ] at h; omega)
   omega
theorem itoa_length (x : Int) (h0 : -9223372036854775808 ≤ x) (h1 : x ≤ 9223372036854775807) : (Lib.itoa x).length ≤ 20 := by
 unfold Lib.itoa
 split
 ·rw [List.length_cons]
  have := digits_le 18 x.natAbs (by omega)
  omega
 ·have := digits_le 18 x.toNat (by omega)
  omega
theorem mk_append (a b : List UInt8) : (⟨a.toArray⟩ : ByteArray) ++ ⟨b.toArray⟩ = ⟨(a ++ b).toArray⟩ := by
 apply ByteArray.ext
 simp

set_option maxHeartbeats 800000 in
theorem int_calls (x : Int) (W : World) (hv : Vars W) (h0 : -9223372036854775808 ≤ x) (h1 : x ≤ 9223372036854775807) :
  Calls Tryz.prog 136 #[.int .i64 x] W fun e w' => e = .returned (tv (Vp.int x)) ∧ Below W.heap.size W w' := by
 have hl := itoa_length x h0 h1
 have HC := Lib.hid (itoa_calls x W hv h0 h1)
 have HU := Lib.hid (show tv (Vp.int x) = .string (((⟨#[105]⟩ : ByteArray) ++ ⟨(Lib.itoa x).toArray⟩) ++ ⟨#[59]⟩) by
  rw [show (⟨#[105]⟩ : ByteArray) = ⟨[105].toArray⟩ from rfl, show (⟨#[59]⟩ : ByteArray) = ⟨[59].toArray⟩ from rfl, mk_append, mk_append]; rfl)
 have hz := mk_size (Lib.itoa x)
 go_enter Tryz.func136, Tryz.ntmps136
 go_wp2_with (go_at_call 152; refine HC.out.mono ?_; rintro e w' ⟨rfl, hb⟩)
 go_ret
 exact ⟨by rw [HU.out]; rfl, hb⟩

set_option maxHeartbeats 800000 in
theorem str_calls (l : List UInt8) (W : World) (hv : Vars W) (hs : l.length ≤ 140737488351232) :
  Calls Tryz.prog 138 #[.string ⟨l.toArray⟩] W fun e w' => e = .returned (tv (Vp.str l)) ∧ Below W.heap.size W w' := by
 have hl := itoa_length (l.length : Int) (by omega) (by omega)
 have hz1 := mk_size l
 have HC := Lib.hid (itoa_calls (l.length : Int) W hv (by omega) (by omega))
 have HU := Lib.hid (show tv (Vp.str l) = .string ((((⟨#[115]⟩ : ByteArray) ++ ⟨(Lib.itoa l.length).toArray⟩) ++ ⟨#[58]⟩) ++ ⟨l.toArray⟩) by
  rw [show (⟨#[115]⟩ : ByteArray) = ⟨[115].toArray⟩ from rfl, show (⟨#[58]⟩ : ByteArray) = ⟨[58].toArray⟩ from rfl, mk_append, mk_append, mk_append]; simp [Vp.str])
 have hz := mk_size (Lib.itoa l.length)
 go_enter Tryz.func138, Tryz.ntmps138
 go_wp2_with (go_at_call 152; refine HC.out.mono ?_; rintro e w' ⟨rfl, hb⟩)
 go_ret
 exact ⟨by rw [HU.out]; rfl, hb⟩

theorem flatten_join (xs : List Vp.Txt) : Lib.join xs [] = Vp.join xs := by
 unfold Lib.join Vp.join
 induction xs with
 | nil => rfl
 | cons x r ih =>
  cases r with
  | nil => simp [List.intercalate]
  | cons y r => simp [List.intercalate, List.intersperse] at ih ⊢; exact ih
theorem join_calls (v : Value) (xs : List Vp.Txt) (W : World) (ht : TextsAt W v xs) (hn : xs.length ≤ 140737488351232) (hl : (Vp.join xs).length ≤ 140737488351232) :
  ∃ a c, v = .slice a xs.length c ∧ Calls Tryz.prog 99 #[.slice a xs.length c, .string ⟨#[]⟩] W fun e w' => e = .returned (tv (Vp.join xs)) ∧ Below W.heap.size W w' := by
 obtain ⟨a, c, rfl, hc, hm, h3⟩ := ht
 refine ⟨a, c, rfl, ?_⟩
 by_cases hx : xs = []
 ·subst hx
  refine (Tryz.strings_Join_none a c ⟨#[]⟩ W).mono ?_
  rintro e w' ⟨rfl, rfl⟩
  exact ⟨rfl, Below.refl _ _⟩
 ·obtain ⟨bk, o, rfl, hk, hcell⟩ := h3 hx
  have hm' : (xs.map fun l : Vp.Txt => (⟨l.toArray⟩ : ByteArray)).map (·.data.toList) = xs := by simp [Function.comp_def]
  have hlen : (xs.map fun l : Vp.Txt => (⟨l.toArray⟩ : ByteArray)).length = xs.length := by simp
  have := Tryz.strings_Join bk o c (xs.map fun l => ⟨l.toArray⟩) ⟨#[]⟩ W (by
   intro j x hj
   rw [List.getElem?_map] at hj
   obtain ⟨y, hy, rfl⟩ := Option.map_eq_some_iff.1 hj
   exact hcell j y hy) hk (by rw [hlen]; omega) (by rw [hlen]; omega) (by rw [hm', show (⟨#[]⟩ : ByteArray).data.toList = [] from rfl, flatten_join]; omega)
  rw [hlen, hm', show (⟨#[]⟩ : ByteArray).data.toList = [] from rfl, flatten_join] at this
  exact this

set_option maxHeartbeats 800000 in
theorem list_calls (v : Value) (xs : List Vp.Txt) (W : World) (ht : TextsAt W v xs) (hn : xs.length ≤ 140737488351232) (hl : (Vp.join xs).length ≤ 140737488351232) :
  Calls Tryz.prog 139 #[v] W fun e w' => e = .returned (tv (Vp.list xs)) ∧ Below W.heap.size W w' := by
 obtain ⟨a, c, rfl, HJ⟩ := join_calls v xs W ht hn hl
 have hz := mk_size (Vp.join xs)
 have HC := Lib.hid HJ
 have HU := Lib.hid (show tv (Vp.list xs) = .string (((⟨#[91]⟩ : ByteArray) ++ ⟨(Vp.join xs).toArray⟩) ++ ⟨#[93]⟩) by
  rw [show (⟨#[91]⟩ : ByteArray) = ⟨[91].toArray⟩ from rfl, show (⟨#[93]⟩ : ByteArray) = ⟨[93].toArray⟩ from rfl, mk_append, mk_append]; rfl)
 clear HJ ht
 go_enter Tryz.func139, Tryz.ntmps139
 go_wp2_with (go_at_call 99; refine HC.out.mono ?_; rintro e w' ⟨rfl, hb⟩)
 go_ret
 exact ⟨by rw [HU.out]; rfl, hb⟩

set_option maxHeartbeats 800000 in
theorem struct_calls (v : Value) (xs : List Vp.Txt) (W : World) (ht : TextsAt W v xs) (hn : xs.length ≤ 140737488351232) (hl : (Vp.join xs).length ≤ 140737488351232) :
  Calls Tryz.prog 140 #[v] W fun e w' => e = .returned (tv (Vp.struct xs)) ∧ Below W.heap.size W w' := by
 obtain ⟨a, c, rfl, HJ⟩ := join_calls v xs W ht hn hl
 have hz := mk_size (Vp.join xs)
 have HC := Lib.hid HJ
 have HU := Lib.hid (show tv (Vp.struct xs) = .string (((⟨#[123]⟩ : ByteArray) ++ ⟨(Vp.join xs).toArray⟩) ++ ⟨#[125]⟩) by
  rw [show (⟨#[123]⟩ : ByteArray) = ⟨[123].toArray⟩ from rfl, show (⟨#[125]⟩ : ByteArray) = ⟨[125].toArray⟩ from rfl, mk_append, mk_append]; rfl)
 clear HJ ht
 go_enter Tryz.func140, Tryz.ntmps140
 go_wp2_with (go_at_call 99; refine HC.out.mono ?_; rintro e w' ⟨rfl, hb⟩)
 go_ret
 exact ⟨by rw [HU.out]; rfl, hb⟩

set_option maxHeartbeats 800000 in
theorem sameTexts_calls (v u : Value) (xs ys : List Vp.Txt) (W : World) (hx : TextsAt W v xs) (hy : TextsAt W u ys) :
  Calls Tryz.prog 22 #[v, u] W fun e w' => e = .returned (.bool (xs == ys)) ∧ Below W.heap.size W w' := by
 obtain ⟨a, c, rfl, hc, hm, h3⟩ := hx
 obtain ⟨a', c', rfl, hc', hm', h3'⟩ := hy
 unfold maxLen at hm hm'
 by_cases hlen : xs.length = ys.length
 ·have hlen' : (ys.length : Int) = (xs.length : Int) := by omega
  replace h3 := Lib.hid h3
  replace h3' := Lib.hid h3'
  go_enter Tryz.func22, Tryz.ntmps22
  go_wp2
  go_loopw [5] (fun i wr => ∃ k : Nat, k ≤ xs.length ∧ i = .int .i64 k ∧ xs.take k = ys.take k ∧ Below W.heap.size W wr) (fun i _ => xs.length - (intOf i).toNat)
  case atStart => exact ⟨0, Nat.zero_le _, rfl, by simp, Below.refl _ _⟩
  case round =>
   obtain ⟨k, hk, rfl, htk, hb⟩ := hrel
   by_cases hlt : k < xs.length
   ·obtain ⟨bk, o, rfl, hbk, hcell⟩ := h3.out (by intro e; rw [e] at hlt; exact Nat.not_lt_zero _ hlt)
    obtain ⟨bk', o', rfl, hbk', hcell'⟩ := h3'.out (by intro e; rw [e] at hlen; rw [hlen] at hlt; exact Nat.not_lt_zero _ hlt)
    have hlt2 : k < ys.length := by omega
    have c1 : wr.cell? ⟨bk, o + k, none⟩ = some (.string ⟨xs[k].toArray⟩) := (hb.cell (p := ⟨bk, o + k, none⟩) hbk).trans (hcell k _ (List.getElem?_eq_getElem hlt))
    have c2 : wr.cell? ⟨bk', o' + k, none⟩ = some (.string ⟨ys[k].toArray⟩) := (hb.cell (p := ⟨bk', o' + k, none⟩) hbk').trans (hcell' k _ (List.getElem?_eq_getElem hlt2))
    have HT := Lib.hid htk
    clear htk hcell hcell'
    generalize hx : xs[k] = x at c1
    generalize hy : ys[k] = y at c2
    have HX := Lib.hid hx
    have HY := Lib.hid hy
    clear hx hy
    by_cases hxy : x = y
    ·subst hxy
     clear h3 h3'
     go_wp2
     go_quiet (fail)
     go_wp2
     refine ⟨⟨k + 1, by omega, by go_num, ?_, below_drewN hb nq⟩, by simp [intOf]; omega⟩
     rw [List.take_succ_eq_append_getElem hlt, List.take_succ_eq_append_getElem hlt2, HT.out, HX.out, HY.out]
    ·clear h3 h3'
     have hxy' : (x == y) = false := by simp [hxy]
     go_wp2
     go_quiet (fail)
     go_wp2
     go_ret
     have HU : (xs == ys) = false := by
      rw [beq_eq_false_iff_ne]
      intro e
      subst e
      exact hxy (HX.out.symm.trans HY.out)
     exact ⟨by rw [HU]; rfl, below_drewN hb nq⟩
   ·obtain rfl : k = xs.length := by omega
    have HU := Lib.hid (show (xs == ys) = true by rw [beq_iff_eq]; rw [List.take_length, hlen, List.take_length] at htk; exact htk)
    clear htk
    go_wp2
    go_ret
    exact ⟨by rw [HU.out]; rfl, hb⟩
 ·have hlen' : ¬ (xs.length : Int) = (ys.length : Int) := by omega
  have HU := Lib.hid (show (xs == ys) = false by rw [beq_eq_false_iff_ne]; intro e; exact hlen (by rw [e]))
  go_enter Tryz.func22, Tryz.ntmps22
  go_wp2
  go_ret
  exact ⟨by rw [HU.out]; rfl, Below.refl _ _⟩
end Go.Proofs.YtobhjlchpnpleaaGreatDoor
