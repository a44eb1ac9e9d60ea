/- Several texts in one: RefNum, RefVal. -/
import Derived.Test.YtobhjlchpnpleaaGreatDoorCa7
import Derived.Test.YtobhjlchpnpleaaGreatDoorCa1
import Derived.Test.YtobhjlchpnpleaaGreatDoorCa2
/- The references' numbers and makers of values, walked: Decimal, digits, Int, Bytes, all, List, Struct. -/
namespace Go.Proofs.YtobhjlchpnpleaaGreatDoor
open Go.RowKit
set_option linter.unusedVariables false
set_option linter.unusedSimpArgs false

theorem info_u8 : (Tryz.prog.info? 5).map (fun i => (i.zero, i.size, i.bytes)) = some (some (.int .u8 0), 1, 1) := by kernel_rfl
/-- Digits in front of a place. -/
def headDigits (z : Nat) : Vp.Txt := if z = 0 then [] else Lib.decDigits z
theorem head_step (z : Nat) (l : Vp.Txt) (h : 0 < z) : headDigits z ++ l = headDigits (z / 10) ++ (UInt8.ofNat (48 + z % 10) :: l) := by
 unfold headDigits
 rw [if_neg (by omega), Lib.decDigits]
 by_cases h10 : z < 10
 ·rw [dif_pos h10, if_pos (by omega), show z % 10 = z by omega]; rfl
 ·rw [dif_neg h10, if_neg (by omega)]; simp
theorem dec_zero : Lib.decDigits 0 = [48] := by rw [Lib.decDigits, dif_pos (by decide)]; rfl
/-- How far Decimal is. -/
def DecAt (x z : Nat) (l : Vp.Txt) : Prop := (l = [] ∧ z = x) ∨ (l ≠ [] ∧ Lib.decDigits x = headDigits z ++ l)
theorem decAt_step {x z : Nat} {l : Vp.Txt} (h : DecAt x z l) (hz : 0 < z ∨ l = []) : DecAt x (z / 10) (UInt8.ofNat (48 + z % 10) :: l) := by
 refine .inr ⟨by simp, ?_⟩
 rcases h with ⟨rfl, rfl⟩ | ⟨h1, h2⟩
 ·by_cases h0 : 0 < z
  ·rw [← head_step z [] h0]
   unfold headDigits
   rw [if_neg (by omega), List.append_nil]
  ·obtain rfl : z = 0 := by omega
   rw [dec_zero]; rfl
 ·rcases hz with hz | hz
  ·rw [h2, head_step z l hz]
  ·exact absurd hz h1
theorem decAt_end {x : Nat} {l : Vp.Txt} (h : DecAt x 0 l) (hl : l ≠ []) : l = Lib.decDigits x := by
 rcases h with ⟨h1, _⟩ | ⟨_, h2⟩
 ·exact absurd h1 hl
 ·rw [h2]; rfl
theorem dec_length (x : Nat) (h : x ≤ 9223372036854775807) : (Lib.decDigits x).length ≤ 20 := by
 have := digits_le 18 x (by omega)
 omega
theorem decAt_len {x z : Nat} {l : Vp.Txt} (h : DecAt x z l) (hx : x ≤ 9223372036854775807) : l.length ≤ 20 := by
 rcases h with ⟨rfl, _⟩ | ⟨_, h2⟩
 ·simp
 ·have h1 := dec_length x hx
  rw [h2, List.length_append] at h1
  omega
theorem own_src {w : World} {base n : Nat} {e : TypeId} {A : Option Addr} {c : Nat} {xs : List Value} (h : w.ownsRow base e 1 (.slice A n c) n xs) : n ≠ 0 → ∃ ad, A = some ad ∧ ∀ j u, xs[j]? = some u → w.cell? (ad.add j) = some u := by
 intro hn
 rcases h.2 with ⟨hv, hn0⟩ | ⟨g, cap, cur, hv, hb, hh, hnc, hm, hcs, htake⟩
 ·simp only [Value.slice.injEq] at hv; omega
 ·obtain ⟨rfl, _, rfl⟩ := Value.slice.inj hv
  refine ⟨_, rfl, fun j u hu => ?_⟩
  have hj := (List.getElem?_eq_some_iff.1 hu).1
  rw [add_zero_]
  simp only [World.cell?, hh, Option.isSome_none, Bool.false_eq_true, if_false]
  rw [← Array.getElem?_toList]
  rw [← htake, List.getElem?_take] at hu
  split at hu
  ·exact hu
  ·cases hu
theorem bv_one (l : Vp.Txt) : ∀ u ∈ l.map bv, u.oneCell' = true := by
 intro u hu
 obtain ⟨c, _, rfl⟩ := List.mem_map.1 hu
 rfl
/-- 'string(b)' of a row of the call's own. -/
theorem run_string_own {w : World} {base n : Nat} {v : Value} {l : Vp.Txt} (h : w.ownsRow base 5 1 v n (l.map bv)) (hn : n = l.length) (hl : l ≠ []) :
  (convert 132 9 v).run Tryz.prog w = .ok (tv l) w := by
 have hpos : 0 < n := by rw [hn]; exact List.length_pos_iff.2 hl
 obtain ⟨g, cap, rfl, _, hc, _, hr⟩ := own_row h hpos
 exact run_string (P := Tryz.prog) 132 9 5 Tryz.underlying132 Tryz.underlying5 Tryz.underlying9 g n cap l hn hr

set_option maxHeartbeats 1600000 in
theorem decimal_calls (x : Nat) (W : World) (hx : x ≤ 9223372036854775807) :
  Calls Tryz.prog 105 #[.int .i64 (x : Int)] W fun e w' => e = .returned (tv (Lib.decDigits x)) ∧ Below W.heap.size W w' := by
 have h0 : decide ((x : Int) < 0) = false := by simp
 have hu : IntKind.u64.wrap (x : Int) = (x : Int) := by
  have : IntKind.u64.wrap (x : Int) = (x : Int) % 18446744073709551616 := by simp [IntKind.wrap, IntKind.bits, IntKind.signed]
  omega
 go_enter Tryz.func105, Tryz.ntmps105
 go_wp2
 go_loopw [3, 4] (fun s v wr => ∃ (z : Nat) (l : Vp.Txt), s = .int .u64 (z : Int) ∧ z ≤ x ∧ DecAt x z l ∧ wr.ownsRow W.heap.size 5 1 v l.length (l.map bv) ∧ Below W.heap.size W wr)
  (fun s v _ => (intOf s).toNat + (match v with | .slice _ n _ => if n = 0 then 1 else 0 | _ => 0))
 case atStart => exact ⟨x, [], rfl, Nat.le_refl _, .inl ⟨rfl, rfl⟩, own_nil, Below.refl _ _⟩
 case round =>
  obtain ⟨z, l, rfl, hz, hD, ho, hb⟩ := hrel
  obtain ⟨A, c, rfl⟩ := own_slice ho
  have hl20 := decAt_len hD hx
  have HD := Lib.hid hD
  have HO := Lib.hid ho
  clear hD ho
  by_cases hgo : 0 < z ∨ l = []
  ·have hst := decAt_step HD.out hgo
   have HS := Lib.hid hst
   clear hst
   have hsrc := own_src (HO.out.alloc (.cells #[.int .u8 (48 + (z : Int) % 10)] 5))
   have hdst := own_lit wr W.heap.size 5 [.int .u8 (48 + (z : Int) % 10)] hb.size (by simp [maxLen])
   have HSRC := Lib.hid hsrc
   have HDST := Lib.hid hdst
   clear hsrc hdst
   have hm0 : (0 : Int) ≤ (z : Int) % 10 ∧ (z : Int) % 10 < 10 := by omega
   have hcell : [Value.int .u8 (48 + (z : Int) % 10)] ++ l.map bv = (UInt8.ofNat (48 + z % 10) :: l).map bv := by
    rw [List.map_cons]
    show _ :: l.map bv = _
    rw [show bv (UInt8.ofNat (48 + z % 10)) = Value.int .u8 (48 + (z : Int) % 10) from congrArg (Value.int .u8) (by rw [Vp.dig _ (Nat.mod_lt _ (by decide))]; omega)]
   have HC := Lib.hid hcell
   clear hcell
   by_cases hz0 : 0 < z
   ·go_wp2_with (at_builtin; refine wp_appS rfl _ _ 132 5 rfl W.heap.size 1 1 (.int .u8 0) Tryz.underlying132 info_u8 rfl (by decide) _ 1 _ rfl HDST.out A l.length c (l.map bv) rfl (by simp) HSRC.out (bv_one l) (by omega) (by omega) (by have := hb.size; simp; omega) ?_; intro v2 w2 ho2 hb2 hg2)
    obtain ⟨A2, c2, rfl⟩ := own_slice ho2
    refine ⟨⟨z / 10, UInt8.ofNat (48 + z % 10) :: l, congrArg (Value.int .u64) (by omega), by omega, HS.out, ?_, (below_alloc hb _).trans hb2⟩, ?_⟩
    ·rw [HC.out, Nat.add_comm] at ho2
     rw [Nat.add_comm]
     exact ho2
    ·simp [intOf]; omega
   ·obtain rfl : z = 0 := by omega
    have hl0 : l = [] := by rcases hgo with h | h; exact absurd h hz0; exact h
    subst hl0
    go_wp2_with (at_builtin; refine wp_appS rfl _ _ 132 5 rfl W.heap.size 1 1 (.int .u8 0) Tryz.underlying132 info_u8 rfl (by decide) _ 1 _ rfl HDST.out A 0 c [] rfl (by simp) (fun h => absurd rfl h) (by simp) (by omega) (by omega) (by have := hb.size; simp; omega) ?_; intro v2 w2 ho2 hb2 hg2)
    obtain ⟨A2, c2, rfl⟩ := own_slice ho2
    refine ⟨⟨0, [48], rfl, by omega, HS.out, ?_, (below_alloc hb _).trans hb2⟩, ?_⟩
    ·have h := HC.out
     simp only [List.map_nil] at h
     rw [h] at ho2
     exact ho2
    ·simp [intOf]
  ·have hz0 : z = 0 := by omega
   have hl0 : l ≠ [] := fun h => hgo (.inr h)
   subst hz0
   have he := decAt_end HD.out hl0
   have hcv := run_string_own (HO.out) rfl hl0
   have hn0 : ((l.length : Int) == 0) = false := by
    rw [beq_eq_false_iff_ne]
    have := List.length_pos_iff.2 hl0
    omega
   have HE := Lib.hid he
   clear he hgo
   go_wp2
   go_ret
   exact ⟨by rw [← HE.out]; rfl, hb⟩

theorem bv_dig (r : Nat) (h : r < 10) : bv (UInt8.ofNat (48 + r)) = .int .u8 (48 + (r : Int)) := congrArg (Value.int .u8) (by rw [Vp.dig r h]; omega)
theorem run_digit (w : World) (r : Nat) (h : r < 10) : (convert 132 9 (.slice (some ⟨w.heap.size, 0, none⟩) 1 1)).run Tryz.prog (w.alloc (.cells #[.int .u8 (48 + (r : Int))] 5)) = .ok (tv [UInt8.ofNat (48 + r)]) (w.alloc (.cells #[.int .u8 (48 + (r : Int))] 5)) := by
 have hr := Row.new w 5 #[.int .u8 (48 + (r : Int))]
 refine run_string (P := Tryz.prog) 132 9 5 Tryz.underlying132 Tryz.underlying5 Tryz.underlying9 w.heap.size 1 1 [UInt8.ofNat (48 + r)] rfl ?_
 rw [List.map_cons, List.map_nil, bv_dig r h]
 exact hr
theorem dec_length9 (x : Nat) (h : x ≤ 9223372036854775808) : (Lib.decDigits x).length ≤ 20 := by
 have := digits_le 18 x (by omega)
 omega
theorem tmod_neg (z : Nat) : (-(z : Int)).tmod 10 = -(((z % 10 : Nat)) : Int) := by
 rw [Int.neg_tmod, Int.tmod_eq_emod_of_nonneg (by omega)]
 omega
theorem tdiv_neg (z : Nat) : (-(z : Int)).tdiv 10 = -(((z / 10 : Nat)) : Int) := by
 rw [Int.neg_tdiv, Int.tdiv_eq_ediv_of_nonneg (by omega)]
 omega
set_option maxHeartbeats 1600000 in
set_option maxRecDepth 100000 in
theorem digits_calls (x : Int) (W : World) (h0 : -9223372036854775808 ≤ x) (h1 : x ≤ 9223372036854775807) :
  Calls Tryz.prog 77 #[.int .i64 x] W fun e w' => e = .returned (tv (Lib.itoa x)) ∧ Below W.heap.size W w' := by
 by_cases hx : 0 ≤ x
 ·obtain ⟨n, rfl⟩ := Int.eq_ofNat_of_zero_le hx
  have HD := Lib.hid (decimal_calls n W (by omega))
  have HU := Lib.hid (show Lib.itoa (n : Int) = Lib.decDigits n by unfold Lib.itoa; rw [if_neg (by omega)]; rfl)
  go_enter Tryz.func77, Tryz.ntmps77
  go_wp2_with (fail)
  refine HD.out.mono ?_; rintro e w1 ⟨rfl, hb⟩
  go_wp2
  go_ret
  exact ⟨by rw [HU.out]; rfl, hb⟩
 ·have hx' : ¬ 0 ≤ x := hx
  have HU := Lib.hid (show Lib.itoa x = 45 :: Lib.decDigits x.natAbs by unfold Lib.itoa; rw [if_pos (by omega)])
  obtain ⟨m, hm⟩ : ∃ m : Nat, x = -(m : Int) := ⟨x.natAbs, by omega⟩
  have hm0 : 0 < m := by omega
  have hm1 : m ≤ 9223372036854775808 := by omega
  rw [show x.natAbs = m by omega] at HU
  subst hm
  clear h0 h1 hx
  go_enter Tryz.func77, Tryz.ntmps77
  go_wp2
  clear hx'
  go_loopw [0, 3] (fun y s wr => ∃ (z : Nat) (l : Vp.Txt), y = .int .i64 (-(z : Int)) ∧ z ≤ m ∧ s = tv l ∧ l.length ≤ 20 ∧ Lib.decDigits m = headDigits z ++ l ∧ Below W.heap.size W wr) (fun y _ _ => (intOf y).natAbs)
  case atStart => exact ⟨m, [], rfl, Nat.le_refl _, rfl, by simp, by unfold headDigits; rw [if_neg (by omega), List.append_nil], Below.refl _ _⟩
  case round =>
   obtain ⟨z, l, rfl, hz, rfl, hl, hD, hb⟩ := hrel
   have HD := Lib.hid hD
   clear hD
   by_cases hz0 : 0 < z
   ·have ht := tmod_neg z
    have hq := tdiv_neg z
    have hzz : z % 10 < 10 := Nat.mod_lt _ (by decide)
    have hst := head_step z l hz0
    obtain ⟨r, hr⟩ : ∃ r, z % 10 = r := ⟨_, rfl⟩
    obtain ⟨q, hq'⟩ : ∃ q, z / 10 = q := ⟨_, rfl⟩
    have hqz : q < z := by omega
    rw [hr] at ht hzz hst
    rw [hq'] at hq hst
    have HST := Lib.hid hst
    clear hst hr hq'
    have hcv := run_digit wr r hzz
    have hzl := mk_size l
    obtain ⟨d, hd⟩ : ∃ d, UInt8.ofNat (48 + r) = d := ⟨_, rfl⟩
    rw [hd] at hcv HST
    clear hd
    go_wp2
    refine ⟨⟨q, d :: l, rfl, by omega, congrArg Value.string (mk_append [d] l), ?_, by rw [HD.out, HST.out], below_alloc hb _⟩, by simp [intOf]; omega⟩
    have h1 := dec_length9 m hm1
    rw [HD.out, HST.out, List.length_append] at h1
    omega
   ·obtain rfl : z = 0 := by omega
    have hz0' : ¬ (-((0 : Nat) : Int)) < 0 := by omega
    have hzl := mk_size l
    go_wp2
    go_ret
    exact ⟨by rw [HU.out, HD.out]; exact congrArg (fun s => Ending.returned (.string s)) (mk_append [45] l), hb⟩

theorem refInt_calls (x : Int) (W : World) (h0 : -9223372036854775808 ≤ x) (h1 : x ≤ 9223372036854775807) :
  Calls Tryz.prog 45 #[.int .i64 x] W fun e w' => e = .returned (tv (Vp.int x)) ∧ Below W.heap.size W w' := by
 have hl := itoa_length x h0 h1
 have HC := Lib.hid (digits_calls x W h0 h1)
 have HU := Lib.hid (show tv (Vp.int x) = .string (((⟨#[105]⟩ : ByteArray) ++ ⟨(Lib.itoa x).toArray⟩) ++ ⟨#[59]⟩) by
  rw [show (⟨#[105]⟩ : ByteArray) = ⟨[105].toArray⟩ from rfl, show (⟨#[59]⟩ : ByteArray) = ⟨[59].toArray⟩ from rfl, mk_append, mk_append]; rfl)
 have hz := mk_size (Lib.itoa x)
 go_enter Tryz.func45, Tryz.ntmps45
 go_wp2_with (fail)
 refine HC.out.mono ?_; rintro e w' ⟨rfl, hb⟩
 go_wp2
 go_ret
 exact ⟨by rw [HU.out]; rfl, hb⟩
theorem refBool_calls (on : Bool) (w : World) : Calls Tryz.prog 65 #[.bool on] w fun e w' => e = .returned (tv (Vp.bool on)) ∧ w = w' := by
 cases on
 all_goals
  go_enter Tryz.func65, Tryz.ntmps65
  go_wp2
  go_ret
  exact ⟨rfl, rfl⟩
theorem itoa_nat (n : Nat) : Lib.itoa (n : Int) = Lib.decDigits n := by unfold Lib.itoa; rw [if_neg (by omega)]; rfl
theorem refStr_calls (l : List UInt8) (W : World) (hs : l.length ≤ 140737488351232) :
  Calls Tryz.prog 68 #[.string ⟨l.toArray⟩] W fun e w' => e = .returned (tv (Vp.str l)) ∧ Below W.heap.size W w' := by
 have hl := dec_length l.length (by omega)
 have hz1 := mk_size l
 have HC := Lib.hid (decimal_calls l.length W (by omega))
 have HU := Lib.hid (show tv (Vp.str l) = .string ((((⟨#[115]⟩ : ByteArray) ++ ⟨(Lib.decDigits l.length).toArray⟩) ++ ⟨#[58]⟩) ++ ⟨l.toArray⟩) by
  rw [show (⟨#[115]⟩ : ByteArray) = ⟨[115].toArray⟩ from rfl, show (⟨#[58]⟩ : ByteArray) = ⟨[58].toArray⟩ from rfl, mk_append, mk_append, mk_append]; simp [Vp.str, itoa_nat])
 have hz := mk_size (Lib.decDigits l.length)
 go_enter Tryz.func68, Tryz.ntmps68
 go_wp2_with (fail)
 refine HC.out.mono ?_; rintro e w' ⟨rfl, hb⟩
 go_wp2
 go_ret
 exact ⟨by rw [HU.out]; rfl, hb⟩
theorem join_take (xs : List Vp.Txt) (k : Nat) (h : k < xs.length) : Vp.join (xs.take (k + 1)) = Vp.join (xs.take k) ++ xs[k] := by
 unfold Vp.join
 rw [List.take_succ_eq_append_getElem h, List.flatten_append]
 simp only [List.flatten_cons, List.flatten_nil, List.append_nil]
theorem join_take_le (xs : List Vp.Txt) (k : Nat) : (Vp.join (xs.take k)).length ≤ (Vp.join xs).length := by
 have h : Vp.join xs = Vp.join (xs.take k) ++ Vp.join (xs.drop k) := by
  unfold Vp.join
  rw [← List.flatten_append, List.take_append_drop]
 rw [h, List.length_append]
 omega
set_option maxHeartbeats 800000 in
theorem all_text_calls (v : Value) (xs : List Vp.Txt) (W : World) (ht : TextsAt W v xs) (hl : (Vp.join xs).length ≤ 140737488351232) :
  Calls Tryz.prog 46 #[v] W fun e w' => e = .returned (tv (Vp.join xs)) ∧ Below W.heap.size W w' := by
 obtain ⟨a, c, rfl, hc, hm, h3⟩ := ht
 unfold maxLen at hm
 replace h3 := Lib.hid h3
 go_enter Tryz.func46, Tryz.ntmps46
 go_wp2
 go_loopw [3, 4] (fun s i wr => ∃ k : Nat, k ≤ xs.length ∧ i = .int .i64 k ∧ s = tv (Vp.join (xs.take k)) ∧ Below W.heap.size W wr) (fun _ i _ => xs.length - (intOf i).toNat)
 case atStart => exact ⟨0, Nat.zero_le _, rfl, by simp [Vp.join], Below.refl _ _⟩
 case round =>
  obtain ⟨k, hk, rfl, rfl, hb⟩ := hrel
  by_cases hlt : k < xs.length
  ·obtain ⟨bk, o, rfl, hbk, hcell⟩ := h3.out (by intro e; rw [e] at hlt; exact Nat.not_lt_zero _ hlt)
   have c1 : wr.cell? ⟨bk, o + k, none⟩ = some (.string ⟨xs[k].toArray⟩) := (hb.cell (p := ⟨bk, o + k, none⟩) hbk).trans (hcell k _ (List.getElem?_eq_getElem hlt))
   have hj := join_take_le xs (k + 1)
   have hst := join_take xs k hlt
   rw [hst, List.length_append] at hj
   have HS := Lib.hid hst
   clear hst hcell h3
   generalize xs[k] = x at c1 hj HS
   generalize Vp.join (xs.take k) = y at hj HS
   have z1 := mk_size x
   have z2 := mk_size y
   go_wp2
   exact ⟨⟨k + 1, by omega, by go_num, by rw [HS.out]; exact congrArg Value.string (mk_append y x), hb⟩, by simp [intOf]; omega⟩
  ·obtain rfl : k = xs.length := by omega
   have HT := Lib.hid (show xs.take xs.length = xs from List.take_length)
   go_wp2
   go_ret
   exact ⟨by rw [HT.out]; rfl, hb⟩
theorem refList_calls (v : Value) (xs : List Vp.Txt) (W : World) (ht : TextsAt W v xs) (hl : (Vp.join xs).length ≤ 140737488351232) :
  Calls Tryz.prog 25 #[v] W fun e w' => e = .returned (tv (Vp.list xs)) ∧ Below W.heap.size W w' := by
 have hz := mk_size (Vp.join xs)
 have HC := Lib.hid (all_text_calls v xs W ht hl)
 have HU := Lib.hid (show tv (Vp.list xs) = .string (((⟨#[91]⟩ : ByteArray) ++ ⟨(Vp.join xs).toArray⟩) ++ ⟨#[93]⟩) by
  rw [show (⟨#[91]⟩ : ByteArray) = ⟨[91].toArray⟩ from rfl, show (⟨#[93]⟩ : ByteArray) = ⟨[93].toArray⟩ from rfl, mk_append, mk_append]; rfl)
 clear ht
 go_enter Tryz.func25, Tryz.ntmps25
 go_wp2_with (fail)
 refine HC.out.mono ?_; rintro e w' ⟨rfl, hb⟩
 go_wp2
 go_ret
 exact ⟨by rw [HU.out]; rfl, hb⟩
theorem refStruct_calls (v : Value) (xs : List Vp.Txt) (W : World) (ht : TextsAt W v xs) (hl : (Vp.join xs).length ≤ 140737488351232) :
  Calls Tryz.prog 69 #[v] W fun e w' => e = .returned (tv (Vp.struct xs)) ∧ Below W.heap.size W w' := by
 have hz := mk_size (Vp.join xs)
 have HC := Lib.hid (all_text_calls v xs W ht hl)
 have HU := Lib.hid (show tv (Vp.struct xs) = .string (((⟨#[123]⟩ : ByteArray) ++ ⟨(Vp.join xs).toArray⟩) ++ ⟨#[125]⟩) by
  rw [show (⟨#[123]⟩ : ByteArray) = ⟨[123].toArray⟩ from rfl, show (⟨#[125]⟩ : ByteArray) = ⟨[125].toArray⟩ from rfl, mk_append, mk_append]; rfl)
 clear ht
 go_enter Tryz.func69, Tryz.ntmps69
 go_wp2_with (fail)
 refine HC.out.mono ?_; rintro e w' ⟨rfl, hb⟩
 go_wp2
 go_ret
 exact ⟨by rw [HU.out]; rfl, hb⟩
end Go.Proofs.YtobhjlchpnpleaaGreatDoor

/- The reference's reading of values, walked: whole, upto. -/
namespace Go.Proofs.YtobhjlchpnpleaaGreatDoor
open Go.RowKit
set_option linter.unusedVariables false
set_option linter.unusedSimpArgs false

/-- What whole answers. -/
def WholeOK (l : Vp.Txt) (W : World) (e : Ending) (w' : World) : Prop :=
 ∃ x b, e = .returned (.tuple #[.int .i64 x, .bool b]) ∧ (b = true → l = Lib.itoa x ∧ -9223372036854775808 ≤ x ∧ x ≤ 9223372036854775807) ∧ (b = false → ∀ y, -9223372036854775808 ≤ y → y ≤ 9223372036854775807 → l ≠ Lib.itoa y) ∧ Below W.heap.size W w'
def PartOK (l : Vp.Txt) (k : Nat) (X : Int) : Prop := (-9223372036854775808 ≤ X ∧ X ≤ 9223372036854775807) ∧ ∀ y, -9223372036854775808 ≤ y → y ≤ 9223372036854775807 → l = Lib.itoa y → X = if y < 0 then -(lowAt l 1 k : Int) else (lowAt l 0 k : Int)
theorem part_start (l : Vp.Txt) : PartOK l 0 0 := ⟨by omega, fun y _ _ _ => by split <;> simp [lowAt, Vp.dval_nil]⟩
theorem wid {x : Int} (h0 : -9223372036854775808 ≤ x) (h1 : x ≤ 9223372036854775807) : wrap64 x = x := by simp only [wrap64]; omega
theorem wrap64_rng (x : Int) : -9223372036854775808 ≤ wrap64 x ∧ wrap64 x ≤ 9223372036854775807 := by simp only [wrap64]; omega
theorem head_neg {y : Int} (hl : 0 < (Lib.itoa y).length) : ((Lib.itoa y)[0] = 45) ↔ y < 0 := by
 have h := itoa_head y hl
 constructor
 ·intro e
  rw [e] at h
  simpa using h.symm
 ·intro e
  rw [decide_eq_true e, beq_iff_eq] at h
  exact UInt8.toNat_inj.1 (show _ = 45 by omega)
/-- The sign. -/
theorem part_sign {l : Vp.Txt} {X : Int} (h : PartOK l 0 X) (hl : 0 < l.length) (hc : l[0] = 45) : PartOK l 1 X := by
 refine ⟨h.1, fun y h0 h1 he => ?_⟩
 have := h.2 y h0 h1 he
 subst he
 have hy := (head_neg hl).1 hc
 rw [if_pos hy] at this ⊢
 rw [this]
 simp [lowAt]
theorem low_neg {y : Int} (hy : y < 0) : (Lib.itoa y).drop 1 = Lib.decDigits y.natAbs := by unfold Lib.itoa; rw [if_pos hy]; rfl
theorem low_pos {y : Int} (hy : ¬ y < 0) : (Lib.itoa y).drop 0 = Lib.decDigits y.natAbs := by unfold Lib.itoa; rw [if_neg hy, List.drop_zero, show y.toNat = y.natAbs by omega]
theorem part_neg {l : Vp.Txt} {k : Nat} {X : Int} (h : PartOK l k X) (hl : 0 < l.length) (hs : l[0] = 45) (hk : k < l.length) (hd : 48 ≤ l[k].toNat) :
  PartOK l (k + 1) (wrap64 (wrap64 (10 * X) - ((l[k].toNat : Int) - 48))) := by
 refine ⟨wrap64_rng _, fun y h0 h1 he => ?_⟩
 have hx := h.2 y h0 h1 he
 subst he
 have hy := (head_neg hl).1 hs
 rw [if_pos hy] at hx ⊢
 have hk0 : 1 ≤ k := by
  rcases Nat.eq_zero_or_pos k with h | h
  ·subst h; rw [hs] at hd; simp at hd
  ·exact h
 have hst := lowAt_step (Lib.itoa y) 1 k hk0 hk
 have hle := lowAt_le y 1 (k + 1) (low_neg hy)
 generalize lowAt (Lib.itoa y) 1 (k + 1) = B at hst hle ⊢
 generalize lowAt (Lib.itoa y) 1 k = A at hst hx
 generalize (Lib.itoa y)[k].toNat = c at hst hd ⊢
 have hb : (B : Int) ≤ 9223372036854775808 := by omega
 subst hx
 rw [wid (x := 10 * -(A : Int)) (by omega) (by omega), wid (by omega) (by omega)]
 omega
theorem part_pos {l : Vp.Txt} {k : Nat} {X : Int} (h : PartOK l k X) (hl : 0 < l.length) (hs : l[0] ≠ 45) (hk : k < l.length) (hd : 48 ≤ l[k].toNat) :
  PartOK l (k + 1) (wrap64 (wrap64 (10 * X) + ((l[k].toNat : Int) - 48))) := by
 refine ⟨wrap64_rng _, fun y h0 h1 he => ?_⟩
 have hx := h.2 y h0 h1 he
 subst he
 have hy : ¬ y < 0 := fun h => hs ((head_neg hl).2 h)
 rw [if_neg hy] at hx ⊢
 have hst := lowAt_step (Lib.itoa y) 0 k (Nat.zero_le _) hk
 have hle := lowAt_le y 0 (k + 1) (low_pos hy)
 generalize lowAt (Lib.itoa y) 0 (k + 1) = B at hst hle ⊢
 generalize lowAt (Lib.itoa y) 0 k = A at hst hx
 generalize (Lib.itoa y)[k].toNat = c at hst hd ⊢
 have hb : (B : Int) ≤ 9223372036854775808 := by omega
 subst hx
 have hb' : (B : Int) ≤ 9223372036854775807 := by omega
 rw [wid (x := 10 * (A : Int)) (by omega) (by omega), wid (by omega) (by omega)]
 omega
theorem part_end {l : Vp.Txt} {X : Int} (h : PartOK l l.length X) (y : Int) (h0 : -9223372036854775808 ≤ y) (h1 : y ≤ 9223372036854775807) (he : l = Lib.itoa y) : X = y := by
 have hx := h.2 y h0 h1 he
 subst he
 split at hx
 ·rename_i hy
  rw [lowAt_end y 1 (low_neg hy)] at hx
  omega
 ·rename_i hy
  rw [lowAt_end y 0 (low_pos hy)] at hx
  omega
theorem not_digit {l : Vp.Txt} {k : Nat} (hk : k < l.length) (h : l[k].toNat < 48 ∨ 57 < l[k].toNat) (hm : ¬ (k = 0 ∧ l[k].toNat = 45)) (y : Int) : l ≠ Lib.itoa y := by
 intro he
 subst he
 by_cases hy : y < 0
 ·rcases Nat.eq_zero_or_pos k with h0 | h0
  ·subst h0
   have := (head_neg (y := y) hk).2 hy
   exact hm ⟨rfl, by rw [this]; rfl⟩
  ·have := itoa_digit y 1 k (low_neg hy) h0 hk
   omega
 ·have := itoa_digit y 0 k (low_pos hy) (Nat.zero_le _) hk
  omega

set_option maxHeartbeats 3200000 in
theorem whole_calls (l : Vp.Txt) (W : World) (hs : l.length ≤ 140737488351232) :
  Calls Tryz.prog 73 #[.string ⟨l.toArray⟩] W (WholeOK l W) := by
 have hz := mk_size l
 go_enter Tryz.func73, Tryz.ntmps73
 go_wp2
 go_loop [4, 5] (fun x i => ∃ (k : Nat) (X : Int), k ≤ l.length ∧ i = .int .i64 k ∧ x = .int .i64 X ∧ PartOK l k X) (fun _ i => l.length - (intOf i).toNat)
 case atStart => exact ⟨0, 0, Nat.zero_le _, rfl, rfl, part_start l⟩
 case round =>
  obtain ⟨k, X, hk, rfl, rfl, hP⟩ := hrel
  replace hP := Lib.hid hP
  by_cases hlt : k < l.length ∧ l.length < 21
  ·obtain ⟨h1, h2⟩ := hlt
   have hu : l[k] = (⟨l.toArray⟩ : ByteArray)[k]'(by omega) := rfl
   have hu0 : l[0]'(by omega) = (⟨l.toArray⟩ : ByteArray)[0]'(by omega) := rfl
   by_cases hm : k = 0 ∧ l[k].toNat = 45
   ·obtain ⟨rfl, hm⟩ := hm
    have hsg := part_sign hP.out h1 (UInt8.toNat_inj.1 hm)
    replace hsg := Lib.hid hsg
    rw [hu] at hm
    have hm' : ((((⟨l.toArray⟩ : ByteArray)[0]'(by omega)).toNat : Int) == 45) = true := by rw [beq_iff_eq]; omega
    clear hm
    go_wp2
    exact ⟨⟨1, X, by omega, rfl, rfl, hsg.out⟩, by simp [intOf]; omega⟩
   ·by_cases hd : 48 ≤ l[k].toNat ∧ l[k].toNat ≤ 57
    ·have d1 : ((((⟨l.toArray⟩ : ByteArray)[k]'(by omega)).toNat : Int) == 45) = false := by rw [beq_eq_false_iff_ne]; rw [← hu]; omega
     have d2 : 48 ≤ (((⟨l.toArray⟩ : ByteArray)[k]'(by omega)).toNat : Int) := by rw [← hu]; omega
     have d3 : (((⟨l.toArray⟩ : ByteArray)[k]'(by omega)).toNat : Int) ≤ 57 := by rw [← hu]; omega
     by_cases hsg : l[0] = 45
     ·have hst := part_neg hP.out (by omega) hsg h1 hd.1
      rw [hu] at hst
      have HST := Lib.hid hst
      have s0 : ((((⟨l.toArray⟩ : ByteArray)[0]'(by omega)).toNat : Int) == 45) = true := by rw [beq_iff_eq, ← hu0, hsg]; rfl
      replace s0 := Lib.hid s0
      clear hst hsg hd hm hu hu0
      have s0 := s0.out
      go_wp2
      exact ⟨⟨k + 1, _, by omega, by go_num, rfl, HST.out⟩, by simp [intOf]; omega⟩
     ·have hst := part_pos hP.out (by omega) hsg h1 hd.1
      rw [hu] at hst
      have HST := Lib.hid hst
      have s0 : ((((⟨l.toArray⟩ : ByteArray)[0]'(by omega)).toNat : Int) == 45) = false := by
       rw [beq_eq_false_iff_ne, ← hu0]
       intro h
       exact hsg (UInt8.toNat_inj.1 (show _ = 45 by omega))
      clear hst hsg hd hm hu hu0
      go_wp2
      exact ⟨⟨k + 1, _, by omega, by go_num, rfl, HST.out⟩, by simp [intOf]; omega⟩
    ·have hno := Lib.hid (fun y => not_digit h1 (by omega) hm y)
     by_cases h45 : l[k].toNat = 45
     ·have d1 : ((((⟨l.toArray⟩ : ByteArray)[k]'(by omega)).toNat : Int) == 45) = true := by rw [beq_iff_eq, ← hu]; omega
      have d0 : ((k : Int) == 0) = false := by rw [beq_eq_false_iff_ne]; intro h; exact hm ⟨by omega, h45⟩
      have d2 : ((((⟨l.toArray⟩ : ByteArray)[k]'(by omega)).toNat : Int)) < 48 := by rw [← hu]; omega
      clear hd hm hu hu0 h45
      go_wp2
      go_ret2
      exact ⟨0, false, rfl, fun h => (by cases h), fun _ y _ _ => hno.out y, Below.refl _ _⟩
     ·have d1 : ((((⟨l.toArray⟩ : ByteArray)[k]'(by omega)).toNat : Int) == 45) = false := by rw [beq_eq_false_iff_ne, ← hu]; omega
      by_cases h48 : l[k].toNat < 48
      ·have d2 : ((((⟨l.toArray⟩ : ByteArray)[k]'(by omega)).toNat : Int)) < 48 := by rw [← hu]; omega
       clear hd hm hu hu0 h45 h48
       go_wp2
       go_ret2
       exact ⟨0, false, rfl, fun h => (by cases h), fun _ y _ _ => hno.out y, Below.refl _ _⟩
      ·have d2 : 48 ≤ ((((⟨l.toArray⟩ : ByteArray)[k]'(by omega)).toNat : Int)) := by rw [← hu]; omega
       have d3 : 57 < ((((⟨l.toArray⟩ : ByteArray)[k]'(by omega)).toNat : Int)) := by rw [← hu]; omega
       clear hd hm hu hu0 h45 h48
       go_wp2
       go_ret2
       exact ⟨0, false, rfl, fun h => (by cases h), fun _ y _ _ => hno.out y, Below.refl _ _⟩
  ·obtain ⟨hr0, hr1⟩ := hP.out.1
   by_cases hkl : k < l.length
   ·have h21 : ¬ l.length < 21 := fun h => hlt ⟨hkl, h⟩
    clear hlt
    go_wp2_with (fail)
    refine (digits_calls X _ hr0 hr1).mono ?_; rintro e w1 ⟨rfl, hb⟩
    by_cases he : Lib.itoa X = l
    ·have he' : (Lib.itoa X == l) = true := by simp [he]
     have HE := Lib.hid he
     clear he
     go_wp2
     go_ret2
     exact ⟨X, true, rfl, fun _ => ⟨HE.out.symm, hr0, hr1⟩, (fun h => by cases h), hb⟩
    ·have he' : (Lib.itoa X == l) = false := by simp [he]
     have HE := Lib.hid he
     clear he
     go_wp2
     go_ret2
     exact ⟨X, false, rfl, fun h => (by cases h), fun _ y y0 y1 hy => (by have := itoa_length y y0 y1; rw [hy] at h21; omega), hb⟩
   ·obtain rfl : k = l.length := by omega
    clear hlt hkl
    go_wp2_with (fail)
    refine (digits_calls X _ hr0 hr1).mono ?_; rintro e w1 ⟨rfl, hb⟩
    by_cases he : Lib.itoa X = l
    ·have he' : (Lib.itoa X == l) = true := by simp [he]
     have HE := Lib.hid he
     clear he
     go_wp2
     go_ret2
     exact ⟨X, true, rfl, fun _ => ⟨HE.out.symm, hr0, hr1⟩, (fun h => by cases h), hb⟩
    ·have he' : (Lib.itoa X == l) = false := by simp [he]
     have HE := Lib.hid he
     clear he
     go_wp2
     go_ret2
     exact ⟨X, false, rfl, fun h => (by cases h), fun _ y y0 y1 hy => HE.out (by rw [part_end hP.out y y0 y1 hy]; exact hy.symm), hb⟩
end Go.Proofs.YtobhjlchpnpleaaGreatDoor
