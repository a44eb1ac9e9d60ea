/- Several texts in one: MayA, MayB. -/
import Derived.Test.YtobhjlchpnpleaaGreatDoorCa27
import Derived.Laws.Cover1
import Derived.Deep.DeepCutAuto
import Derived.BigQuiet
import Derived.Test.YtobhjlchpnpleaaGreatDoorCa11
/- Package array: what numbers an array has: buffers, ends, walked. -/
namespace Go.Proofs.YtobhjlchpnpleaaGreatDoor
open Go.RowKit Bt
set_option linter.unusedVariables false
set_option linter.unusedSimpArgs false

def bufB (nl : Bool) (f n : Int) (v e d : Vp.Txt) : Bool := numsOk f n v e d && (decide (v = []) || (nl && decide ((f + n + 7) / 8 ≤ v.length)))
theorem bufB_no {nl : Bool} {f n : Int} {v e d : Vp.Txt} (h : ¬ (0 ≤ f ∧ 0 ≤ n ∧ f ≤ 64 ∧ n ≤ 64 - f ∧ v.length ≤ 4096 ∧ e.length ≤ 4096 ∧ d.length ≤ 4096)) : bufB nl f n v e d = false := by
 unfold bufB numsOk
 rw [decide_eq_false h, Bool.false_and]
theorem bufB_yes {nl : Bool} {f n : Int} {v e d : Vp.Txt} (h : 0 ≤ f ∧ 0 ≤ n ∧ f ≤ 64 ∧ n ≤ 64 - f ∧ v.length ≤ 4096 ∧ e.length ≤ 4096 ∧ d.length ≤ 4096) : bufB nl f n v e d = (decide (v = []) || (nl && decide ((f + n + 7) / 8 ≤ v.length))) := by
 unfold bufB numsOk
 rw [decide_eq_true h, Bool.true_and]
set_option maxRecDepth 100000 in
set_option maxHeartbeats 3200000 in
theorem buffers_calls (bk no g o : Nat) (nl : Bool) (l f n : Int) (v e d : Vp.Txt) (k : Value) (W : World) (ha : CellA W g o l f n v e d k) (hnl : W.cell? ⟨bk, no + 2, none⟩ = some (.bool nl)) :
  Calls Tryz.prog 81 #[.pointer (some ⟨bk, no, none⟩), .pointer (some ⟨g, o, none⟩)] W fun x w' => x = .returned (.bool (bufB nl f n v e d)) ∧ Below W.heap.size W w' := by
 obtain ⟨_, c1, c2, c3, c4, c5, _⟩ := ha
 simp only [tv] at c3 c4 c5
 have hz3 := mk_size v
 have hz4 := mk_size e
 have hz5 := mk_size d
 have HB := Below.refl W.heap.size W
 by_cases g1 : f < 0
 ·have d1 : decide (f < 0) = true := decide_eq_true g1
  have HU := Lib.hid (bufB_no (nl := nl) (f := f) (n := n) (v := v) (e := e) (d := d) (by omega))
  go_enter Tryz.func81, Tryz.ntmps81
  go_wp2
  go_quiet (fail)
  go_wp2
  go_ret
  exact ⟨ret_bool HU.out.symm, below_drewN HB _⟩
 have d1 : decide (f < 0) = false := decide_eq_false g1
 by_cases g2 : n < 0
 ·have d2 : decide (n < 0) = true := decide_eq_true g2
  have HU := Lib.hid (bufB_no (nl := nl) (f := f) (n := n) (v := v) (e := e) (d := d) (by omega))
  go_enter Tryz.func81, Tryz.ntmps81
  go_wp2
  go_quiet (fail)
  go_wp2
  go_ret
  exact ⟨ret_bool HU.out.symm, below_drewN HB _⟩
 have d2 : decide (n < 0) = false := decide_eq_false g2
 by_cases g3 : 64 < f
 ·have d3 : decide (64 < f) = true := decide_eq_true g3
  have HU := Lib.hid (bufB_no (nl := nl) (f := f) (n := n) (v := v) (e := e) (d := d) (by omega))
  go_enter Tryz.func81, Tryz.ntmps81
  go_wp2
  go_quiet (fail)
  go_wp2
  go_ret
  exact ⟨ret_bool HU.out.symm, below_drewN HB _⟩
 have d3 : decide (64 < f) = false := decide_eq_false g3
 by_cases g4 : 64 - f < n
 ·have d4 : decide (64 - f < n) = true := decide_eq_true g4
  have HU := Lib.hid (bufB_no (nl := nl) (f := f) (n := n) (v := v) (e := e) (d := d) (by omega))
  go_enter Tryz.func81, Tryz.ntmps81
  go_wp2
  go_quiet (fail)
  go_wp2
  go_ret
  exact ⟨ret_bool HU.out.symm, below_drewN HB _⟩
 have d4 : decide (64 - f < n) = false := decide_eq_false g4
 have hf0 : 0 ≤ f := by omega
 have hn0 : 0 ≤ n := by omega
 have hf1 : f ≤ 64 := by omega
 have hn1 : n ≤ 64 := by omega
 go_enter Tryz.func81, Tryz.ntmps81
 go_wp2
 go_quiet (fail)
 go_wp2
 go_cut [52] (fun s wx => s = .bool (!decide (v.length ≤ 4096 ∧ e.length ≤ 4096 ∧ d.length ≤ 4096)) ∧ (∀ p, wx.cell? p = W.cell? p) ∧ Below W.heap.size W wx)
 case first =>
  go_region
  all_goals go_wp2
  all_goals go_meet
  all_goals refine ⟨?_, fun _ => by simp, below_drewN HB _⟩
  all_goals congr 1
  all_goals rw [Bool.eq_iff_iff, decide_eq_true_eq, Bool.not_eq_true', decide_eq_false_iff_not]
  all_goals omega
 case rest =>
  obtain ⟨rfl, hcl, HB2⟩ := hcut
  rename World => w1
  replace c1 := (hcl _).trans c1
  replace c2 := (hcl _).trans c2
  replace c3 := (hcl _).trans c3
  replace hnl := (hcl _).trans hnl
  clear hcl
  by_cases h5 : v.length ≤ 4096 ∧ e.length ≤ 4096 ∧ d.length ≤ 4096
  ·rw [decide_eq_true h5]
   have HU := Lib.hid (bufB_yes (nl := nl) (f := f) (n := n) (v := v) (e := e) (d := d) (by omega))
   by_cases hv : v = []
   ·subst hv
    go_wp2
    go_quiet (fail)
    go_wp2
    go_ret
    exact ⟨ret_bool (by rw [HU.out]; rfl), below_drewN HB2 _⟩
   ·have hi := no_empty hv
    rw [decide_eq_false hv, Bool.false_or] at HU
    cases nl with
    | false =>
     go_wp2
     go_quiet (fail)
     go_wp2
     go_ret
     exact ⟨ret_bool (by rw [HU.out]; rfl), below_drewN HB2 _⟩
    | true =>
     rw [Bool.true_and] at HU
     have hwr : IntKind.i64.wrap (f + n) = f + n := by rw [IntKind.wrap_i64]; omega
     have HBY := Lib.hid (show ∀ W, Calls Tryz.prog 109 #[.int .i64 (IntKind.i64.wrap (f + n))] W fun e w' => e = .returned (.int .i64 ((f + n + 7) / 8)) ∧ w' = W from fun W => by
      rw [hwr]
      exact (bitsBytes_calls (f + n) W (by omega) (by omega)).mono fun _ w' h => ⟨h.1, h.2.symm⟩)
     clear hwr
     by_cases h7 : (f + n + 7) / 8 ≤ (v.length : Int)
     ·have d7 : decide ((f + n + 7) / 8 ≤ (v.length : Int)) = true := decide_eq_true h7
      rw [d7] at HU
      go_wp2
      go_quiet (first | (go_at_call 109; refine Calls.quiet_of_same (HBY.out _)))
      go_wp2
      go_ret
      exact ⟨ret_bool (by rw [HU.out]), below_drewN HB2 _⟩
     ·have d7 : decide ((f + n + 7) / 8 ≤ (v.length : Int)) = false := decide_eq_false h7
      rw [d7] at HU
      go_wp2
      go_quiet (first | (go_at_call 109; refine Calls.quiet_of_same (HBY.out _)))
      go_wp2
      go_ret
      exact ⟨ret_bool (by rw [HU.out]), below_drewN HB2 _⟩
  ·rw [decide_eq_false h5]
   have HU := Lib.hid (bufB_no (nl := nl) (f := f) (n := n) (v := v) (e := e) (d := d) (by omega))
   go_wp2
   go_ret
   exact ⟨ret_bool HU.out.symm, HB2⟩
set_option maxHeartbeats 1600000 in
theorem arrEnds_calls (l : Vp.Txt) (rows f ap : Nat) (most : Int) (W : World) (hl : l.length ≤ 140737488351232) (hr : rows ≤ 65536) (hf : f ≤ 65536) (ha : ap ≤ 2147483647) :
  Calls Tryz.prog 110 #[.string ⟨l.toArray⟩, .int .i64 (rows : Int), .int .i64 most, .int .i64 (f : Int), .int .i64 (ap : Int)] W fun e w' => e = .returned (.bool (Vp.endsOk l rows most f ap)) ∧ W = w' := by
 go_enter Tryz.func110, Tryz.ntmps110
 go_wp2
 go_loop [11, 12, 13, 14, 17] (fun was _ x e i => ∃ k : Nat, k ≤ rows + 1 ∧ i = .int .i64 (k : Int) ∧ was = .int .i64 (Vp.runEnd l k) ∧ (∀ j, j < k → Vp.endOk l most f ap j = true)) (fun _ _ _ _ i => rows + 1 - (intOf i).toNat)
 case atStart => exact ⟨0, Nat.zero_le _, rfl, rfl, fun j h => absurd h (Nat.not_lt_zero _)⟩
 case round =>
  obtain ⟨k, hk, rfl, rfl, hall⟩ := hrel
  have HA := Lib.hid hall
  clear hall
  by_cases hlt : k ≤ rows
  ·have hi : (k : Int) < (rows : Int) + 1 := by omega
   have hwr : 0 ≤ Vp.runEnd l k ∧ Vp.runEnd l k ≤ 2147483647 := by
    unfold Vp.runEnd
    split
    ·constructor <;> decide
    ·exact num4_rng _ _
   have hxr := num4_rng l k
   have HG := Lib.hid (fun W => number4_calls l k W hl (by omega))
   have hnx : Vp.runEnd l (k + 1) = (Vp.num4 l k).1 := by unfold Vp.runEnd; rw [if_neg (by omega), Nat.add_sub_cancel]
   have HE := Lib.hid (fun x b h => endOk_eq l most f ap k x _ b h rfl)
   have HNX := Lib.hid hnx
   have HW0 := Lib.hid (show k = 0 → Vp.runEnd l k = 0 from fun h => by rw [h]; rfl)
   clear hnx
   obtain ⟨x, b, hxb⟩ : ∃ x b, Vp.num4 l k = (x, b) := ⟨_, _, rfl⟩
   rw [hxb] at HNX hxr HG
   have he := HE.out x b hxb (hxr.1)
   generalize hws : Vp.runEnd l k = was at he hwr HW0
   have HX := Lib.hid he
   clear he hws hxb HE
   simp only at HNX hxr
   cases b with
   | false =>
    go_wp2_with (go_at_call 114; refine (HG.out _).mono ?_; rintro e w' ⟨rfl, rfl⟩)
    go_ret
    exact ⟨ret_bool (ends_no hlt HX.out).symm, rfl⟩
   | true =>
    by_cases c2 : x ≤ most
    ·by_cases c0 : k = 0
     ·subst c0
      have hw0 : was = 0 := HW0.out rfl
      subst hw0
      rw [decide_eq_true c2, decide_eq_true (show (0 : Int) ≤ x from hxr.1), decide_eq_true (Nat.zero_le f)] at HX
      go_wp2_with (go_at_call 114; refine (HG.out _).mono ?_; rintro e w' ⟨rfl, rfl⟩)
      refine ⟨⟨1, by omega, by go_num, by rw [← HNX.out], fun j hj => ?_⟩, by simp [intOf]⟩
      obtain rfl : j = 0 := by omega
      exact HX.out
     ·have hk0 : 0 < (k : Int) := by omega
      by_cases c1 : was ≤ x
      ·by_cases c3 : k ≤ f
       ·have d3 : (k : Int) ≤ (f : Int) := by omega
        rw [decide_eq_true c1, decide_eq_true c2, decide_eq_true c3] at HX
        clear c3
        go_wp2_with (go_at_call 114; refine (HG.out _).mono ?_; rintro e w' ⟨rfl, rfl⟩)
        refine ⟨⟨k + 1, by omega, by go_num, by rw [HNX.out], fun j hj => ?_⟩, by simp [intOf]; omega⟩
        rcases Nat.lt_or_ge j k with h | h
        ·exact HA.out j h
        ·obtain rfl : j = k := by omega
         exact HX.out
       ·have d3 : decide ((k : Int) ≤ (f : Int)) = false := decide_eq_false (by omega)
        have d3' : (f : Int) < (k : Int) := by omega
        by_cases c4 : x - was ≤ (ap : Int)
        ·rw [decide_eq_true c1, decide_eq_true c2, decide_eq_false c3, decide_eq_true c4] at HX
         go_wp2_with (go_at_call 114; refine (HG.out _).mono ?_; rintro e w' ⟨rfl, rfl⟩)
         refine ⟨⟨k + 1, by omega, by go_num, by rw [HNX.out], fun j hj => ?_⟩, by simp [intOf]; omega⟩
         rcases Nat.lt_or_ge j k with h | h
         ·exact HA.out j h
         ·obtain rfl : j = k := by omega
          exact HX.out
        ·have d4 : (ap : Int) < x - was := by omega
         rw [decide_eq_true c1, decide_eq_true c2, decide_eq_false c3, decide_eq_false c4] at HX
         go_wp2_with (go_at_call 114; refine (HG.out _).mono ?_; rintro e w' ⟨rfl, rfl⟩)
         go_ret
         exact ⟨ret_bool (ends_no hlt HX.out).symm, rfl⟩
      ·have d1 : x < was := by omega
       rw [decide_eq_false c1] at HX
       go_wp2_with (go_at_call 114; refine (HG.out _).mono ?_; rintro e w' ⟨rfl, rfl⟩)
       go_ret
       exact ⟨ret_bool (ends_no hlt HX.out).symm, rfl⟩
    ·have d2 : most < x := by omega
     rw [decide_eq_false c2] at HX
     go_wp2_with (go_at_call 114; refine (HG.out _).mono ?_; rintro e w' ⟨rfl, rfl⟩)
     go_ret
     exact ⟨ret_bool (ends_no hlt (by rw [HX.out]; simp)).symm, rfl⟩
  ·obtain rfl : k = rows + 1 := by omega
   go_wp2
   go_ret
   exact ⟨ret_bool (ends_yes HA.out).symm, rfl⟩
end Go.Proofs.YtobhjlchpnpleaaGreatDoor

/- Package array: kids that are too short, walked. -/
namespace Go.Proofs.YtobhjlchpnpleaaGreatDoor
open Go.RowKit
set_option linter.unusedVariables false
set_option linter.unusedSimpArgs false

theorem enter_short : ∀ xs W, (callFunc 111 xs).run Tryz.prog W = .ok (.enter 111 xs) W := fun _ _ => by kernel_rfl
theorem short_calls (P : Nat) (R : Int) (l f n : Int) (v e d : Vp.Txt) (k : Value) (W : World) (hp : W.cell? ⟨P, 0, none⟩ = some (.int .i64 R)) (hP : P < W.heap.size) :
  Calls Tryz.prog 111 #[arrV l f n v e d k, .pointer (some ⟨P, 0, none⟩)] W fun x w' => x = .returned (.bool (decide (n < R))) ∧ Below W.heap.size W w' := by
 have hb := below_alloc (Below.refl W.heap.size W) (.cells #[.int .i64 l, .int .i64 f, .int .i64 n, .string ⟨v.toArray⟩, .string ⟨e.toArray⟩, .string ⟨d.toArray⟩, k] 27)
 have hp2 := (hb.cell (p := ⟨P, 0, none⟩) hP).trans hp
 by_cases hc : n < R
 ·go_enter Tryz.func111, Tryz.ntmps111
  go_wp2
  go_ret
  exact ⟨ret_bool (decide_eq_true hc).symm, hb⟩
 ·have hd : decide (n < R) = false := decide_eq_false hc
  go_enter Tryz.func111, Tryz.ntmps111
  go_wp2
  go_ret
  exact ⟨ret_bool (by first | exact hd.symm | rfl | simp), hb⟩
set_option maxRecDepth 100000 in
set_option maxHeartbeats 1600000 in
theorem indexK_calls (ks : List Arr) (k : Value) (P : Nat) (R : Int) (W : World) (hk : KidsAt W ks k) (hp : W.cell? ⟨P, 0, none⟩ = some (.int .i64 R)) (hP : P < W.heap.size) :
  Calls Tryz.prog 132 #[k, .func (.func 111) #[] #[.pointer (some ⟨P, 0, none⟩)]] W fun e w' => ∃ r : Int, e = .returned (.int .i64 r) ∧ (0 ≤ r ↔ ks.any (fun a => decide (a.len < R)) = true) ∧ Below W.heap.size W w' := by
 have HK := Lib.hid hk
 rw [KidsAt] at hk
 obtain ⟨ka, kc, rfl, hkc1, hkc2, h3⟩ := hk
 unfold maxLen at hkc2
 have H3 := Lib.hid h3
 have HPP := Lib.hid hp
 have hent := enter_short
 clear h3 hp
 go_enter Tryz.func132, Tryz.ntmps132
 go_wp2
 go_loopw [5, 8] (fun _ i wr => ∃ q : Nat, q ≤ ks.length ∧ i = .int .i64 q ∧ Below W.heap.size W wr ∧ (∀ (j : Nat) x, j < q → ks[j]? = some x → decide (x.len < R) = false)) (fun _ i _ => ks.length - (intOf i).toNat)
 case atStart => exact ⟨0, Nat.zero_le _, rfl, Below.refl _ _, fun j x h => absurd h (Nat.not_lt_zero _)⟩
 case round =>
  obtain ⟨q, hq, rfl, hb, hall⟩ := hrel
  have HA := Lib.hid hall
  clear hall
  by_cases hlt : q < ks.length
  ·obtain ⟨bk, o, rfl, hbk, hc⟩ := H3.out (by intro e; rw [e] at hlt; exact Nat.not_lt_zero _ hlt)
   have hlti : (q : Int) < (ks.length : Int) := by omega
   have hx := List.getElem?_eq_getElem hlt
   have HX := Lib.hid hx
   generalize ks[q] = y at hx HX
   obtain ⟨xl, xf, xn, xv, xe, xd, xs⟩ := y
   obtain ⟨g0, g1, g2, g3, g4, g5, kx, g6, hkx⟩ := CellsAt.at ks o q _ _ _ _ _ _ _ hc hx
   have cc := fun j => hb.cell (p := ⟨bk, j, none⟩) hbk
   replace g0 := (cc _).trans g0
   replace g1 := (cc _).trans g1
   replace g2 := (cc _).trans g2
   replace g3 := (cc _).trans g3
   replace g4 := (cc _).trans g4
   replace g5 := (cc _).trans g5
   replace g6 := (cc _).trans g6
   simp only [tv] at g3 g4 g5
   have HC := Lib.hid (short_calls P R xl xf xn xv xe xd kx wr ((hb.cell (p := ⟨P, 0, none⟩) hP).trans HPP.out) (Nat.lt_of_lt_of_le hP hb.size))
   simp only [arrV, tv] at HC
   clear hc hx hkx cc
   by_cases hs : xn < R
   ·rw [decide_eq_true hs] at HC
    have HS := Lib.hid hs
    clear hs
    go_wp2_with (refine HC.out.mono ?_; rintro e w1 ⟨rfl, hb1⟩)
    go_ret
    refine ⟨_, rfl, ⟨fun _ => ?_, fun _ => by omega⟩, below_then hb hb1⟩
    rw [List.any_eq_true]
    exact ⟨_, List.mem_of_getElem? HX.out, decide_eq_true HS.out⟩
   ·rw [decide_eq_false hs] at HC
    have HS := Lib.hid hs
    clear hs
    go_wp2_with (refine HC.out.mono ?_; rintro e w1 ⟨rfl, hb1⟩)
    refine ⟨⟨q + 1, by omega, by go_num, below_then hb hb1, fun j y hj hy => ?_⟩, by simp [intOf]; omega⟩
    by_cases hjk : j = q
    ·rw [hjk, HX.out] at hy
     rw [← Option.some.inj hy]
     exact decide_eq_false (by have := HS.out; show ¬ (xn < R); omega)
    ·exact HA.out j y (by omega) hy
  ·obtain rfl : q = ks.length := by omega
   go_wp2
   go_ret
   refine ⟨_, rfl, ⟨fun h => absurd h (by omega), fun h => ?_⟩, hb⟩
   rw [List.any_eq_true] at h
   obtain ⟨x, hx, hp⟩ := h
   obtain ⟨j, hj⟩ := List.getElem?_of_mem hx
   have := HA.out j x (List.getElem?_eq_some_iff.1 hj).1 hj
   rw [hp] at this
   cases this
theorem containsK_calls (ks : List Arr) (k : Value) (P : Nat) (R : Int) (W : World) (hk : KidsAt W ks k) (hp : W.cell? ⟨P, 0, none⟩ = some (.int .i64 R)) (hP : P < W.heap.size) :
  Calls Tryz.prog 112 #[k, .func (.func 111) #[] #[.pointer (some ⟨P, 0, none⟩)]] W fun e w' => e = .returned (.bool (ks.any fun a => decide (a.len < R))) ∧ Below W.heap.size W w' := by
 have HI := Lib.hid (indexK_calls ks k P R W hk hp hP)
 rw [KidsAt] at hk
 obtain ⟨ka, kc, rfl, _, _, _⟩ := hk
 clear hp
 go_enter Tryz.func112, Tryz.ntmps112
 go_wp2_with (go_at_call 132; refine HI.out.mono ?_; rintro e w' ⟨r, rfl, hr, hb⟩; have HR := Lib.hid hr; clear hr)
 go_ret
 exact ⟨ret_bool (by rw [Bool.eq_iff_iff, decide_eq_true_eq, HR.out]), hb⟩
end Go.Proofs.YtobhjlchpnpleaaGreatDoor
