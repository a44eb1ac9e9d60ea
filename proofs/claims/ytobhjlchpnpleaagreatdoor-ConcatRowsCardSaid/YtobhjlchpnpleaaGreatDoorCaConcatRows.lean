/- Several texts in one: Law12B, LawConcatRows. -/
import Derived.Test.YtobhjlchpnpleaaGreatDoorCa44
import Derived.Test.YtobhjlchpnpleaaGreatDoorCa2
import Derived.Test.YtobhjlchpnpleaaGreatDoorCards
import Derived.Test.YtobhjlchpnpleaaGreatDoorTie
import Derived.Test.YtobhjlchpnpleaaGreatDoorCa45
import Derived.WalkKit
import Derived.ProofKit
import Derived.OpenShut
import Derived.ShutString
import Derived.ChangeOld
import Derived.Below
import Derived.SizedLaws
import Derived.JoinedCond
import Derived.Carry
/- Chapter 12: the walk of ConcatRows. -/
namespace Go.Proofs.YtobhjlchpnpleaaGreatDoor
open Go.RowKit
set_option linter.unusedVariables false
set_option linter.unusedSimpArgs false

theorem conc_facts {ns : List Tp.Nd} {x : Int} {a b : Arr} (h : (Vp.concR ns x a b).2 = 0) : mayX ns a x = true ∧ mayX ns b x = true ∧ mayX ns (Vp.concR ns x a b).1 x = true ∧
  readV ns (Vp.concR ns x a b).1 x = readV ns a x ++ readV ns b x ∧ (∃ Z, Vp.buildR ns x [] = (Z, 0) ∧ ∃ B, Vp.concR ns x a Z = (B, 0) ∧ Vp.concR ns x Z a = (B, 0)) := by
 obtain ⟨h1, h2, h3, h4, _⟩ := Vp.concR_ok h
 obtain ⟨i, rfl, hm, hi, hma⟩ := Vp.may2_iff h1
 refine ⟨h1, h2, h3, by rw [readV_yes h1, readV_yes h2, readV_yes h3]; exact h4, ?_⟩
 obtain ⟨g1, g2, g3⟩ := Vp.nil_ok hm hi
 refine ⟨(Vp.buildR ns (i : Int) []).1, Prod.ext rfl g1, ?_⟩
 exact Vp.concR_nil hma g2 g3
theorem texts_take {w : World} {ad : Addr} {n c k : Nat} {xs : List Vp.Txt} (h : TextsAt w (.slice (some ad) n c) xs) (hk : k ≤ n) : TextsAt w (.slice (some ad) k c) (xs.take k) := by
 obtain ⟨a, c', he, h1, h2, h3⟩ := h
 obtain ⟨rfl, rfl, rfl⟩ := Value.slice.inj he
 have hl : (xs.take k).length = k := by rw [List.length_take]; omega
 refine ⟨_, _, by rw [hl], by omega, h2, fun hn => ?_⟩
 obtain ⟨bk, o, hb, hlt, hc⟩ := h3 (by intro e; rw [e] at hn; exact hn (by simp))
 refine ⟨bk, o, hb, hlt, fun j x hj => hc j x ?_⟩
 rw [List.getElem?_take] at hj
 split at hj
 ·exact hj
 ·cases hj
theorem texts_drop {w : World} {ad : Addr} {n c k : Nat} {xs : List Vp.Txt} (h : TextsAt w (.slice (some ad) n c) xs) (hk : k ≤ n) : TextsAt w (.slice (some (ad.add k)) (n - k) (c - k)) (xs.drop k) := by
 obtain ⟨a, c', he, h1, h2, h3⟩ := h
 obtain ⟨rfl, rfl, rfl⟩ := Value.slice.inj he
 refine ⟨_, _, by rw [List.length_drop], by rw [List.length_drop]; omega, by omega, fun hn => ?_⟩
 obtain ⟨bk, o, hb, hlt, hc⟩ := h3 (by intro e; rw [e] at hn; exact hn (by simp))
 obtain rfl := Option.some.inj hb
 refine ⟨bk, o + k, by rw [add_off], hlt, fun j x hj => ?_⟩
 rw [List.getElem?_drop] at hj
 rw [Nat.add_assoc]
 exact hc (k + j) x hj
theorem texts_none {w : World} {n c : Nat} {xs : List Vp.Txt} (h : TextsAt w (.slice none n c) xs) : xs = [] ∧ n = 0 := by
 obtain ⟨a, c', he, h1, h2, h3⟩ := h
 obtain ⟨rfl, rfl, rfl⟩ := Value.slice.inj he
 have : xs = [] := by
  rcases Classical.em (xs = []) with h | h
  ·exact h
  ·obtain ⟨_, _, hh, _⟩ := h3 h; cases hh
 exact ⟨this, by rw [this]; rfl⟩
set_option maxRecDepth 100000 in
set_option maxHeartbeats 6400000 in
theorem concatRows_walk (v0 : Value) (a0 : List Tp.Nd) (a1 : Int) (v2 : Value) (a2 : Arr) (v3 : Value) (a3 : Arr) (W : World) (hv : Vars W)
  (w0 : ∃ u, v0 = typeV u ∧ NodesAt W u a0) (b0 : a0.length * 24 ≤ 140737488351232) (w1 : (Lit.int .i64 a1).wf = true) (w2 : ArrAt W a2 v2) (b2 : SizedA a2) (w3 : ArrAt W a3 v3) (b3 : SizedA a3) :
  Calls Tryz.prog 4 #[v0, .int .i64 a1, v2, v3] W fun e w' => e = .returned (.bool true) ∧ Below W.heap.size W w' := by
 obtain ⟨tu, rfl, hn⟩ := w0
 have hx1 : a1 ≤ 9223372036854775807 := (i64_le w1).2
 obtain ⟨ka, kac, rfl, hka⟩ := arrAt_open w2
 obtain ⟨kb, kbc, rfl, hkb⟩ := arrAt_open w3
 obtain ⟨C0, CA, CB, hsz, hb1⟩ := blk3 W (.cells #[tu] 24) (.cells (arrC a2.lay a2.off a2.len a2.valid a2.ends a2.data (.slice ka a2.kids.length kac)) 27) (.cells (arrC a3.lay a3.off a3.len a3.valid a3.ends a3.data (.slice kb a3.kids.length kbc)) 27)
 obtain ⟨W1, hW1⟩ : ∃ W1, ((W.alloc (.cells #[tu] 24)).alloc (.cells (arrC a2.lay a2.off a2.len a2.valid a2.ends a2.data (.slice ka a2.kids.length kac)) 27)).alloc (.cells (arrC a3.lay a3.off a3.len a3.valid a3.ends a3.data (.slice kb a3.kids.length kbc)) 27) = W1 := ⟨_, rfl⟩
 rw [hW1] at C0 CA CB hsz hb1
 have HN := Lib.hid (hn.below hb1)
 have HA := Lib.hid (arrAt_bel w2 hb1)
 have HBB := Lib.hid (arrAt_bel w3 hb1)
 have HV := Lib.hid (hv.below hb1 hv.six)
 have HB1 := Lib.hid hb1
 have HC0 := Lib.hid C0
 have HCA := Lib.hid CA
 have HCB := Lib.hid CB
 have HFA := Lib.hid (fun h => conc_facts (ns := a0) (x := a1) (a := a2) (b := a3) h)
 have HNO := Lib.hid (fun h => Vp.concR_none a0 a1 a2 a3 h)
 have hL1 := readV_len a0 a2 a1
 have hL2 := readV_len a0 a3 a1
 clear hn w1 w2 w3 b0 b2 b3 hka hkb C0 CA CB hb1
 go_enter Tryz.func4, Tryz.ntmps4
 go_wp2_with (fail)
 refine (awake12_calls _ HV.out).mono ?_; rintro e w2 ⟨rfl, hb2⟩
 have HB2 := Lib.hid hb2
 clear hW1 hb2
 have q0 := cell_of_one ((HB2.out.block _ (by omega)).trans HC0.out)
 obtain ⟨x0, x1, x2, x3, x4, x5, x6, _⟩ := zero_cells ((HB2.out.block _ (by omega)).trans HCA.out)
 obtain ⟨y0, y1, y2, y3, y4, y5, y6, _⟩ := zero_cells ((HB2.out.block _ (by omega)).trans HCB.out)
 go_wp2_with (fail)
 refine (concat2_calls a0 a2 a3 a1 _ _ tu w2 (arrAt_bel HA.out HB2.out) (arrAt_bel HBB.out HB2.out) (HN.out.below HB2.out) (HV.out.below HB2.out HV.out.six) hx1).mono ?_
 rintro e w4 h4
 obtain ⟨a4, c4, rfl, ha4, _, hb4⟩ := h4.open
 have HB4 := Lib.hid (below_then HB2.out hb4)
 clear h4 hb4 q0 x0 x1 x2 x3 x4 x5 x6 y0 y1 y2 y3 y4 y5 y6
 obtain ⟨⟨A, er⟩, hr⟩ : ∃ r, Vp.concR a0 a1 a2 a3 = r := ⟨_, rfl⟩
 rw [hr] at HFA HNO ha4 ⊢
 replace ha4 : ArrAt w4 A (arrV A.lay A.off A.len A.valid A.ends A.data (.slice a4 A.kids.length c4)) := ha4
 have hb5 := below_alloc (Below.refl w4.heap.size w4) (.cells (arrC A.lay A.off A.len A.valid A.ends A.data (.slice a4 A.kids.length c4)) 27)
 have hR5 := heap_alloc_new w4 (.cells (arrC A.lay A.off A.len A.valid A.ends A.data (.slice a4 A.kids.length c4)) 27)
 have HA5 := Lib.hid (arrAt_bel ha4 hb5)
 have HB5 := Lib.hid (below_then HB4.out hb5)
 obtain ⟨w5, hw5⟩ : ∃ w5, w4.alloc (.cells (arrC A.lay A.off A.len A.valid A.ends A.data (.slice a4 A.kids.length c4)) 27) = w5 := ⟨_, rfl⟩
 rw [hw5] at hb5 hR5 HA5 HB5
 have HR5 := Lib.hid hR5
 have q0 := cell_of_one ((HB5.out.block _ (by omega)).trans HC0.out)
 obtain ⟨x0, x1, x2, x3, x4, x5, x6, _⟩ := zero_cells ((HB5.out.block _ (by omega)).trans HCA.out)
 obtain ⟨y0, y1, y2, y3, y4, y5, y6, _⟩ := zero_cells ((HB5.out.block _ (by omega)).trans HCB.out)
 obtain ⟨z0, z1, z2, z3, z4, z5, z6, _⟩ := zero_cells hR5
 clear ha4 hb5 hR5 hr
 by_cases he : er = 0
 ·subst he
  obtain ⟨hma, hmb, hmA, hrv, Z, hZ, B, hB1, hB2⟩ := HFA.out rfl
  replace hmA : mayX a0 A a1 = true := hmA
  replace hrv : readV a0 A a1 = readV a0 a2 a1 ++ readV a0 a3 a1 := hrv
  have HVA := Lib.hid (fun (w' : World) (h : Below W1.heap.size W1 w') => refValuesO_calls a0 a2 a1 _ tu w' (arrAt_bel HA.out h) (HN.out.below h))
  have HVB := Lib.hid (fun (w' : World) (h : Below W1.heap.size W1 w') => refValuesO_calls a0 a3 a1 _ tu w' (arrAt_bel HBB.out h) (HN.out.below h))
  have HVX := Lib.hid (fun (w' : World) (h : Below w5.heap.size w5 w') => refValuesO_calls a0 A a1 _ tu w' (arrAt_bel HA5.out h) (HN.out.below (below_then HB5.out h)))
  rw [hma, if_pos rfl] at HVA
  rw [hmb, if_pos rfl] at HVB
  rw [hmA, if_pos rfl, hrv] at HVX
  have HBZ := Lib.hid (fun (w' : World) (h : Below W1.heap.size W1 w') => refBuildR_calls (.slice none 0 0) tu a0 a1 [] w' (HN.out.below h) ⟨none, 0, rfl, by simp, by decide, fun h => absurd rfl h⟩ (by simp) (by simp))
  rw [hZ] at HBZ
  have HE1 := Lib.hid hB1
  have HE2 := Lib.hid hB2
  clear hma hmb hmA hrv hZ HFA HNO hB1 hB2
  generalize readV a0 a2 a1 = X at HVA HVX hL1
  generalize readV a0 a3 a1 = Y at HVB HVX hL2
  go_wp2_with (go_at_call 17; refine (num_calls _ _).mono ?_; rintro e w' ⟨rfl, rfl⟩)
  refine (HVA.out w5 HB5.out).mono ?_; rintro e w6 ⟨r6, rfl, ho6, hb6⟩
  have HX6 := Lib.hid hb6
  have HB6 := Lib.hid (below_then HB5.out hb6)
  have HT6 := Lib.hid (own_texts ho6)
  clear hb6 ho6 hw5
  clear q0 x0 x1 x2 x3 x4 x5 x6 y0 y1 y2 y3 y4 y5 y6 z0 z1 z2 z3 z4 z5 z6
  have q0 := cell_of_one ((HB6.out.block _ (by omega)).trans HC0.out)
  obtain ⟨x0, x1, x2, x3, x4, x5, x6, _⟩ := zero_cells ((HB6.out.block _ (by omega)).trans HCA.out)
  obtain ⟨y0, y1, y2, y3, y4, y5, y6, _⟩ := zero_cells ((HB6.out.block _ (by omega)).trans HCB.out)
  obtain ⟨z0, z1, z2, z3, z4, z5, z6, _⟩ := zero_cells ((HX6.out.block _ (lt_of_block HR5.out)).trans HR5.out)
  go_wp2_with (fail)
  refine (HVB.out w6 HB6.out).mono ?_; rintro e w7 ⟨r7, rfl, ho7, hb7⟩
  have HX7 := Lib.hid (below_then HX6.out hb7)
  have HB7 := Lib.hid (below_then HB6.out hb7)
  have HT7 := Lib.hid (own_texts ho7)
  have HT6b := Lib.hid (HT6.out.below hb7)
  clear hb7 ho7 HT6
  clear q0 x0 x1 x2 x3 x4 x5 x6 y0 y1 y2 y3 y4 y5 y6 z0 z1 z2 z3 z4 z5 z6
  have q0 := cell_of_one ((HB7.out.block _ (by omega)).trans HC0.out)
  obtain ⟨x0, x1, x2, x3, x4, x5, x6, _⟩ := zero_cells ((HB7.out.block _ (by omega)).trans HCA.out)
  obtain ⟨y0, y1, y2, y3, y4, y5, y6, _⟩ := zero_cells ((HB7.out.block _ (by omega)).trans HCB.out)
  obtain ⟨z0, z1, z2, z3, z4, z5, z6, _⟩ := zero_cells ((HX7.out.block _ (lt_of_block HR5.out)).trans HR5.out)
  go_wp2_with (fail)
  refine (HVX.out w7 HX7.out).mono ?_; rintro e w8 ⟨r8, rfl, ho8, hb8⟩
  have HX8 := Lib.hid (below_then HX7.out hb8)
  have HB8 := Lib.hid (below_then HB7.out hb8)
  have HT8 := Lib.hid (own_texts ho8)
  have HT6c := Lib.hid (HT6b.out.below hb8)
  have HT7c := Lib.hid (HT7.out.below hb8)
  clear hb8 ho8 HT6b HT7
  clear q0 x0 x1 x2 x3 x4 x5 x6 y0 y1 y2 y3 y4 y5 y6 z0 z1 z2 z3 z4 z5 z6
  have q0 := cell_of_one ((HB8.out.block _ (by omega)).trans HC0.out)
  obtain ⟨x0, x1, x2, x3, x4, x5, x6, _⟩ := zero_cells ((HB8.out.block _ (by omega)).trans HCA.out)
  obtain ⟨y0, y1, y2, y3, y4, y5, y6, _⟩ := zero_cells ((HB8.out.block _ (by omega)).trans HCB.out)
  obtain ⟨z0, z1, z2, z3, z4, z5, z6, _⟩ := zero_cells ((HX8.out.block _ (lt_of_block HR5.out)).trans HR5.out)
  go_wp2_with (fail)
  refine (HBZ.out w8 HB8.out).mono ?_; rintro e w9 h9
  obtain ⟨a9, c9, rfl, ha9, _, hb9⟩ := BuildR.open (show BuildR (Z, 0) w8 _ _ from h9)
  replace ha9 : ArrAt w9 Z (arrV Z.lay Z.off Z.len Z.valid Z.ends Z.data (.slice a9 Z.kids.length c9)) := ha9
  have hb10 := below_alloc hb9 (.cells (arrC Z.lay Z.off Z.len Z.valid Z.ends Z.data (.slice a9 Z.kids.length c9)) 27)
  have hR10 := heap_alloc_new w9 (.cells (arrC Z.lay Z.off Z.len Z.valid Z.ends Z.data (.slice a9 Z.kids.length c9)) 27)
  have HA10 := Lib.hid (arrAt_bel ha9 (below_alloc (Below.refl w9.heap.size w9) (.cells (arrC Z.lay Z.off Z.len Z.valid Z.ends Z.data (.slice a9 Z.kids.length c9)) 27)))
  have hs9 := hb9.size
  obtain ⟨w10, hw10⟩ : ∃ w10, w9.alloc (.cells (arrC Z.lay Z.off Z.len Z.valid Z.ends Z.data (.slice a9 Z.kids.length c9)) 27) = w10 := ⟨_, rfl⟩
  rw [hw10] at hb10 hR10 HA10
  have HX10 := Lib.hid (below_then HX8.out hb10)
  have HB10 := Lib.hid (below_then HB8.out hb10)
  have HT6d := Lib.hid (HT6c.out.below hb10)
  have HT7d := Lib.hid (HT7c.out.below hb10)
  have HT8d := Lib.hid (HT8.out.below hb10)
  have HR10 := Lib.hid hR10
  clear h9 ha9 hb9 hb10 hR10 HT6c HT7c HT8
  clear q0 x0 x1 x2 x3 x4 x5 x6 y0 y1 y2 y3 y4 y5 y6 z0 z1 z2 z3 z4 z5 z6
  have q0 := cell_of_one ((HB10.out.block _ (by omega)).trans HC0.out)
  obtain ⟨x0, x1, x2, x3, x4, x5, x6, _⟩ := zero_cells ((HB10.out.block _ (by omega)).trans HCA.out)
  obtain ⟨y0, y1, y2, y3, y4, y5, y6, _⟩ := zero_cells ((HB10.out.block _ (by omega)).trans HCB.out)
  obtain ⟨z0, z1, z2, z3, z4, z5, z6, _⟩ := zero_cells ((HX10.out.block _ (lt_of_block HR5.out)).trans HR5.out)
  obtain ⟨u0, u1, u2, u3, u4, u5, u6, _⟩ := zero_cells HR10.out
  go_wp2_with (fail)
  refine (concat2_calls a0 a2 Z a1 _ _ tu w10 (arrAt_bel HA.out HB10.out) HA10.out (HN.out.below HB10.out) (HV.out.below HB10.out HV.out.six) hx1).mono ?_
  rw [HE1.out]
  rintro e w11 h11
  obtain ⟨a11, c11, rfl, ha11, _, hb11⟩ := h11.open
  replace ha11 : ArrAt w11 B (arrV B.lay B.off B.len B.valid B.ends B.data (.slice a11 B.kids.length c11)) := ha11
  have hb12 := below_alloc hb11 (.cells (arrC B.lay B.off B.len B.valid B.ends B.data (.slice a11 B.kids.length c11)) 27)
  have hR12 := heap_alloc_new w11 (.cells (arrC B.lay B.off B.len B.valid B.ends B.data (.slice a11 B.kids.length c11)) 27)
  have HA12 := Lib.hid (arrAt_bel ha11 (below_alloc (Below.refl w11.heap.size w11) (.cells (arrC B.lay B.off B.len B.valid B.ends B.data (.slice a11 B.kids.length c11)) 27)))
  obtain ⟨w12, hw12⟩ : ∃ w12, w11.alloc (.cells (arrC B.lay B.off B.len B.valid B.ends B.data (.slice a11 B.kids.length c11)) 27) = w12 := ⟨_, rfl⟩
  rw [hw12] at hb12 hR12 HA12
  have HX12 := Lib.hid (below_then HX10.out hb12)
  have HB12 := Lib.hid (below_then HB10.out hb12)
  have HT6e := Lib.hid (HT6d.out.below hb12)
  have HT7e := Lib.hid (HT7d.out.below hb12)
  have HT8e := Lib.hid (HT8d.out.below hb12)
  have hRz := (hb12.block _ (lt_of_block HR10.out)).trans HR10.out
  have HRz := Lib.hid hRz
  have HAz := Lib.hid (arrAt_bel HA10.out hb12)
  have HR12 := Lib.hid hR12
  clear h11 ha11 hb11 hb12 hR12 HT6d HT7d HT8d hw10 u0 u1 u2 u3 u4 u5 u6
  clear q0 x0 x1 x2 x3 x4 x5 x6 y0 y1 y2 y3 y4 y5 y6 z0 z1 z2 z3 z4 z5 z6
  have q0 := cell_of_one ((HB12.out.block _ (by omega)).trans HC0.out)
  obtain ⟨x0, x1, x2, x3, x4, x5, x6, _⟩ := zero_cells ((HB12.out.block _ (by omega)).trans HCA.out)
  obtain ⟨y0, y1, y2, y3, y4, y5, y6, _⟩ := zero_cells ((HB12.out.block _ (by omega)).trans HCB.out)
  obtain ⟨z0, z1, z2, z3, z4, z5, z6, _⟩ := zero_cells ((HX12.out.block _ (lt_of_block HR5.out)).trans HR5.out)
  obtain ⟨u0, u1, u2, u3, u4, u5, u6, _⟩ := zero_cells hRz
  clear hRz
  go_wp2_with (fail)
  refine (concat2_calls a0 Z a2 a1 _ _ tu w12 HAz.out (arrAt_bel HA.out HB12.out) (HN.out.below HB12.out) (HV.out.below HB12.out HV.out.six) hx1).mono ?_
  rw [HE2.out]
  rintro e w13 h13
  obtain ⟨a13, c13, rfl, ha13, _, hb13⟩ := h13.open
  replace ha13 : ArrAt w13 B (arrV B.lay B.off B.len B.valid B.ends B.data (.slice a13 B.kids.length c13)) := ha13
  have hb14 := below_alloc hb13 (.cells (arrC B.lay B.off B.len B.valid B.ends B.data (.slice a13 B.kids.length c13)) 27)
  have hR14 := heap_alloc_new w13 (.cells (arrC B.lay B.off B.len B.valid B.ends B.data (.slice a13 B.kids.length c13)) 27)
  have HA14 := Lib.hid (arrAt_bel ha13 (below_alloc (Below.refl w13.heap.size w13) (.cells (arrC B.lay B.off B.len B.valid B.ends B.data (.slice a13 B.kids.length c13)) 27)))
  obtain ⟨w14, hw14⟩ : ∃ w14, w13.alloc (.cells (arrC B.lay B.off B.len B.valid B.ends B.data (.slice a13 B.kids.length c13)) 27) = w14 := ⟨_, rfl⟩
  rw [hw14] at hb14 hR14 HA14
  have HB14 := Lib.hid (below_then HB12.out hb14)
  have HT6f := Lib.hid (HT6e.out.below hb14)
  have HT7f := Lib.hid (HT7e.out.below hb14)
  have HT8f := Lib.hid (HT8e.out.below hb14)
  have hR12b := (hb14.block _ (lt_of_block HR12.out)).trans HR12.out
  have HA12b := Lib.hid (arrAt_bel HA12.out hb14)
  clear h13 ha13 hb13 hb14 HT6e HT7e HT8e hw12 u0 u1 u2 u3 u4 u5 u6
  clear q0 x0 x1 x2 x3 x4 x5 x6 y0 y1 y2 y3 y4 y5 y6 z0 z1 z2 z3 z4 z5 z6
  obtain ⟨u0, u1, u2, u3, u4, u5, u6, _⟩ := zero_cells hR12b
  obtain ⟨s0, s1, s2, s3, s4, s5, s6, _⟩ := zero_cells hR14
  obtain ⟨r6a, r6c, rfl, hl6, hm6, _⟩ := HT6f.out
  obtain ⟨r7a, r7c, rfl, hl7, hm7, _⟩ := HT7f.out
  obtain ⟨r8a, r8c, rfl, hl8, hm8, _⟩ := HT8f.out
  unfold maxLen at hm6 hm7 hm8
  have hlen : (X ++ Y).length = X.length + Y.length := List.length_append
  rw [hlen] at HT8f hl8
  rw [hlen]
  go_wp2_with (go_at_call 17; refine (num_calls _ _).mono ?_; rintro e w' ⟨rfl, rfl⟩)
  refine (sameArray_calls B B _ _ _ HA12b.out HA14.out).mono ?_; rintro e w15 ⟨rfl, hb15⟩
  rw [(Arr.same_eq B B).2 rfl]
  have HB15 := Lib.hid (below_then HB14.out hb15)
  have HT6g := Lib.hid (HT6f.out.below hb15)
  have HT7g := Lib.hid (HT7f.out.below hb15)
  have HT8g := Lib.hid (HT8f.out.below hb15)
  clear hb15 hlen u0 u1 u2 u3 u4 u5 u6 s0 s1 s2 s3 s4 s5 s6 hR12b hR14 hw14
  cases r8a with
  | none =>
   obtain ⟨hxy, hn0⟩ := texts_none HT8g.out
   obtain ⟨rfl, rfl⟩ := List.append_eq_nil_iff.1 hxy
   go_wp2_with (fail)
   have HN0 := Lib.hid (show TextsAt w15 (.slice none 0 r8c) ([] : List Vp.Txt) from HT8g.out)
   refine (sameTexts_calls _ _ ([] : List Vp.Txt) [] _ HN0.out HT6g.out).mono ?_; rintro e w16 ⟨rfl, hb16⟩
   rw [show (([] : List Vp.Txt) == []) = true from rfl]
   have HN1 := Lib.hid (HN0.out.below hb16)
   have HT7h := Lib.hid (HT7g.out.below hb16)
   have HB16 := below_then HB15.out hb16
   go_wp2_with (fail)
   refine (sameTexts_calls _ _ ([] : List Vp.Txt) [] _ HN1.out HT7h.out).mono ?_; rintro e w17 ⟨rfl, hb17⟩
   rw [show (([] : List Vp.Txt) == []) = true from rfl]
   have HB17 := below_then HB16 hb17
   go_wp2
   go_ret
   exact ⟨rfl, HB1.out.trans (HB17.mono HB1.out.size)⟩
  | some ad =>
   have HTA := Lib.hid (show TextsAt w15 (.slice (some ad) X.length r8c) X by
    have h := texts_take (k := X.length) HT8g.out (by omega)
    rwa [List.take_left] at h)
   have HTD := Lib.hid (show TextsAt w15 (.slice (some (ad.add X.length)) (X.length + Y.length - X.length) (r8c - X.length)) Y by
    have h := texts_drop (k := X.length) HT8g.out (by omega)
    rwa [List.drop_left] at h)
   go_wp2_with (fail)
   refine (sameTexts_calls _ _ X X _ HTA.out HT6g.out).mono ?_; rintro e w16 ⟨rfl, hb16⟩
   rw [show (X == X) = true from beq_self_eq_true X]
   have HTE := Lib.hid (show TextsAt w16 (.slice (some (ad.add X.length)) Y.length (r8c - X.length)) Y by
    have h := HTD.out.below hb16
    rwa [Nat.add_sub_cancel_left] at h)
   have HT7h := Lib.hid (HT7g.out.below hb16)
   have HB16 := below_then HB15.out hb16
   clear HTD HTA HT6g HT7g HT8g hb16
   rcases Nat.lt_or_ge X.length r8c with hcap | hcap
   ·have hcap2 : 0 < r8c - X.length := by omega
    have hcap3 : ¬ r8c - X.length = 0 := by omega
    go_wp2_with (fail)
    refine (sameTexts_calls _ _ Y Y _ HTE.out HT7h.out).mono ?_; rintro e w17 ⟨rfl, hb17⟩
    rw [show (Y == Y) = true from beq_self_eq_true Y]
    have HB17 := below_then HB16 hb17
    go_wp2
    go_ret
    exact ⟨rfl, HB1.out.trans (HB17.mono HB1.out.size)⟩
   ·have hY : Y.length = 0 := by omega
    obtain rfl : Y = [] := List.eq_nil_of_length_eq_zero hY
    obtain rfl : r8c = X.length := by omega
    go_wp2_with (fail)
    refine (sameTexts_calls (.slice (some ad) 0 0) _ ([] : List Vp.Txt) [] _ ⟨_, _, rfl, Nat.le_refl _, by decide, fun h => absurd rfl h⟩ HT7h.out).mono ?_; rintro e w17 ⟨rfl, hb17⟩
    rw [show (([] : List Vp.Txt) == []) = true from rfl]
    have HB17 := below_then HB16 hb17
    go_wp2
    go_ret
    exact ⟨rfl, HB1.out.trans (HB17.mono HB1.out.size)⟩
 ·have he2 : (er != 0) = true := bne_iff_ne.2 he
  obtain rfl : A = Arr.none := HNO.out he
  clear HFA HNO
  go_wp2_with (go_at_call 17; refine (num_calls _ _).mono ?_; rintro e w' ⟨rfl, rfl⟩)
  refine (sameArray_calls Arr.none Arr.none _ _ _ HA5.out ⟨_, rfl, kids_nil _⟩).mono ?_; rintro e w7 ⟨rfl, hb7⟩
  rw [(Arr.same_eq Arr.none Arr.none).2 rfl]
  have HB7 := below_then HB5.out hb7
  go_wp2
  go_ret
  exact ⟨rfl, HB1.out.trans (HB7.mono HB1.out.size)⟩
end Go.Proofs.YtobhjlchpnpleaaGreatDoor

/- The law ConcatRows: for every input the call returns true and the input reads as it did; the row and its card (the listed variables as the program's text lays them). Conditions: none. -/
namespace Go.Proofs.YtobhjlchpnpleaaGreatDoor.concatRows
open Go.ChangeShapes Go.WideShapes Go.ChangeAt Go.RowKit
open Go.ChangeMaps (open_string shut_string)
set_option linter.unusedVariables false
set_option linter.unusedSimpArgs false
theorem laidOut : laidOutB Tryz.prog = true := by kernel_rfl
set_option maxRecDepth 100000 in
theorem contract (H : Type) (enc : TypeId × Value → H) (F : Stop.Interp) (W : World) (base : Nat) (args : Array Value) (ds gs : List (DataW H)) (before : List MemPlace)
  (hval0 : ∀ (j : Nat) t v, Tryz.f4.params[j]? = some t → args[j]? = some v → Value.okWide Tryz.prog W .any base t v)
  (hW : DataW.Whole enc Tryz.prog Tryz.f4.params.toList (OpenSpec.ofChange Rows.concatRowsSpec).vars false W args.toList ds gs before)
  (hk : ∀ k, (OpenSpec.ofChange Rows.concatRowsSpec).cond = some k → k H (ds ++ gs) = true)
  (hsz0 : (DataW.weightsEach Tryz.prog (Tryz.f4.params.toList ++ (OpenSpec.ofChange Rows.concatRowsSpec).bare.plain.varTypes Tryz.prog) (ds ++ gs)).all (· ≤ reachBytes) = true)
  (hL : laidMetH Tryz.prog Rows.concatRowsRow.laid W) (hsh : W.ShapedOpen Tryz.prog) :
  Calls Tryz.prog 4 args W fun e W' => ∃ v, e = .returned v ∧ ((OpenSpec.ofChange Rows.concatRowsSpec).at F).post enc Tryz.prog Tryz.f4 false true false false W args v W' := by
 have hv : Vars W := vars_of_laid (show laidMet Tryz.prog laidAll W from hL) hsh
 have hsz : (DataW.weightsEach Tryz.prog (Tryz.f4.params.toList ++ Rows.concatRowsSpec.plain.varTypes Tryz.prog) (ds ++ gs)).all (· ≤ reachBytes) = true := hsz0
 have hval : ∀ (j : Nat) t v, Tryz.f4.params[j]? = some t → args[j]? = some v → Value.okWide Tryz.prog W .any base t v := hval0
 have hW' := hW
 obtain ⟨p, q, hA0, hV, rfl, hfz, hnd⟩ := hW
 have hA : DataW.TrodAll enc Tryz.prog W 0 (fun _ => true) true Tryz.f4.params.toList args.toList ds p := hA0
 rw [Tryz.params4] at hA hval hsz
 obtain ⟨v0, vs0, d0, ds0, p0, q0, hargs, rfl, rfl, h0, r0⟩ := trodAll_cons hA
 obtain ⟨v1, vs1, d1, ds1, p1, q1, rfl, rfl, rfl, h1, r1⟩ := trodAll_cons r0
 obtain ⟨v2, vs2, d2, ds2, p2, q2, rfl, rfl, rfl, h2, r2⟩ := trodAll_cons r1
 obtain ⟨v3, vs3, d3, ds3, p3, q3, rfl, rfl, rfl, h3, r3⟩ := trodAll_cons r2
 obtain ⟨rfl, rfl, rfl⟩ := trodAll_nil r3
 obtain rfl : args = #[v0, v1, v2, v3] := by cases args; simp_all
 obtain ⟨rfl, rfl⟩ := trodVars_none hV
 have k0 := h0
 have lt0 : ∀ x ∈ p0, x.block < W.heap.size := by obtain ⟨m, hm⟩ := k0; exact DataW.trod_lt m _ _ _ hm
 obtain ⟨a0, w0, y0⟩ := open_type_sz (hval 0 24 v0 rfl rfl) h0 (fun n hn => List.all_eq_true.1 hsz n (DataW.weights_mem_each (j := 0) rfl rfl n hn))
 obtain ⟨a1, rfl, rfl, rfl, w1⟩ := open_int Tryz.underlying3 (hval 1 3 v1 rfl rfl) h1
 have k2 := h2
 have lt2 : ∀ x ∈ p2, x.block < W.heap.size := by obtain ⟨m, hm⟩ := k2; exact DataW.trod_lt m _ _ _ hm
 obtain ⟨a2, w2, y2⟩ := open_array_sz (hval 2 27 v2 rfl rfl) h2 (fun n hn => List.all_eq_true.1 hsz n (DataW.weights_mem_each (j := 2) rfl rfl n hn))
 have k3 := h3
 have lt3 : ∀ x ∈ p3, x.block < W.heap.size := by obtain ⟨m, hm⟩ := k3; exact DataW.trod_lt m _ _ _ hm
 obtain ⟨a3, w3, y3⟩ := open_array_sz (hval 3 27 v3 rfl rfl) h3 (fun n hn => List.all_eq_true.1 hsz n (DataW.weights_mem_each (j := 3) rfl rfl n hn))
 clear hA0 hval0 hsz0 hsz
 refine (concatRows_walk v0 a0 a1 v2 a2 v3 a3 W hv w0 y0 w1 w2 y2 w3 y3).mono fun e W' ⟨he, bel⟩ => ?_
 subst he
 exact ⟨_, rfl, _, _, _, [], _, [], hW', trodAll_mk1 (shut_bool Tryz.underlying4 _), (trodAll_cons_mk (Below.trod laidOut (by kernel_rfl) (of_decide_eq_true (by kernel_rfl)) k0 bel lt0) (trodAll_cons_mk (shut_int Tryz.underlying3 w1) (trodAll_cons_mk (Below.trod laidOut (by kernel_rfl) (of_decide_eq_true (by kernel_rfl)) k2 bel lt2) (trodAll_cons_mk (Below.trod laidOut (by kernel_rfl) (of_decide_eq_true (by kernel_rfl)) k3 bel lt3) trodAll_mk0)))), rfl, bel.frame _, fun h => by cases h⟩
theorem reads (os : Os) {H : Type} (enc : TypeId × Value → H) : ∃ places, DataW.whole enc Tryz.prog ((laidWorld os).forCall (fun _ _ => 0) ⟨#[], #[.agg #[.slice none 0 0], .int .i64 0, .agg #[.int .i64 0, .int .i64 0, .int .i64 0, .string ByteArray.empty, .string ByteArray.empty, .string ByteArray.empty, .slice none 0 0], .agg #[.int .i64 0, .int .i64 0, .int .i64 0, .string ByteArray.empty, .string ByteArray.empty, .string ByteArray.empty, .slice none 0 0]], []⟩).memory Tryz.f4.params.toList Rows.concatRowsSpec.vars false #[.agg #[.slice none 0 0], .int .i64 0, .agg #[.int .i64 0, .int .i64 0, .int .i64 0, .string ByteArray.empty, .string ByteArray.empty, .string ByteArray.empty, .slice none 0 0], .agg #[.int .i64 0, .int .i64 0, .int .i64 0, .string ByteArray.empty, .string ByteArray.empty, .string ByteArray.empty, .slice none 0 0]].toList 8 = some ([.agg [.nil], .lit (.int .i64 0), .agg [.lit (.int .i64 0), .lit (.int .i64 0), .lit (.int .i64 0), .lit (.string []), .lit (.string []), .lit (.string []), .nil], .agg [.lit (.int .i64 0), .lit (.int .i64 0), .lit (.int .i64 0), .lit (.string []), .lit (.string []), .lit (.string []), .nil]], [], places) :=
 ⟨[], by kernel_rfl⟩
set_option maxRecDepth 100000 in
theorem lifted (os : Os) (started : os.Started) (H : Type) (enc : TypeId × Value → H) (F : Stop.Interp) :
  ReturnsInHanded {} Tryz.checked os 4 .any ((OpenSpec.ofChange Rows.concatRowsSpec).preRow enc Tryz.prog Tryz.f4 Rows.concatRowsRow.domain false Rows.concatRowsRow.laid) (((OpenSpec.ofChange Rows.concatRowsSpec).at F).post enc Tryz.prog Tryz.f4 false true false false) := by
 obtain ⟨places, hx⟩ := reads os enc
 refine returnsInHanded_of_row (C := Tryz.checked) (s := OpenSpec.ofChange Rows.concatRowsSpec) Tryz.own_ started (by kernel_rfl) Tryz.func4
  (witness_row_atRef (enc := enc) (C := Tryz.checked) false (laidWorld os) #[.agg #[.slice none 0 0], .int .i64 0, .agg #[.int .i64 0, .int .i64 0, .int .i64 0, .string ByteArray.empty, .string ByteArray.empty, .string ByteArray.empty, .slice none 0 0], .agg #[.int .i64 0, .int .i64 0, .int .i64 0, .string ByteArray.empty, .string ByteArray.empty, .string ByteArray.empty, .slice none 0 0]] rfl (by kernel_rfl) (by kernel_rfl) (by kernel_rfl)
   (OpenSpec.preRow_of_cond 8 hx (by kernel_rfl) (fun k hk => by cases hk) (by kernel_rfl) (laid_met os _))) ?_
 intro W base args ds gs before hval hW _ hk hsz hL hsh _
 exact contract H enc F W base args ds gs before hval hW hk hsz hL hsh
theorem said : Rows.ConcatRowsSaid :=
 OpenClaim.holds_of_cond 4 Tryz.f4 rfl rfl rfl rfl rfl rfl rfl ⟨rfl, rfl, rfl, rfl, rfl⟩ rfl rfl rfl rfl rfl (by kernel_rfl) Tryz.func4 (by kernel_rfl)
  (of_decide_eq_true (by kernel_rfl)) (by unfold Func.isWrapper; first | (rw [if_pos (by decide +kernel)]; kernel_rfl) | (rw [if_neg (by decide +kernel)]; exact ⟨rfl, rfl⟩))
  (fun os started H enc _ F => by rw [OpenClaim.pre_eq_preRow]; exact lifted os started H enc F)
theorem plain (f : FuncId) (fn : Func) (hf : Tryz.pinned.checked.prog.funcNamed "quiver/quiverlaw12.ConcatRows" = some f) (hfn : Tryz.pinned.checked.prog.funcs[f]? = some fn) :
  true = Tryz.pinned.checked.prog.looks [] ∧ ∀ (j : Nat) t, fn.params[j]? = some t → Tryz.pinned.checked.prog.wantsStandIn t = false := by
 obtain rfl : f = 4 := Option.some.inj ((show Tryz.prog.funcNamed "quiver/quiverlaw12.ConcatRows" = some 4 by kernel_rfl).symm.trans hf) |>.symm
 obtain rfl : fn = Tryz.f4 := (Option.some.inj (Tryz.func4.symm.trans hfn)).symm
 refine ⟨by kernel_rfl, fun j t ht => ?_⟩
 rw [Tryz.params4] at ht
 have hm : t = 3 ∨ t = 24 ∨ t = 27 := by have h := Array.mem_of_getElem? ht; simp at h; (repeat' (rcases h with h | h)); all_goals simp
 rcases hm with rfl | rfl | rfl
 ·exact (show Tryz.prog.wantsStandIn 3 = false by kernel_rfl)
 ·exact (show Tryz.prog.wantsStandIn 24 = false by kernel_rfl)
 ·exact (show Tryz.prog.wantsStandIn 27 = false by kernel_rfl)
theorem card : Rows.ConcatRowsCardSaid :=
 Claim7.holds_tied_plain_at .later [] _ _ _ _ said (fun _ h => by cases h) (by kernel_rfl) (fun _ h => by cases h) concatRows_row_tie rfl ⟨rfl, rfl⟩ (by kernel_rfl) rfl plain (by kernel_rfl)
#print axioms card
end Go.Proofs.YtobhjlchpnpleaaGreatDoor.concatRows
namespace Go.Proofs.YtobhjlchpnpleaaGreatDoor
/-- The law's statement. -/
theorem concatRows_holds : Rows.ConcatRowsCardSaid := concatRows.card
end Go.Proofs.YtobhjlchpnpleaaGreatDoor
