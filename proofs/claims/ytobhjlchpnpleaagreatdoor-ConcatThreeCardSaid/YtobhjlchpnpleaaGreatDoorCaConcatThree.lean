/- Several texts in one: Law12C, LawConcatThree. -/
import Derived.Test.YtobhjlchpnpleaaGreatDoorCa44
import Derived.Test.YtobhjlchpnpleaaGreatDoorCa2
import Derived.Test.YtobhjlchpnpleaaGreatDoorCards
import Derived.Test.YtobhjlchpnpleaaGreatDoorTie
import Derived.Test.YtobhjlchpnpleaaGreatDoorCa45
import Derived.WalkKit
import Derived.ProofKit
import Derived.OpenShut
import Derived.ShutString
import Derived.ChangeOld
import Derived.Below
import Derived.SizedLaws
import Derived.JoinedCond
import Derived.Carry
/- Chapter 12: the walk of ConcatThree. -/
namespace Go.Proofs.YtobhjlchpnpleaaGreatDoor
open Go.RowKit
set_option linter.unusedVariables false
set_option linter.unusedSimpArgs false

set_option maxRecDepth 100000 in
set_option maxHeartbeats 6400000 in
theorem concatThree_walk (v0 : Value) (a0 : List Tp.Nd) (a1 : Int) (v2 : Value) (a2 : Arr) (v3 : Value) (a3 : Arr) (W : World) (hv : Vars W)
  (w0 : ∃ u, v0 = typeV u ∧ NodesAt W u a0) (b0 : a0.length * 24 ≤ 140737488351232) (w1 : (Lit.int .i64 a1).wf = true) (w2 : ArrAt W a2 v2) (b2 : SizedA a2) (w3 : ArrAt W a3 v3) (b3 : SizedA a3) :
  Calls Tryz.prog 5 #[v0, .int .i64 a1, v2, v3] W fun e w' => e = .returned (.bool true) ∧ Below W.heap.size W w' := by
 obtain ⟨tu, rfl, hn⟩ := w0
 have hx1 : a1 ≤ 9223372036854775807 := (i64_le w1).2
 obtain ⟨ka, kac, rfl, hka⟩ := arrAt_open w2
 obtain ⟨kb, kbc, rfl, hkb⟩ := arrAt_open w3
 obtain ⟨C0, CA, CB, hsz, hb1⟩ := blk3 W (.cells #[tu] 24) (.cells (arrC a2.lay a2.off a2.len a2.valid a2.ends a2.data (.slice ka a2.kids.length kac)) 27) (.cells (arrC a3.lay a3.off a3.len a3.valid a3.ends a3.data (.slice kb a3.kids.length kbc)) 27)
 obtain ⟨W1, hW1⟩ : ∃ W1, ((W.alloc (.cells #[tu] 24)).alloc (.cells (arrC a2.lay a2.off a2.len a2.valid a2.ends a2.data (.slice ka a2.kids.length kac)) 27)).alloc (.cells (arrC a3.lay a3.off a3.len a3.valid a3.ends a3.data (.slice kb a3.kids.length kbc)) 27) = W1 := ⟨_, rfl⟩
 rw [hW1] at C0 CA CB hsz hb1
 have HN := Lib.hid (hn.below hb1)
 have HA := Lib.hid (arrAt_bel w2 hb1)
 have HBB := Lib.hid (arrAt_bel w3 hb1)
 have HV := Lib.hid (hv.below hb1 hv.six)
 have HB1 := Lib.hid hb1
 have HC0 := Lib.hid C0
 have HCA := Lib.hid CA
 have HCB := Lib.hid CB
 clear hn w1 w2 w3 b0 b2 b3 hka hkb C0 CA CB hb1
 go_enter Tryz.func5, Tryz.ntmps5
 go_wp2_with (fail)
 refine (awake12_calls _ HV.out).mono ?_; rintro e w2 ⟨rfl, hb2⟩
 have HB2 := Lib.hid hb2
 clear hW1 hb2
 have q0 := cell_of_one ((HB2.out.block _ (by omega)).trans HC0.out)
 obtain ⟨x0, x1, x2, x3, x4, x5, x6, _⟩ := zero_cells ((HB2.out.block _ (by omega)).trans HCA.out)
 obtain ⟨y0, y1, y2, y3, y4, y5, y6, _⟩ := zero_cells ((HB2.out.block _ (by omega)).trans HCB.out)
 go_wp2_with (fail)
 refine (concat2_calls a0 a2 a3 a1 _ _ tu w2 (arrAt_bel HA.out HB2.out) (arrAt_bel HBB.out HB2.out) (HN.out.below HB2.out) (HV.out.below HB2.out HV.out.six) hx1).mono ?_
 rintro e w3 h3
 obtain ⟨sa3, c3, rfl, ha3, _, hb3⟩ := h3.open
 clear h3
 obtain ⟨⟨A, e3⟩, hr3⟩ : ∃ r, Vp.concR a0 a1 a2 a3 = r := ⟨_, rfl⟩
 rw [hr3] at ha3 ⊢
 have HR3 := Lib.hid hr3
 replace ha3 : ArrAt w3 A (arrV A.lay A.off A.len A.valid A.ends A.data (.slice sa3 A.kids.length c3)) := ha3
 have hx3 := below_alloc hb3 (.cells (arrC A.lay A.off A.len A.valid A.ends A.data (.slice sa3 A.kids.length c3)) 27)
 have hB3 := heap_alloc_new w3 (.cells (arrC A.lay A.off A.len A.valid A.ends A.data (.slice sa3 A.kids.length c3)) 27)
 have HA3 := Lib.hid (arrAt_bel ha3 (below_alloc (Below.refl w3.heap.size w3) (.cells (arrC A.lay A.off A.len A.valid A.ends A.data (.slice sa3 A.kids.length c3)) 27)))
 obtain ⟨v3, hv3⟩ : ∃ v3, w3.alloc (.cells (arrC A.lay A.off A.len A.valid A.ends A.data (.slice sa3 A.kids.length c3)) 27) = v3 := ⟨_, rfl⟩
 rw [hv3] at hx3 hB3 HA3
 have HBK3 := Lib.hid hB3
 have HX3 := Lib.hid hx3
 clear hr3 ha3 hb3 hx3 hB3
 have HB3 := Lib.hid (below_then HB2.out HX3.out)
 clear q0 x0 x1 x2 x3 x4 x5 x6 y0 y1 y2 y3 y4 y5 y6
 have q0 := cell_of_one ((HB3.out.block _ (by omega)).trans HC0.out)
 obtain ⟨x0, x1, x2, x3, x4, x5, x6, _⟩ := zero_cells ((HB3.out.block _ (by omega)).trans HCA.out)
 obtain ⟨y0, y1, y2, y3, y4, y5, y6, _⟩ := zero_cells ((HB3.out.block _ (by omega)).trans HCB.out)
 obtain ⟨z0, z1, z2, z3, z4, z5, z6, _⟩ := zero_cells HBK3.out
 go_wp2_with (fail)
 refine (concat2_calls a0 A a2 a1 _ _ tu v3 HA3.out (arrAt_bel HA.out HB3.out) (HN.out.below HB3.out) (HV.out.below HB3.out HV.out.six) hx1).mono ?_
 rintro e w4 h4
 obtain ⟨sa4, c4, rfl, ha4, _, hb4⟩ := h4.open
 clear h4
 obtain ⟨⟨B, e4⟩, hr4⟩ : ∃ r, Vp.concR a0 a1 A a2 = r := ⟨_, rfl⟩
 rw [hr4] at ha4 ⊢
 have HR4 := Lib.hid hr4
 replace ha4 : ArrAt w4 B (arrV B.lay B.off B.len B.valid B.ends B.data (.slice sa4 B.kids.length c4)) := ha4
 have hx4 := below_alloc hb4 (.cells (arrC B.lay B.off B.len B.valid B.ends B.data (.slice sa4 B.kids.length c4)) 27)
 have hB4 := heap_alloc_new w4 (.cells (arrC B.lay B.off B.len B.valid B.ends B.data (.slice sa4 B.kids.length c4)) 27)
 have HA4 := Lib.hid (arrAt_bel ha4 (below_alloc (Below.refl w4.heap.size w4) (.cells (arrC B.lay B.off B.len B.valid B.ends B.data (.slice sa4 B.kids.length c4)) 27)))
 obtain ⟨v4, hv4⟩ : ∃ v4, w4.alloc (.cells (arrC B.lay B.off B.len B.valid B.ends B.data (.slice sa4 B.kids.length c4)) 27) = v4 := ⟨_, rfl⟩
 rw [hv4] at hx4 hB4 HA4
 have HBK4 := Lib.hid hB4
 have HX4 := Lib.hid hx4
 clear hr4 ha4 hb4 hx4 hB4
 have HB4 := Lib.hid (below_then HB3.out HX4.out)
 clear z0 z1 z2 z3 z4 z5 z6 hv3
 clear q0 x0 x1 x2 x3 x4 x5 x6 y0 y1 y2 y3 y4 y5 y6
 have q0 := cell_of_one ((HB4.out.block _ (by omega)).trans HC0.out)
 obtain ⟨x0, x1, x2, x3, x4, x5, x6, _⟩ := zero_cells ((HB4.out.block _ (by omega)).trans HCA.out)
 obtain ⟨y0, y1, y2, y3, y4, y5, y6, _⟩ := zero_cells ((HB4.out.block _ (by omega)).trans HCB.out)
 go_wp2_with (fail)
 refine (concat2_calls a0 a3 a2 a1 _ _ tu v4 (arrAt_bel HBB.out HB4.out) (arrAt_bel HA.out HB4.out) (HN.out.below HB4.out) (HV.out.below HB4.out HV.out.six) hx1).mono ?_
 rintro e w5 h5
 obtain ⟨sa5, c5, rfl, ha5, _, hb5⟩ := h5.open
 clear h5
 obtain ⟨⟨C, e5⟩, hr5⟩ : ∃ r, Vp.concR a0 a1 a3 a2 = r := ⟨_, rfl⟩
 rw [hr5] at ha5 ⊢
 have HR5 := Lib.hid hr5
 replace ha5 : ArrAt w5 C (arrV C.lay C.off C.len C.valid C.ends C.data (.slice sa5 C.kids.length c5)) := ha5
 have hx5 := below_alloc hb5 (.cells (arrC C.lay C.off C.len C.valid C.ends C.data (.slice sa5 C.kids.length c5)) 27)
 have hB5 := heap_alloc_new w5 (.cells (arrC C.lay C.off C.len C.valid C.ends C.data (.slice sa5 C.kids.length c5)) 27)
 have HA5 := Lib.hid (arrAt_bel ha5 (below_alloc (Below.refl w5.heap.size w5) (.cells (arrC C.lay C.off C.len C.valid C.ends C.data (.slice sa5 C.kids.length c5)) 27)))
 obtain ⟨v5, hv5⟩ : ∃ v5, w5.alloc (.cells (arrC C.lay C.off C.len C.valid C.ends C.data (.slice sa5 C.kids.length c5)) 27) = v5 := ⟨_, rfl⟩
 rw [hv5] at hx5 hB5 HA5
 have HBK5 := Lib.hid hB5
 have HX5 := Lib.hid hx5
 clear hr5 ha5 hb5 hx5 hB5
 have HB5 := Lib.hid (below_then HB4.out HX5.out)
 clear hv4
 clear q0 x0 x1 x2 x3 x4 x5 x6 y0 y1 y2 y3 y4 y5 y6
 have q0 := cell_of_one ((HB5.out.block _ (by omega)).trans HC0.out)
 obtain ⟨x0, x1, x2, x3, x4, x5, x6, _⟩ := zero_cells ((HB5.out.block _ (by omega)).trans HCA.out)
 obtain ⟨y0, y1, y2, y3, y4, y5, y6, _⟩ := zero_cells ((HB5.out.block _ (by omega)).trans HCB.out)
 obtain ⟨z0, z1, z2, z3, z4, z5, z6, _⟩ := zero_cells HBK5.out
 go_wp2_with (fail)
 refine (concat2_calls a0 a2 C a1 _ _ tu v5 (arrAt_bel HA.out HB5.out) HA5.out (HN.out.below HB5.out) (HV.out.below HB5.out HV.out.six) hx1).mono ?_
 rintro e w6 h6
 obtain ⟨sa6, c6, rfl, ha6, _, hb6⟩ := h6.open
 clear h6
 obtain ⟨⟨D, e6⟩, hr6⟩ : ∃ r, Vp.concR a0 a1 a2 C = r := ⟨_, rfl⟩
 rw [hr6] at ha6 ⊢
 have HR6 := Lib.hid hr6
 replace ha6 : ArrAt w6 D (arrV D.lay D.off D.len D.valid D.ends D.data (.slice sa6 D.kids.length c6)) := ha6
 have hx6 := below_alloc hb6 (.cells (arrC D.lay D.off D.len D.valid D.ends D.data (.slice sa6 D.kids.length c6)) 27)
 have hB6 := heap_alloc_new w6 (.cells (arrC D.lay D.off D.len D.valid D.ends D.data (.slice sa6 D.kids.length c6)) 27)
 have HA6 := Lib.hid (arrAt_bel ha6 (below_alloc (Below.refl w6.heap.size w6) (.cells (arrC D.lay D.off D.len D.valid D.ends D.data (.slice sa6 D.kids.length c6)) 27)))
 obtain ⟨v6, hv6⟩ : ∃ v6, w6.alloc (.cells (arrC D.lay D.off D.len D.valid D.ends D.data (.slice sa6 D.kids.length c6)) 27) = v6 := ⟨_, rfl⟩
 rw [hv6] at hx6 hB6 HA6
 have HBK6 := Lib.hid hB6
 have HX6 := Lib.hid hx6
 clear hr6 ha6 hb6 hx6 hB6
 have HB6 := Lib.hid (below_then HB5.out HX6.out)
 clear z0 z1 z2 z3 z4 z5 z6 hv5
 clear q0 x0 x1 x2 x3 x4 x5 x6 y0 y1 y2 y3 y4 y5 y6
 have HY4 := Lib.hid (below_then HX5.out HX6.out)
 have HK4 := (HY4.out.block _ (lt_of_block HBK4.out)).trans HBK4.out
 have HA4b := Lib.hid (arrAt_bel HA4.out HY4.out)
 have hK6 := HBK6.out
 have HEQ := Lib.hid (show e3 = 0 → e4 = 0 → e5 = 0 → e6 = 0 → B = D from fun h3 h4 h5 h6 => by
  have i1 : (Vp.concR a0 a1 a2 a3).2 = 0 := by rw [HR3.out]; exact h3
  have i2 : (Vp.concR a0 a1 a3 a2).2 = 0 := by rw [HR5.out]; exact h5
  have i3 : (Vp.concR a0 a1 (Vp.concR a0 a1 a2 a3).1 a2).2 = 0 := by rw [HR3.out, HR4.out]; exact h4
  have i4 : (Vp.concR a0 a1 a2 (Vp.concR a0 a1 a3 a2).1).2 = 0 := by rw [HR5.out, HR6.out]; exact h6
  have := Vp.concR_three i1 i2 i3 i4
  rw [HR3.out, HR4.out, HR5.out, HR6.out] at this
  exact this)
 clear HR3 HR4 HR5 HR6
 by_cases g3 : e3 ≠ 0
 ·have k3 : (e3 != 0) = true := bne_iff_ne.2 g3
  go_wp2_with (go_at_call 17; refine (num_calls _ _).mono ?_; rintro e w' ⟨rfl, rfl⟩)
  go_ret
  exact ⟨rfl, HB1.out.trans (HB6.out.mono HB1.out.size)⟩
 obtain rfl : e3 = 0 := Classical.not_not.1 g3
 by_cases g4 : e4 ≠ 0
 ·have k4 : (e4 != 0) = true := bne_iff_ne.2 g4
  go_wp2_with (go_at_call 17; refine (num_calls _ _).mono ?_; rintro e w' ⟨rfl, rfl⟩)
  go_ret
  exact ⟨rfl, HB1.out.trans (HB6.out.mono HB1.out.size)⟩
 obtain rfl : e4 = 0 := Classical.not_not.1 g4
 by_cases g5 : e5 ≠ 0
 ·have k5 : (e5 != 0) = true := bne_iff_ne.2 g5
  go_wp2_with (go_at_call 17; refine (num_calls _ _).mono ?_; rintro e w' ⟨rfl, rfl⟩)
  go_ret
  exact ⟨rfl, HB1.out.trans (HB6.out.mono HB1.out.size)⟩
 obtain rfl : e5 = 0 := Classical.not_not.1 g5
 by_cases g6 : e6 ≠ 0
 ·have k6 : (e6 != 0) = true := bne_iff_ne.2 g6
  go_wp2_with (go_at_call 17; refine (num_calls _ _).mono ?_; rintro e w' ⟨rfl, rfl⟩)
  go_ret
  exact ⟨rfl, HB1.out.trans (HB6.out.mono HB1.out.size)⟩
 obtain rfl : e6 = 0 := Classical.not_not.1 g6
 obtain rfl : B = D := HEQ.out rfl rfl rfl rfl
 obtain ⟨s0, s1, s2, s3, s4, s5, s6, _⟩ := zero_cells HK4
 obtain ⟨t0, t1, t2, t3, t4, t5, t6, _⟩ := zero_cells hK6
 go_wp2_with (go_at_call 17; refine (num_calls _ _).mono ?_; rintro e w' ⟨rfl, rfl⟩)
 refine (sameArray_calls B B _ _ _ HA4b.out HA6.out).mono ?_; rintro e w15 ⟨rfl, hb15⟩
 rw [(Arr.same_eq B B).2 rfl]
 have HB15 := below_then HB6.out hb15
 go_wp2
 go_ret
 exact ⟨rfl, HB1.out.trans (HB15.mono HB1.out.size)⟩
end Go.Proofs.YtobhjlchpnpleaaGreatDoor

/- The law ConcatThree: for every input the call returns true and the input reads as it did; the row and its card (the listed variables as the program's text lays them). Conditions: none. -/
namespace Go.Proofs.YtobhjlchpnpleaaGreatDoor.concatThree
open Go.ChangeShapes Go.WideShapes Go.ChangeAt Go.RowKit
open Go.ChangeMaps (open_string shut_string)
set_option linter.unusedVariables false
set_option linter.unusedSimpArgs false
theorem laidOut : laidOutB Tryz.prog = true := by kernel_rfl
set_option maxRecDepth 100000 in
theorem contract (H : Type) (enc : TypeId × Value → H) (F : Stop.Interp) (W : World) (base : Nat) (args : Array Value) (ds gs : List (DataW H)) (before : List MemPlace)
  (hval0 : ∀ (j : Nat) t v, Tryz.f5.params[j]? = some t → args[j]? = some v → Value.okWide Tryz.prog W .any base t v)
  (hW : DataW.Whole enc Tryz.prog Tryz.f5.params.toList (OpenSpec.ofChange Rows.concatThreeSpec).vars false W args.toList ds gs before)
  (hk : ∀ k, (OpenSpec.ofChange Rows.concatThreeSpec).cond = some k → k H (ds ++ gs) = true)
  (hsz0 : (DataW.weightsEach Tryz.prog (Tryz.f5.params.toList ++ (OpenSpec.ofChange Rows.concatThreeSpec).bare.plain.varTypes Tryz.prog) (ds ++ gs)).all (· ≤ reachBytes) = true)
  (hL : laidMetH Tryz.prog Rows.concatThreeRow.laid W) (hsh : W.ShapedOpen Tryz.prog) :
  Calls Tryz.prog 5 args W fun e W' => ∃ v, e = .returned v ∧ ((OpenSpec.ofChange Rows.concatThreeSpec).at F).post enc Tryz.prog Tryz.f5 false true false false W args v W' := by
 have hv : Vars W := vars_of_laid (show laidMet Tryz.prog laidAll W from hL) hsh
 have hsz : (DataW.weightsEach Tryz.prog (Tryz.f5.params.toList ++ Rows.concatThreeSpec.plain.varTypes Tryz.prog) (ds ++ gs)).all (· ≤ reachBytes) = true := hsz0
 have hval : ∀ (j : Nat) t v, Tryz.f5.params[j]? = some t → args[j]? = some v → Value.okWide Tryz.prog W .any base t v := hval0
 have hW' := hW
 obtain ⟨p, q, hA0, hV, rfl, hfz, hnd⟩ := hW
 have hA : DataW.TrodAll enc Tryz.prog W 0 (fun _ => true) true Tryz.f5.params.toList args.toList ds p := hA0
 rw [Tryz.params5] at hA hval hsz
 obtain ⟨v0, vs0, d0, ds0, p0, q0, hargs, rfl, rfl, h0, r0⟩ := trodAll_cons hA
 obtain ⟨v1, vs1, d1, ds1, p1, q1, rfl, rfl, rfl, h1, r1⟩ := trodAll_cons r0
 obtain ⟨v2, vs2, d2, ds2, p2, q2, rfl, rfl, rfl, h2, r2⟩ := trodAll_cons r1
 obtain ⟨v3, vs3, d3, ds3, p3, q3, rfl, rfl, rfl, h3, r3⟩ := trodAll_cons r2
 obtain ⟨rfl, rfl, rfl⟩ := trodAll_nil r3
 obtain rfl : args = #[v0, v1, v2, v3] := by cases args; simp_all
 obtain ⟨rfl, rfl⟩ := trodVars_none hV
 have k0 := h0
 have lt0 : ∀ x ∈ p0, x.block < W.heap.size := by obtain ⟨m, hm⟩ := k0; exact DataW.trod_lt m _ _ _ hm
 obtain ⟨a0, w0, y0⟩ := open_type_sz (hval 0 24 v0 rfl rfl) h0 (fun n hn => List.all_eq_true.1 hsz n (DataW.weights_mem_each (j := 0) rfl rfl n hn))
 obtain ⟨a1, rfl, rfl, rfl, w1⟩ := open_int Tryz.underlying3 (hval 1 3 v1 rfl rfl) h1
 have k2 := h2
 have lt2 : ∀ x ∈ p2, x.block < W.heap.size := by obtain ⟨m, hm⟩ := k2; exact DataW.trod_lt m _ _ _ hm
 obtain ⟨a2, w2, y2⟩ := open_array_sz (hval 2 27 v2 rfl rfl) h2 (fun n hn => List.all_eq_true.1 hsz n (DataW.weights_mem_each (j := 2) rfl rfl n hn))
 have k3 := h3
 have lt3 : ∀ x ∈ p3, x.block < W.heap.size := by obtain ⟨m, hm⟩ := k3; exact DataW.trod_lt m _ _ _ hm
 obtain ⟨a3, w3, y3⟩ := open_array_sz (hval 3 27 v3 rfl rfl) h3 (fun n hn => List.all_eq_true.1 hsz n (DataW.weights_mem_each (j := 3) rfl rfl n hn))
 clear hA0 hval0 hsz0 hsz
 refine (concatThree_walk v0 a0 a1 v2 a2 v3 a3 W hv w0 y0 w1 w2 y2 w3 y3).mono fun e W' ⟨he, bel⟩ => ?_
 subst he
 exact ⟨_, rfl, _, _, _, [], _, [], hW', trodAll_mk1 (shut_bool Tryz.underlying4 _), (trodAll_cons_mk (Below.trod laidOut (by kernel_rfl) (of_decide_eq_true (by kernel_rfl)) k0 bel lt0) (trodAll_cons_mk (shut_int Tryz.underlying3 w1) (trodAll_cons_mk (Below.trod laidOut (by kernel_rfl) (of_decide_eq_true (by kernel_rfl)) k2 bel lt2) (trodAll_cons_mk (Below.trod laidOut (by kernel_rfl) (of_decide_eq_true (by kernel_rfl)) k3 bel lt3) trodAll_mk0)))), rfl, bel.frame _, fun h => by cases h⟩
theorem reads (os : Os) {H : Type} (enc : TypeId × Value → H) : ∃ places, DataW.whole enc Tryz.prog ((laidWorld os).forCall (fun _ _ => 0) ⟨#[], #[.agg #[.slice none 0 0], .int .i64 0, .agg #[.int .i64 0, .int .i64 0, .int .i64 0, .string ByteArray.empty, .string ByteArray.empty, .string ByteArray.empty, .slice none 0 0], .agg #[.int .i64 0, .int .i64 0, .int .i64 0, .string ByteArray.empty, .string ByteArray.empty, .string ByteArray.empty, .slice none 0 0]], []⟩).memory Tryz.f5.params.toList Rows.concatThreeSpec.vars false #[.agg #[.slice none 0 0], .int .i64 0, .agg #[.int .i64 0, .int .i64 0, .int .i64 0, .string ByteArray.empty, .string ByteArray.empty, .string ByteArray.empty, .slice none 0 0], .agg #[.int .i64 0, .int .i64 0, .int .i64 0, .string ByteArray.empty, .string ByteArray.empty, .string ByteArray.empty, .slice none 0 0]].toList 8 = some ([.agg [.nil], .lit (.int .i64 0), .agg [.lit (.int .i64 0), .lit (.int .i64 0), .lit (.int .i64 0), .lit (.string []), .lit (.string []), .lit (.string []), .nil], .agg [.lit (.int .i64 0), .lit (.int .i64 0), .lit (.int .i64 0), .lit (.string []), .lit (.string []), .lit (.string []), .nil]], [], places) :=
 ⟨[], by kernel_rfl⟩
set_option maxRecDepth 100000 in
theorem lifted (os : Os) (started : os.Started) (H : Type) (enc : TypeId × Value → H) (F : Stop.Interp) :
  ReturnsInHanded {} Tryz.checked os 5 .any ((OpenSpec.ofChange Rows.concatThreeSpec).preRow enc Tryz.prog Tryz.f5 Rows.concatThreeRow.domain false Rows.concatThreeRow.laid) (((OpenSpec.ofChange Rows.concatThreeSpec).at F).post enc Tryz.prog Tryz.f5 false true false false) := by
 obtain ⟨places, hx⟩ := reads os enc
 refine returnsInHanded_of_row (C := Tryz.checked) (s := OpenSpec.ofChange Rows.concatThreeSpec) Tryz.own_ started (by kernel_rfl) Tryz.func5
  (witness_row_atRef (enc := enc) (C := Tryz.checked) false (laidWorld os) #[.agg #[.slice none 0 0], .int .i64 0, .agg #[.int .i64 0, .int .i64 0, .int .i64 0, .string ByteArray.empty, .string ByteArray.empty, .string ByteArray.empty, .slice none 0 0], .agg #[.int .i64 0, .int .i64 0, .int .i64 0, .string ByteArray.empty, .string ByteArray.empty, .string ByteArray.empty, .slice none 0 0]] rfl (by kernel_rfl) (by kernel_rfl) (by kernel_rfl)
   (OpenSpec.preRow_of_cond 8 hx (by kernel_rfl) (fun k hk => by cases hk) (by kernel_rfl) (laid_met os _))) ?_
 intro W base args ds gs before hval hW _ hk hsz hL hsh _
 exact contract H enc F W base args ds gs before hval hW hk hsz hL hsh
theorem said : Rows.ConcatThreeSaid :=
 OpenClaim.holds_of_cond 5 Tryz.f5 rfl rfl rfl rfl rfl rfl rfl ⟨rfl, rfl, rfl, rfl, rfl⟩ rfl rfl rfl rfl rfl (by kernel_rfl) Tryz.func5 (by kernel_rfl)
  (of_decide_eq_true (by kernel_rfl)) (by unfold Func.isWrapper; first | (rw [if_pos (by decide +kernel)]; kernel_rfl) | (rw [if_neg (by decide +kernel)]; exact ⟨rfl, rfl⟩))
  (fun os started H enc _ F => by rw [OpenClaim.pre_eq_preRow]; exact lifted os started H enc F)
theorem plain (f : FuncId) (fn : Func) (hf : Tryz.pinned.checked.prog.funcNamed "quiver/quiverlaw12.ConcatThree" = some f) (hfn : Tryz.pinned.checked.prog.funcs[f]? = some fn) :
  true = Tryz.pinned.checked.prog.looks [] ∧ ∀ (j : Nat) t, fn.params[j]? = some t → Tryz.pinned.checked.prog.wantsStandIn t = false := by
 obtain rfl : f = 5 := Option.some.inj ((show Tryz.prog.funcNamed "quiver/quiverlaw12.ConcatThree" = some 5 by kernel_rfl).symm.trans hf) |>.symm
 obtain rfl : fn = Tryz.f5 := (Option.some.inj (Tryz.func5.symm.trans hfn)).symm
 refine ⟨by kernel_rfl, fun j t ht => ?_⟩
 rw [Tryz.params5] at ht
 have hm : t = 3 ∨ t = 24 ∨ t = 27 := by have h := Array.mem_of_getElem? ht; simp at h; (repeat' (rcases h with h | h)); all_goals simp
 rcases hm with rfl | rfl | rfl
 ·exact (show Tryz.prog.wantsStandIn 3 = false by kernel_rfl)
 ·exact (show Tryz.prog.wantsStandIn 24 = false by kernel_rfl)
 ·exact (show Tryz.prog.wantsStandIn 27 = false by kernel_rfl)
theorem card : Rows.ConcatThreeCardSaid :=
 Claim7.holds_tied_plain_at .later [] _ _ _ _ said (fun _ h => by cases h) (by kernel_rfl) (fun _ h => by cases h) concatThree_row_tie rfl ⟨rfl, rfl⟩ (by kernel_rfl) rfl plain (by kernel_rfl)
#print axioms card
end Go.Proofs.YtobhjlchpnpleaaGreatDoor.concatThree
namespace Go.Proofs.YtobhjlchpnpleaaGreatDoor
/-- The law's statement. -/
theorem concatThree_holds : Rows.ConcatThreeCardSaid := concatThree.card
end Go.Proofs.YtobhjlchpnpleaaGreatDoor
