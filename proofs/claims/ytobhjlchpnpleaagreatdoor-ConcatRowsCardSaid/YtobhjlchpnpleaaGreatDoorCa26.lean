/- Several texts in one: RefBldI, RefBldC, RefBldD, BackR. -/
import Derived.Test.YtobhjlchpnpleaaGreatDoorCa22
import Derived.Test.YtobhjlchpnpleaaGreatDoorCa23
import Derived.Test.YtobhjlchpnpleaaGreatDoorCa2
import Derived.Test.YtobhjlchpnpleaaGreatDoorCa7
/- The reference's build of whole numbers, walked. -/
namespace Go.Proofs.YtobhjlchpnpleaaGreatDoor
open Go.RowKit
set_option linter.unusedVariables false
set_option linter.unusedSimpArgs false

set_option maxRecDepth 100000 in
set_option maxHeartbeats 3200000 in
theorem refBuild_int (ns : List Tp.Nd) (i : Nat) (vs : List Vp.Txt) (v vv : Value) (W : World) (ht : TextsAt W v vs) (hnd : NodesAt W vv ns) (hm : Tp.may ns = true) (hi : i < ns.length) (hl : vs.length ≤ 64) (hf : ∀ x ∈ vs, Vp.Fit ns i x) (hk : Tp.kindOf ns i = 0) :
  Calls Tryz.prog 44 #[typeV vv, .int .i64 (i : Int), v] W (RefBuildQ ns i vs W) := by
 have hbi : ¬ ((64 : Int) < (vs.length : Int)) := by omega
 have hdec : decide ((64 : Int) < (vs.length : Int)) = false := decide_eq_false hbi
 have HBE := Lib.hid (Vp.build_eq ns hm i hi vs)
 rw [if_neg (show ¬ 64 < vs.length by omega), if_pos hk] at HBE
 have HF := Lib.hid hf
 have hks : Tp.kids ns (i : Int) = [] := List.eq_nil_of_length_eq_zero (Vp.leaf_kids hm hi (by omega))
 have HKC := Lib.hid (fun w (h : NodesAt w vv ns) => refKids_calls vv ns (i : Int) w h ((Vp.node_of ns i).2 ⟨hm, hi⟩))
 rw [hks] at HKC
 have hb1 : Below W.heap.size W ((W.alloc (.cells #[vv] 24)).alloc (.cells (arrC 0 0 0 [] [] [] (.slice none 0 0)) 27)) := below_alloc (below_alloc (Below.refl _ _) _) _
 have HV := Lib.hid (refValid_calls v vs _ (ht.below hb1) (by omega))
 have HND := Lib.hid hnd
 have HK := Lib.hid hk
 obtain ⟨bk, o, nc, rfl, hc1, hc2, hbk, g0, _⟩ := nodes_open hnd hi
 rw [hk] at g0
 obtain ⟨a, c, rfl, hc, hmx, h3⟩ := ht
 unfold maxLen at hc2 hmx
 have hii : (i : Int) < (ns.length : Int) := by omega
 replace h3 := Lib.hid h3
 clear hnd hks hf hk
 have hmk := make_rows0
 go_enter Tryz.func44, Tryz.ntmps44
 go_wp2_with (fail)
 refine HV.out.mono ?_
 rintro e w1 ⟨rfl, hb2⟩
 have S0 := Lib.hid (RSt.begin (vs.length : Int) (Vp.valid vs) hb2)
 have c4 := cell_of_one S0.out.box
 clear hb2 hb1
 go_wp2_with (fail)
 refine (HKC.out _ (HND.out.below S0.out.bel)).mono ?_
 rintro e w2 ⟨rk, rfl, hko, hb3⟩
 have S2 := Lib.hid (S0.out.below hb3)
 obtain ⟨ka, kc, rfl⟩ := own_slice hko
 clear hko hb3 c4
 go_wp2
 have S3 := Lib.hid (S2.out.below (below_alloc (Below.refl _ _) (.cells #[] 39)))
 go_loopw [13] (fun ix wr => ∃ q : Nat, q ≤ vs.length ∧ ix = .int .i64 (q : Int) ∧ RSt W wr w1.heap.size (.slice (some ⟨bk, o, none⟩) ns.length nc) vs.length (Vp.valid vs) [] (Vp.ints (Vp.pts [[48]] (vs.take q))) (.slice none 0 0)) (fun ix _ => vs.length - (intOf ix).toNat)
 case atStart => exact ⟨0, Nat.zero_le _, rfl, S3.out⟩
 case round =>
  obtain ⟨q, hq, rfl, hS⟩ := hrel
  have S := Lib.hid hS
  clear hS
  by_cases hlt : q < vs.length
  ·obtain ⟨bt, ot, rfl, hbt, hcell⟩ := h3.out (by intro e; rw [e] at hlt; exact Nat.not_lt_zero _ hlt)
   have c0 := (S.out.bel.cell (p := ⟨bt, ot + q, none⟩) hbt).trans (hcell q _ (List.getElem?_eq_getElem hlt))
   have hqi : (q : Int) < (vs.length : Int) := by omega
   have hfx := HF.out _ (List.getElem_mem hlt)
   have HT := Lib.hid (Vp.ints_take vs q hlt)
   have hp := Vp.fit_parts hfx
   have hri := Vp.row_int HK.out hfx
   have hlen := Vp.fit_len hfx
   clear hcell
   generalize vs[q] = x at c0 HT hp hri hlen
   clear hfx
   have HP := Lib.hid (fun W' => refParts_calls x W' (by omega))
   rw [HK.out] at hp
   obtain ⟨y, y0, y1, hy, hyc⟩ := hri
   have HW := Lib.hid (show Vp.intOfRow (Vp.partOr [[48]] x) = y by rw [hy]; unfold Vp.intOfRow; simp [Vp.atoi_itoa y y0 y1])
   rw [HW.out] at HT
   have hil := ints_length (Vp.pts [[48]] (vs.take q))
   have hql : (Vp.pts [[48]] (vs.take q)).length ≤ 64 := by unfold Vp.pts; rw [List.length_map, List.length_take]; omega
   generalize Vp.ints (Vp.pts [[48]] (vs.take q)) = D at S HT hil
   have hz := mk_size D
   have c4 := cell_of_one S.out.box
   have hg0 := (S.out.bel.cell (p := ⟨bk, o + i * 3, none⟩) hbk).trans g0
   rcases hp.2 with ⟨hx, hpp⟩ | ⟨hx, hpk, _, _⟩
   ·have hy0 : y = 0 := by
     rcases hyc with ⟨_, h⟩ | h
     ·exact h
     ·rw [hx] at h; exact absurd h.symm (Vp.ne_nul_int y)
    subst hy0
    rw [hpp] at HP
    clear hp hy hyc hx hpp
    have HLO := Lib.hid (fun w => low_str 0 8 w (by decide) (by decide) (by decide) (by decide))
    go_wp2_with (fail)
    refine (HP.out _).mono ?_; rintro e' w5 ⟨r5, rfl, hpo, hb5⟩
    have S5 := Lib.hid (S.out.below hb5)
    have c4' := cell_of_one S5.out.box
    have hg0' := (S5.out.bel.cell (p := ⟨bk, o + i * 3, none⟩) hbk).trans g0
    obtain ⟨o0, o1, o2, o3, o4, o5, o6, p0, p1, p2, p3, p4, p5, p6⟩ := zero_cells S5.out.out
    clear c4 hg0 c0 hpo hb5
    simp only [tv] at o5
    go_wp2
    go_region_with (go_at_call 74; refine (HLO.out _).mono ?_; rintro e6 w6 ⟨t, htl, htz, htw, rfl, hb6⟩; have S6 := Lib.hid (S5.out.below (by first | exact hb6 | exact below_drew_then hb6)); obtain ⟨z0, z1, z2, z3, z4, z5, z6, y0, y1, y2, y3, y4, y5, y6⟩ := zero_cells S6.out.out; simp only [tv] at z5)
    all_goals
     go_wp2
     refine ⟨⟨q + 1, by omega, by go_num, ?_⟩, by simp [intOf]; omega⟩
     have h := S6.out.set 5 (tv (D ++ t)) [] (D ++ t) (.slice none 0 0) rfl
     rw [HT.out, htw]
     rw [mk_append]
     exact h
   ·have hxe : x = Vp.int y := by
     rcases hyc with ⟨h, _⟩ | h
     ·exact absurd h hx
     ·exact h
    have hpp : Vp.parts x = (0, [Lib.itoa y], 0) := by rw [hxe, Vp.parts_int y y0 y1]
    rw [hpp] at HP
    have hdl := Vp.digitsLen y y0 y1
    have HIJ := Lib.hid (fun X h0 h1 => Vp.itoa_inj y X y0 y1 h0 h1)
    have HLO := Lib.hid (fun w => low_str y 8 w (by decide) (by decide) y0 y1)
    have HNO := Lib.hid (fun (h : ∀ z, -9223372036854775808 ≤ z → z ≤ 9223372036854775807 → Lib.itoa y ≠ Lib.itoa z) => h y y0 y1 rfl)
    clear hp hy hyc hx hpp hxe hpk
    generalize Lib.itoa y = dg at HP hdl HIJ HNO
    go_wp2_with (fail)
    refine (HP.out _).mono ?_; rintro e' w5 ⟨r5, rfl, hpo, hb5⟩
    have S5 := Lib.hid (S.out.below hb5)
    have c4' := cell_of_one S5.out.box
    have hg0' := (S5.out.bel.cell (p := ⟨bk, o + i * 3, none⟩) hbk).trans g0
    obtain ⟨g5, cap5, hr5, _, _, _, hrow⟩ := own_row (n := 1) hpo (by decide)
    have hr5' : r5 = .slice (some ⟨g5, 0, none⟩) 1 cap5 := hr5
    subst hr5'
    have d0 := hrow.cell (i := 0) (v := tv dg) rfl
    clear c4 hg0 c0 hpo hb5 hr5 hrow
    go_wp2_with (fail)
    refine (whole_calls dg _ (by omega)).mono ?_; rintro e6 w6 ⟨X, bb, rfl, hbt1, hbt2, hb6⟩
    have hX : X = y := by
     cases bb with
     | false => exact absurd (hbt2 rfl) HNO.out
     | true =>
      obtain ⟨h1, h2, h3⟩ := hbt1 rfl
      exact (HIJ.out X h2 h3 h1).symm
    subst hX
    have S6 := Lib.hid (S5.out.below hb6)
    obtain ⟨o0, o1, o2, o3, o4, o5, o6, p0, p1, p2, p3, p4, p5, p6⟩ := zero_cells S6.out.out
    clear d0 c4' hg0' hbt1 hbt2 HNO HIJ hb6
    simp only [tv] at o5
    go_wp2
    go_region_with (go_at_call 74; refine (HLO.out _).mono ?_; rintro e7 w7 ⟨t, htl, htz, htw, rfl, hb7⟩; have S7 := Lib.hid (S6.out.below (by first | exact hb7 | exact below_drew_then hb7)); obtain ⟨z0, z1, z2, z3, z4, z5, z6, y0, y1, y2, y3, y4, y5, y6⟩ := zero_cells S7.out.out; simp only [tv] at z5)
    all_goals
     go_wp2
     refine ⟨⟨q + 1, by omega, by go_num, ?_⟩, by simp [intOf]; omega⟩
     have h := S7.out.set 5 (tv (D ++ t)) [] (D ++ t) (.slice none 0 0) rfl
     rw [HT.out, htw]
     rw [mk_append]
     exact h
  ·obtain rfl : q = vs.length := by omega
   rw [List.take_length] at S
   have hil := ints_length (Vp.pts [[48]] vs)
   have hql : (Vp.pts [[48]] vs).length = vs.length := by unfold Vp.pts; rw [List.length_map]
   generalize Vp.ints (Vp.pts [[48]] vs) = D at S HBE hil
   replace hil : D.length ≤ 512 := by omega
   have hz := mk_size D
   have c4 := cell_of_one S.out.box
   have hg0 := (S.out.bel.cell (p := ⟨bk, o + i * 3, none⟩) hbk).trans g0
   obtain ⟨r0, r1, r2, r3, r4, r5, r6, q0, q1, q2, q3, q4, q5, q6⟩ := zero_cells S.out.res
   obtain ⟨o0, o1, o2, o3, o4, o5, o6, p0, p1, p2, p3, p4, p5, p6⟩ := zero_cells S.out.out
   simp only [tv] at o4 o5
   go_wp2
   go_loopw [20] (fun ix w' => ix = .int .i64 0 ∧ wr = w') (fun _ _ => 0)
   case atStart => exact ⟨rfl, rfl⟩
   case round =>
    obtain ⟨rfl, rfl⟩ := hrel
    have hd4 : decide ((D.length : Int) ≤ 4096) = true := decide_eq_true (by omega)
    have hd5 : (D.length : Int) ≤ 4096 := by omega
    go_wp2
    have hOR : ¬ w1.heap.size = W.heap.size + 1 := by have := S.out.olt; omega
    have hRO : ¬ W.heap.size + 1 = w1.heap.size := by have := S.out.olt; omega
    go_region
    all_goals
     go_wp2
     (try simp only [Exit.inBlock, Exit.then])
     have hD := S.out.resAtD
     simp only [tv] at hD
     refine bodyPost_ret (results_cell2_row rfl _ _ (W.heap.size + 1) 27 _ (0, 0) _ rfl hD Tryz.underlying27 rfl info_array_size) rfl ?_
     exact S.out.fin (KidsOwn.nil _ _) (b := true) (by rw [HBE.out]; exact ⟨rfl, rfl⟩) rfl rfl
end Go.Proofs.YtobhjlchpnpleaaGreatDoor

/- The reference's build of truths, walked. -/
namespace Go.Proofs.YtobhjlchpnpleaaGreatDoor
open Go.RowKit
set_option linter.unusedVariables false
set_option linter.unusedSimpArgs false

def isT (x : Vp.Txt) : Bool := decide (x = [116])
set_option maxRecDepth 100000 in
set_option maxHeartbeats 3200000 in
theorem refBuild_bool (ns : List Tp.Nd) (i : Nat) (vs : List Vp.Txt) (v vv : Value) (W : World) (ht : TextsAt W v vs) (hnd : NodesAt W vv ns) (hm : Tp.may ns = true) (hi : i < ns.length) (hl : vs.length ≤ 64) (hf : ∀ x ∈ vs, Vp.Fit ns i x) (hk : Tp.kindOf ns i = 1) :
  Calls Tryz.prog 44 #[typeV vv, .int .i64 (i : Int), v] W (RefBuildQ ns i vs W) := by
 have hbi : ¬ ((64 : Int) < (vs.length : Int)) := by omega
 have hdec : decide ((64 : Int) < (vs.length : Int)) = false := decide_eq_false hbi
 have HBE := Lib.hid (Vp.build_eq ns hm i hi vs)
 rw [if_neg (show ¬ 64 < vs.length by omega), if_neg (show ¬ Tp.kindOf ns i = 0 by omega), if_pos hk] at HBE
 have HTR := Lib.hid (Vp.truths_eq ns i hk vs hf)
 have HF := Lib.hid hf
 have hks : Tp.kids ns (i : Int) = [] := List.eq_nil_of_length_eq_zero (Vp.leaf_kids hm hi (by omega))
 have HKC := Lib.hid (fun w (h : NodesAt w vv ns) => refKids_calls vv ns (i : Int) w h ((Vp.node_of ns i).2 ⟨hm, hi⟩))
 rw [hks] at HKC
 have hb1 : Below W.heap.size W ((W.alloc (.cells #[vv] 24)).alloc (.cells (arrC 0 0 0 [] [] [] (.slice none 0 0)) 27)) := below_alloc (below_alloc (Below.refl _ _) _) _
 have HV := Lib.hid (refValid_calls v vs _ (ht.below hb1) (by omega))
 have HND := Lib.hid hnd
 have HK := Lib.hid hk
 obtain ⟨bk, o, nc, rfl, hc1, hc2, hbk, g0, _⟩ := nodes_open hnd hi
 rw [hk] at g0
 obtain ⟨a, c, rfl, hc, hmx, h3⟩ := ht
 unfold maxLen at hc2 hmx
 have hii : (i : Int) < (ns.length : Int) := by omega
 replace h3 := Lib.hid h3
 clear hnd hks hf hk
 have hmk := make_rows0
 go_enter Tryz.func44, Tryz.ntmps44
 go_wp2_with (fail)
 refine HV.out.mono ?_
 rintro e w1 ⟨rfl, hb2⟩
 have S0 := Lib.hid (RSt.begin (vs.length : Int) (Vp.valid vs) hb2)
 have c4 := cell_of_one S0.out.box
 clear hb2 hb1
 go_wp2_with (fail)
 refine (HKC.out _ (HND.out.below S0.out.bel)).mono ?_
 rintro e w2 ⟨rk, rfl, hko, hb3⟩
 have S2 := Lib.hid (S0.out.below hb3)
 obtain ⟨ka, kc, rfl⟩ := own_slice hko
 clear hko hb3 c4
 go_wp2
 have S3 := Lib.hid (S2.out.below (below_alloc (Below.refl _ _) (.cells #[] 39)))
 have hw12 : w1.heap.size < w2.heap.size := S2.out.lt
 go_loopw [12, 13] (fun on ix wr => ∃ q : Nat, q ≤ vs.length ∧ ix = .int .i64 (q : Int) ∧ wr.ownsRow w2.heap.size 4 1 on q (bools ((vs.take q).map isT)) ∧ w2.heap.size ≤ wr.heap.size ∧ RSt W wr w1.heap.size (.slice (some ⟨bk, o, none⟩) ns.length nc) vs.length (Vp.valid vs) [] [] (.slice none 0 0)) (fun _ ix _ => vs.length - (intOf ix).toNat)
 case atStart => exact ⟨0, Nat.zero_le _, rfl, own_nil, by simp, S3.out⟩
 case round =>
  obtain ⟨q, hq, rfl, hu, hsz, hS⟩ := hrel
  have S := Lib.hid hS
  have HO := Lib.hid hu
  clear hS hu
  have c4 := cell_of_one S.out.box
  have hg0 := (S.out.bel.cell (p := ⟨bk, o + i * 3, none⟩) hbk).trans g0
  by_cases hlt : q < vs.length
  ·obtain ⟨bt, ot, rfl, hbt, hcell⟩ := h3.out (by intro e; rw [e] at hlt; exact Nat.not_lt_zero _ hlt)
   have c0 := (S.out.bel.cell (p := ⟨bt, ot + q, none⟩) hbt).trans (hcell q _ (List.getElem?_eq_getElem hlt))
   have hqi : (q : Int) < (vs.length : Int) := by omega
   have hlen := Vp.fit_len (HF.out _ (List.getElem_mem hlt))
   have HT := Lib.hid (show bools ((vs.take (q + 1)).map isT) = bools ((vs.take q).map isT) ++ [.bool (isT vs[q])] by
    unfold bools
    rw [List.take_succ_eq_append_getElem hlt, List.map_append, List.map_append]; rfl)
   clear hcell
   generalize vs[q] = x at c0 HT hlen
   have hx : (x == [116]) = isT x := by
    unfold isT
    rw [Bool.eq_iff_iff, beq_iff_eq, decide_eq_true_eq]
   have HP := Lib.hid (fun W' => refParts_calls x W' (by omega))
   generalize isT x = d at hx HT
   generalize (Vp.parts x).1 = kx at HP
   generalize (Vp.parts x).2.1 = ps at HP
   generalize (Vp.parts x).2.2 = er at HP
   go_wp2_with (fail)
   refine (HP.out _).mono ?_; rintro e' w5 ⟨r5, rfl, hpo, hb5⟩
   have S5 := Lib.hid (S.out.below hb5)
   have c4' := cell_of_one S5.out.box
   have hg0' := (S5.out.bel.cell (p := ⟨bk, o + i * 3, none⟩) hbk).trans g0
   have c0' := (hb5.cell (p := ⟨bt, ot + q, none⟩) (cell_lt c0)).trans c0
   clear c4 hg0 c0 hpo
   go_wp2_with (at_builtin; refine wp_app1 rfl _ _ 102 4 rfl w2.heap.size 1 (.bool false) Tryz.underlying102 info_boolc rfl _ _ _ rfl rfl rfl (own_below HO.out hb5) (by omega) (by omega) (Nat.le_trans hsz hb5.size) ?_; intro v6 w6 ho6 hb6 hg6)
   exact ⟨⟨q + 1, by omega, by go_num, by rw [HT.out]; exact ho6, Nat.le_trans hsz (Nat.le_trans hb5.size hb6.size), S5.out.own hb6 hw12⟩, by simp [intOf]; omega⟩
  ·obtain rfl : q = vs.length := by omega
   have hu2 := HO.out
   rw [List.take_length] at hu2
   have hml : (vs.map isT).length = vs.length := List.length_map ..
   have hu3 : wr.ownsRow w2.heap.size 4 1 u12 (vs.map isT).length (bools (vs.map isT)) := by rw [hml]; exact hu2
   have HBO := Lib.hid (refBitsOf_calls _ _ (vs.map isT) _ hu3 (by omega))
   have hpl : (Bt.packed (vs.map isT)).length ≤ 8 := by simp [Bt.packed, Bt.bytesOf]; omega
   have HD := Lib.hid (show Bt.packed (vs.map isT) = Vp.bools (Vp.pts [[102]] vs) by unfold Vp.bools; rw [HTR.out]; rfl)
   obtain ⟨ua, uc, hua⟩ := own_slice hu3
   rw [hml] at hua
   subst hua
   clear hu2 hu3 hml HO
   obtain ⟨D, hD⟩ : ∃ D, Bt.packed (vs.map isT) = D := ⟨_, rfl⟩
   rw [hD] at HBO hpl HD
   rw [← HD.out] at HBE
   clear hD
   obtain ⟨o0, o1, o2, o3, o4, o5, o6, p0, p1, p2, p3, p4, p5, p6⟩ := zero_cells S.out.out
   go_wp2_with (fail)
   refine HBO.out.mono ?_; rintro e5 w5 ⟨rfl, hb5⟩
   have S5 := Lib.hid (S.out.below hb5)
   obtain ⟨y0, y1, y2, y3, y4, y5, y6, z0, z1, z2, z3, z4, z5, z6⟩ := zero_cells S5.out.out
   have S6 := Lib.hid (S5.out.set 5 (tv D) [] D (.slice none 0 0) rfl)
   obtain ⟨wr6, hwr6⟩ : ∃ w, w5.setCell ⟨w1.heap.size, 5, none⟩ (tv D) = w := ⟨_, rfl⟩
   rw [hwr6] at S6
   unfold tv at hwr6
   have hz := mk_size D
   clear o0 o1 o2 o3 o4 o5 o6 p0 p1 p2 p3 p4 p5 p6 hb5
   go_wp2
   (try rw [hwr6])
   clear y0 y1 y2 y3 y4 y5 y6 z0 z1 z2 z3 z4 z5 z6 hwr6
   obtain ⟨r0, r1, r2, r3, r4, r5, r6, q0, q1, q2, q3, q4, q5, q6⟩ := zero_cells S6.out.res
   obtain ⟨o0, o1, o2, o3, o4, o5, o6, p0, p1, p2, p3, p4, p5, p6⟩ := zero_cells S6.out.out
   simp only [tv] at o4 o5
   go_loopw [20] (fun ix w' => ix = .int .i64 0 ∧ wr6 = w') (fun _ _ => 0)
   case atStart => exact ⟨rfl, rfl⟩
   case round =>
    obtain ⟨rfl, rfl⟩ := hrel
    have hd4 : decide ((D.length : Int) ≤ 4096) = true := decide_eq_true (by omega)
    have hd5 : (D.length : Int) ≤ 4096 := by omega
    go_wp2
    have hOR : ¬ w1.heap.size = W.heap.size + 1 := by have := S6.out.olt; omega
    have hRO : ¬ W.heap.size + 1 = w1.heap.size := by have := S6.out.olt; omega
    go_region
    all_goals
     go_wp2
     (try simp only [Exit.inBlock, Exit.then])
     have hD := S6.out.resAtD
     simp only [tv] at hD
     refine bodyPost_ret (results_cell2_row rfl _ _ (W.heap.size + 1) 27 _ (0, 0) _ rfl hD Tryz.underlying27 rfl info_array_size) rfl ?_
     exact S6.out.fin (KidsOwn.nil _ _) (b := true) (by rw [HBE.out]; exact ⟨rfl, rfl⟩) rfl rfl
end Go.Proofs.YtobhjlchpnpleaaGreatDoor

/- The reference's build of texts, walked. -/
namespace Go.Proofs.YtobhjlchpnpleaaGreatDoor
open Go.RowKit
set_option linter.unusedVariables false
set_option linter.unusedSimpArgs false

theorem all_str (v : Value) (ps : List Vp.Txt) (J : Vp.Txt) (W : World) (ht : TextsAt W v ps) (hj : Vp.join ps = J) (hl : J.length ≤ 140737488351232) :
  Calls Tryz.prog 46 #[v] W fun e w' => e = .returned (.string ⟨J.toArray⟩) ∧ Below W.heap.size W w' := by
 subst hj
 exact all_text_calls v ps W ht hl
theorem str_row {ns : List Tp.Nd} {i : Nat} {x : Vp.Txt} (hk : Tp.kindOf ns i = 2) (h : Vp.Fit ns i x) : Vp.join (Vp.parts x).2.1 = Vp.join (Vp.partOr [[]] x) ∧ (Vp.join (Vp.parts x).2.1).length ≤ 16 := by
 obtain ⟨s, hs, h1, h2⟩ := Vp.row_str hk h
 rcases h2 with ⟨rfl, rfl⟩ | rfl
 ·rw [Vp.parts_nul, h1]; exact ⟨rfl, by simp [Vp.join]⟩
 ·rw [h1, Vp.parts_str s hs]; exact ⟨rfl, by simpa [Vp.join] using hs⟩
set_option maxRecDepth 100000 in
set_option maxHeartbeats 3200000 in
theorem refBuild_str (ns : List Tp.Nd) (i : Nat) (vs : List Vp.Txt) (v vv : Value) (W : World) (ht : TextsAt W v vs) (hnd : NodesAt W vv ns) (hm : Tp.may ns = true) (hi : i < ns.length) (hl : vs.length ≤ 64) (hf : ∀ x ∈ vs, Vp.Fit ns i x) (hk : Tp.kindOf ns i = 2) :
  Calls Tryz.prog 44 #[typeV vv, .int .i64 (i : Int), v] W (RefBuildQ ns i vs W) := by
 have hbi : ¬ ((64 : Int) < (vs.length : Int)) := by omega
 have hdec : decide ((64 : Int) < (vs.length : Int)) = false := decide_eq_false hbi
 have HBE := Lib.hid (Vp.build_eq ns hm i hi vs)
 rw [if_neg (show ¬ 64 < vs.length by omega), if_neg (show ¬ Tp.kindOf ns i = 0 by omega), if_neg (show ¬ Tp.kindOf ns i = 1 by omega), if_pos hk] at HBE
 have HSB := Lib.hid (Vp.strs_bound ns i hk vs hf)
 have HSM := Lib.hid (Vp.strs_take ns i hk vs hf)
 have HF := Lib.hid hf
 have hks : Tp.kids ns (i : Int) = [] := List.eq_nil_of_length_eq_zero (Vp.leaf_kids hm hi (by omega))
 have HKC := Lib.hid (fun w (h : NodesAt w vv ns) => refKids_calls vv ns (i : Int) w h ((Vp.node_of ns i).2 ⟨hm, hi⟩))
 rw [hks] at HKC
 have hb1 : Below W.heap.size W ((W.alloc (.cells #[vv] 24)).alloc (.cells (arrC 0 0 0 [] [] [] (.slice none 0 0)) 27)) := below_alloc (below_alloc (Below.refl _ _) _) _
 have HV := Lib.hid (refValid_calls v vs _ (ht.below hb1) (by omega))
 have HND := Lib.hid hnd
 have HK := Lib.hid hk
 obtain ⟨bk, o, nc, rfl, hc1, hc2, hbk, g0, _⟩ := nodes_open hnd hi
 rw [hk] at g0
 obtain ⟨a, c, rfl, hc, hmx, h3⟩ := ht
 unfold maxLen at hc2 hmx
 have hii : (i : Int) < (ns.length : Int) := by omega
 replace h3 := Lib.hid h3
 clear hnd hks hf hk
 have hmk := make_rows0
 go_enter Tryz.func44, Tryz.ntmps44
 go_wp2_with (fail)
 refine HV.out.mono ?_
 rintro e w1 ⟨rfl, hb2⟩
 have S0 := Lib.hid (RSt.begin (vs.length : Int) (Vp.valid vs) hb2)
 have c4 := cell_of_one S0.out.box
 clear hb2 hb1
 go_wp2_with (fail)
 refine (HKC.out _ (HND.out.below S0.out.bel)).mono ?_
 rintro e w2 ⟨rk, rfl, hko, hb3⟩
 have S2 := Lib.hid (S0.out.below hb3)
 obtain ⟨ka, kc, rfl⟩ := own_slice hko
 clear hko hb3 c4
 go_wp2
 have S3 := Lib.hid (S2.out.below (below_alloc (Below.refl _ _) (.cells #[] 39)))
 have hw12 : w1.heap.size < w2.heap.size := S2.out.lt
 obtain ⟨ms, hms⟩ : ∃ ms, (Vp.pts [[]] vs).map Vp.size0 = ms := ⟨_, rfl⟩
 have hml : ms.length = vs.length := by rw [← hms]; simp [Vp.pts]
 rw [hms] at HSM HBE
 have HEN := Lib.hid (show Vp.starts ms (vs.length + 1) = Vp.ends ms by rw [← hml]; exact Vp.starts_ends ms)
 have HST := Lib.hid (Vp.starts_succ ms)
 have HSL := Lib.hid (Vp.starts_length ms)
 clear hms hml
 go_loopw [13] (fun ix wr => ∃ q : Nat, q ≤ vs.length ∧ ix = .int .i64 (q : Int) ∧ RSt W wr w1.heap.size (.slice (some ⟨bk, o, none⟩) ns.length nc) vs.length (Vp.valid vs) (Vp.starts ms q) (Vp.join (Vp.pts [[]] (vs.take q)).flatten) (.slice none 0 0)) (fun ix _ => vs.length - (intOf ix).toNat)
 case atStart => exact ⟨0, Nat.zero_le _, rfl, S3.out⟩
 case round =>
  obtain ⟨q, hq, rfl, hS⟩ := hrel
  have S := Lib.hid hS
  clear hS
  have c4 := cell_of_one S.out.box
  have hg0 := (S.out.bel.cell (p := ⟨bk, o + i * 3, none⟩) hbk).trans g0
  have hdl := HSB.out q
  have hsm := HSM.out q
  have hel := HSL.out q
  have HE := Lib.hid (HST.out q)
  by_cases hlt : q < vs.length
  ·obtain ⟨bt, ot, rfl, hbt, hcell⟩ := h3.out (by intro e; rw [e] at hlt; exact Nat.not_lt_zero _ hlt)
   have c0 := (S.out.bel.cell (p := ⟨bt, ot + q, none⟩) hbt).trans (hcell q _ (List.getElem?_eq_getElem hlt))
   have hqi : (q : Int) < (vs.length : Int) := by omega
   have hlen := Vp.fit_len (HF.out _ (List.getElem_mem hlt))
   have hrow := str_row HK.out (HF.out _ (List.getElem_mem hlt))
   have HT := Lib.hid (show Vp.join (Vp.pts [[]] (vs.take (q + 1))).flatten = Vp.join (Vp.pts [[]] (vs.take q)).flatten ++ Vp.join (Vp.partOr [[]] vs[q]) by rw [Vp.flat_take vs q hlt, Vp.join_append])
   clear hcell
   generalize vs[q] = x at c0 HT hlen hrow
   have HP := Lib.hid (fun W' => refParts_calls x W' (by omega))
   generalize (Vp.parts x).1 = kx at HP
   generalize (Vp.parts x).2.1 = ps at HP hrow
   generalize (Vp.parts x).2.2 = er at HP
   obtain ⟨hr1, hr2⟩ := hrow
   rw [← hr1] at HT
   clear hr1
   obtain ⟨J, hJ⟩ : ∃ J, Vp.join ps = J := ⟨_, rfl⟩
   rw [hJ] at HT hr2
   have HJ := Lib.hid hJ
   have hJz := mk_size J
   clear hJ
   generalize Vp.join (Vp.pts [[]] (vs.take q)).flatten = D at S HT hdl hsm
   rw [hsm] at HE
   generalize Vp.starts ms q = E at S HE hel
   replace hel : E.length ≤ 256 := by omega
   replace hdl : D.length ≤ 1024 := by omega
   have hDz := mk_size D
   have hEz := mk_size E
   have HLO := Lib.hid (fun w => low_str (D.length : Int) 4 w (by decide) (by decide) (by omega) (by omega))
   clear hsm
   go_wp2_with (fail)
   refine (HP.out _).mono ?_; rintro e' w5 ⟨r5, rfl, hpo, hb5⟩
   have S5 := Lib.hid (S.out.below hb5)
   have HPO := Lib.hid hpo
   have c4' := cell_of_one S5.out.box
   have hg0' := (S5.out.bel.cell (p := ⟨bk, o + i * 3, none⟩) hbk).trans g0
   obtain ⟨o0, o1, o2, o3, o4, o5, o6, p0, p1, p2, p3, p4, p5, p6⟩ := zero_cells S5.out.out
   obtain ⟨ra, rc, rfl⟩ := own_slice hpo
   clear c4 hg0 c0 hpo hb5
   simp only [tv] at o4 o5
   go_wp2
   go_region_with (go_at_call 74; refine (HLO.out _).mono ?_; rintro e6 w6 ⟨t, htl, htz, htw, rfl, hb6⟩; have hB6 : Below w5.heap.size w5 w6 := (by first | exact hb6 | exact below_drew_then hb6); have S6 := Lib.hid (S5.out.below hB6); obtain ⟨z0, z1, z2, z3, z4, z5, z6, y0, y1, y2, y3, y4, y5, y6⟩ := zero_cells S6.out.out; simp only [tv] at z4 z5)
   all_goals
    have S7 := Lib.hid (S6.out.set 4 (tv (E ++ t)) (E ++ t) D (.slice none 0 0) rfl)
    have HP7 := Lib.hid (KeepT.own (own_below HPO.out hB6) (KeepT.set (j := 4) (x := tv (E ++ t)) S6.out.out (by decide)))
    rw [show tv (E ++ t) = .string ((⟨E.toArray⟩ : ByteArray) ++ ⟨t.toArray⟩) by rw [mk_append]] at S7 HP7
    obtain ⟨w7, hw7⟩ : ∃ w, w6.setCell ⟨w1.heap.size, 4, none⟩ (.string ((⟨E.toArray⟩ : ByteArray) ++ ⟨t.toArray⟩)) = w := ⟨_, rfl⟩
    rw [hw7] at S7 HP7 ⊢
    obtain ⟨a0, a1, a2, a3, a4, a5, a6, b0, b1, b2, b3, b4, b5, b6⟩ := zero_cells S7.out.out
    have HAL := Lib.hid (fun w' (h : Below w7.heap.size w7 w') => all_str _ ps J w' ((own_texts HP7.out).below h) HJ.out (by omega))
    clear hw7 o0 o1 o2 o3 o4 o5 o6 p0 p1 p2 p3 p4 p5 p6 z0 z1 z2 z3 z4 z5 z6 y0 y1 y2 y3 y4 y5 y6 hB6 HP7
    simp only [tv] at a5
    go_wp2
    go_region_with (go_at_call 46; refine (HAL.out _ (by first | exact Below.refl _ _ | exact below_drew (Below.refl _ _))).mono ?_; rintro e8 w8 ⟨rfl, hb8⟩; have hB8 : Below w7.heap.size w7 w8 := (by first | exact hb8 | exact below_drew_then hb8); have S8 := Lib.hid (S7.out.below hB8); obtain ⟨z0, z1, z2, z3, z4, z5, z6, y0, y1, y2, y3, y4, y5, y6⟩ := zero_cells S8.out.out; simp only [tv] at z5)
    all_goals
     go_wp2
     refine ⟨⟨q + 1, by omega, by go_num, ?_⟩, by simp [intOf]; omega⟩
     have h := S8.out.set 5 (tv (D ++ J)) (E ++ t) (D ++ J) (.slice none 0 0) rfl
     rw [HT.out, HE.out, htw, mk_append]
     exact h
  ·obtain rfl : q = vs.length := by omega
   rw [List.take_length] at S hdl hsm
   have hEN := HEN.out
   rw [HST.out, hsm] at hEN
   generalize Vp.join (Vp.pts [[]] vs).flatten = D at S hdl HBE hEN
   generalize Vp.starts ms vs.length = E at S hel hEN
   replace hel : E.length ≤ 256 := by omega
   replace hdl : D.length ≤ 1024 := by omega
   rw [← hEN] at HBE
   clear hsm hEN HE
   have hDz := mk_size D
   have hEz := mk_size E
   have HLO := Lib.hid (fun w => low_str (D.length : Int) 4 w (by decide) (by decide) (by omega) (by omega))
   obtain ⟨o0, o1, o2, o3, o4, o5, o6, p0, p1, p2, p3, p4, p5, p6⟩ := zero_cells S.out.out
   simp only [tv] at o4 o5
   go_wp2
   go_region_with (go_at_call 74; refine (HLO.out _).mono ?_; rintro e6 w6 ⟨t, htl, htz, htw, rfl, hb6⟩; have hB6 : Below wr.heap.size wr w6 := (by first | exact hb6 | exact below_drew_then hb6); have S6 := Lib.hid (S.out.below hB6); obtain ⟨z0, z1, z2, z3, z4, z5, z6, y0, y1, y2, y3, y4, y5, y6⟩ := zero_cells S6.out.out; simp only [tv] at z4 z5)
   all_goals
    have S7 := Lib.hid (S6.out.set 4 (tv (E ++ t)) (E ++ t) D (.slice none 0 0) rfl)
    rw [show tv (E ++ t) = .string ((⟨E.toArray⟩ : ByteArray) ++ ⟨t.toArray⟩) by rw [mk_append]] at S7
    obtain ⟨w7, hw7⟩ : ∃ w, w6.setCell ⟨w1.heap.size, 4, none⟩ (.string ((⟨E.toArray⟩ : ByteArray) ++ ⟨t.toArray⟩)) = w := ⟨_, rfl⟩
    rw [hw7] at S7 ⊢
    rw [htw] at HBE
    have hEt : (E ++ t).length ≤ 260 := by rw [List.length_append]; omega
    clear hw7 o0 o1 o2 o3 o4 o5 o6 p0 p1 p2 p3 p4 p5 p6 z0 z1 z2 z3 z4 z5 z6 y0 y1 y2 y3 y4 y5 y6 hB6 hb6 htw
    generalize E ++ t = F at S7 HBE hEt
    have hFz := mk_size F
    obtain ⟨r0, r1, r2, r3, r4, r5, r6, q0, q1, q2, q3, q4, q5, q6⟩ := zero_cells S7.out.res
    obtain ⟨a0, a1, a2, a3, a4, a5, a6, b0, b1, b2, b3, b4, b5, b6⟩ := zero_cells S7.out.out
    simp only [tv] at a4 a5
    go_wp2
    go_loopw [20] (fun ix w' => ix = .int .i64 0 ∧ w7 = w') (fun _ _ => 0)
    case atStart => exact ⟨rfl, rfl⟩
    case round =>
     obtain ⟨rfl, rfl⟩ := hrel
     have hd4 : decide ((D.length : Int) ≤ 4096) = true := decide_eq_true (by omega)
     have hd5 : (D.length : Int) ≤ 4096 := by omega
     have hd6 : decide ((F.length : Int) ≤ 4096) = true := decide_eq_true (by omega)
     have hd7 : (F.length : Int) ≤ 4096 := by omega
     go_wp2
     have hOR : ¬ w1.heap.size = W.heap.size + 1 := by have := S7.out.olt; omega
     have hRO : ¬ W.heap.size + 1 = w1.heap.size := by have := S7.out.olt; omega
     go_region
     all_goals
      go_wp2
      (try simp only [Exit.inBlock, Exit.then])
      have hD := S7.out.resAtD
      simp only [tv] at hD
      refine bodyPost_ret (results_cell2_row rfl _ _ (W.heap.size + 1) 27 _ (0, 0) _ rfl hD Tryz.underlying27 rfl info_array_size) rfl ?_
      exact S7.out.fin (KidsOwn.nil _ _) (b := true) (by rw [HBE.out]; exact ⟨rfl, rfl⟩) rfl rfl
end Go.Proofs.YtobhjlchpnpleaaGreatDoor

/- What is built can be read: Build's answer, in plain Lean. No program. -/
namespace Go.Proofs.YtobhjlchpnpleaaGreatDoor
open Go.RowKit
set_option linter.unusedVariables false
set_option linter.unusedSimpArgs false

theorem buildR_none (ns : List Tp.Nd) (x : Int) (vs : List Vp.Txt) (h : (Vp.buildR ns x vs).2 ≠ 0) : (Vp.buildR ns x vs).1 = Arr.none := by
 unfold Vp.buildR at h ⊢
 split
 ·rename_i hc
  rw [if_pos hc] at h
  split
  ·rfl
  ·rename_i hb
   rw [hb] at h
   exact absurd rfl h
 ·rfl
/-- What is built can be read. -/
theorem buildR_ok (ns : List Tp.Nd) (x : Int) (vs : List Vp.Txt) (h : (Vp.buildR ns x vs).2 = 0) : Tp.node ns x = true ∧ (∀ v ∈ vs, Vp.Fit ns x.toNat v) ∧ Vp.build ns x.toNat vs = some (Vp.buildR ns x vs).1 := by
 unfold Vp.buildR at h ⊢
 split at h
 ·rename_i hc
  rw [Bool.and_eq_true] at hc
  rw [if_pos (by rw [Bool.and_eq_true]; exact hc)]
  have hx : (x.toNat : Int) = x := by
   have := hc.1
   unfold Tp.node at this
   simp only [Bool.and_eq_true, decide_eq_true_eq] at this
   omega
  refine ⟨hc.1, (Vp.fitAll_iff ns x.toNat vs).1 (by rw [hx]; exact hc.2), ?_⟩
  split at h
  ·exact absurd h (by decide)
  ·rename_i a ha
   rw [ha]
 ·exact absurd h (by decide)
theorem buildR_vals (ns : List Tp.Nd) (x : Int) (vs : List Vp.Txt) (h : (Vp.buildR ns x vs).2 = 0) : Vp.mayA ns (Vp.buildR ns x vs).1 x.toNat = true ∧ Vp.valsA ns (Vp.buildR ns x vs).1 x.toNat = vs ∧ (Vp.buildR ns x vs).1.len = vs.length := by
 obtain ⟨h1, h2, h3⟩ := buildR_ok ns x vs h
 have hx : (x.toNat : Int) = x := by
  unfold Tp.node at h1
  simp only [Bool.and_eq_true, decide_eq_true_eq] at h1
  omega
 obtain ⟨hm, hi⟩ := (Vp.node_of ns x.toNat).1 (by rw [hx]; exact h1)
 obtain ⟨g1, g2, g3, _, _⟩ := Vp.build_vals hm hi h2 h3
 exact ⟨g1, g2, g3⟩
theorem same_vals (ns : List Tp.Nd) (x : Int) (vs ws : List Vp.Txt) (h : (Vp.buildR ns x vs).2 = 0) (k : (Vp.buildR ns x ws).2 = 0) : Arr.same (Vp.buildR ns x vs).1 (Vp.buildR ns x ws).1 = (vs == ws) := by
 rw [Bool.eq_iff_iff, Arr.same_eq, beq_iff_eq]
 constructor
 ·intro e
  rw [← (buildR_vals ns x vs h).2.1, ← (buildR_vals ns x ws k).2.1, e]
 ·rintro rfl; rfl
end Go.Proofs.YtobhjlchpnpleaaGreatDoor
