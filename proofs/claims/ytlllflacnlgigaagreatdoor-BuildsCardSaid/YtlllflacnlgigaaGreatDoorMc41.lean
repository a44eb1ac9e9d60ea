/- The reference's build of whole numbers, walked. -/
import Derived.Test.YtlllflacnlgigaaGreatDoorMc36
namespace Go.Proofs.YtlllflacnlgigaaGreatDoor
open Go.RowKit
set_option linter.unusedVariables false
set_option linter.unusedSimpArgs false

set_option maxRecDepth 100000 in
set_option maxHeartbeats 3200000 in
theorem refBuild_int (ns : List Tp.Nd) (i : Nat) (vs : List Vp.Txt) (v vv : Value) (W : World) (ht : TextsAt W v vs) (hnd : NodesAt W vv ns) (hm : Tp.may ns = true) (hi : i < ns.length) (hl : vs.length ≤ 64) (hf : ∀ x ∈ vs, Vp.Fit ns i x) (hk : Tp.kindOf ns i = 0) :
    Calls Tryz.prog 55 #[typeV vv, .int .i64 (i : Int), v] W (RefBuildQ ns i vs W) := by
  have hbi : ¬ ((64 : Int) < (vs.length : Int)) := by omega
  have hdec : decide ((64 : Int) < (vs.length : Int)) = false := decide_eq_false hbi
  have HBE := Lib.hid (Vp.build_eq ns hm i hi vs)
  rw [if_neg (show ¬ 64 < vs.length by omega), if_pos hk] at HBE
  have HF := Lib.hid hf
  have hks : Tp.kids ns (i : Int) = [] := List.eq_nil_of_length_eq_zero (Vp.leaf_kids hm hi (by omega))
  have HKC := Lib.hid (fun w (h : NodesAt w vv ns) => refKids_calls vv ns (i : Int) w h ((Vp.node_of ns i).2 ⟨hm, hi⟩))
  rw [hks] at HKC
  have hb1 : Below W.heap.size W ((W.alloc (.cells #[vv] 25)).alloc (.cells (arrC 0 0 0 [] [] [] (.slice none 0 0)) 47)) := below_alloc (below_alloc (Below.refl _ _) _) _
  have HV := Lib.hid (refValid_calls v vs _ (ht.below hb1) (by omega))
  have HND := Lib.hid hnd
  have HK := Lib.hid hk
  obtain ⟨bk, o, nc, rfl, hc1, hc2, hbk, g0, _⟩ := nodes_open hnd hi
  rw [hk] at g0
  obtain ⟨a, c, rfl, hc, hmx, h3⟩ := ht
  unfold maxLen at hc2 hmx
  have hii : (i : Int) < (ns.length : Int) := by omega
  replace h3 := Lib.hid h3
  clear hnd hks hf hk
  have hmk := make_rows0
  go_enter Tryz.func55, Tryz.ntmps55
  go_wp2_with (fail)
  refine HV.out.mono ?_
  rintro e w1 ⟨rfl, hb2⟩
  have S0 := Lib.hid (RSt.begin (vs.length : Int) (Vp.valid vs) hb2)
  have c4 := cell_of_one S0.out.box
  clear hb2 hb1
  go_wp2_with (fail)
  refine (HKC.out _ (HND.out.below S0.out.bel)).mono ?_
  rintro e w2 ⟨rk, rfl, hko, hb3⟩
  have S2 := Lib.hid (S0.out.below hb3)
  obtain ⟨ka, kc, rfl⟩ := own_slice hko
  clear hko hb3 c4
  go_wp2
  have S3 := Lib.hid (S2.out.below (below_alloc (Below.refl _ _) (.cells #[] 22)))
  go_loopw [13] (fun ix wr => ∃ q : Nat, q ≤ vs.length ∧ ix = .int .i64 (q : Int) ∧ RSt W wr w1.heap.size (.slice (some ⟨bk, o, none⟩) ns.length nc) vs.length (Vp.valid vs) [] (Vp.ints (Vp.pts [[48]] (vs.take q))) (.slice none 0 0)) (fun ix _ => vs.length - (intOf ix).toNat)
  case atStart => exact ⟨0, Nat.zero_le _, rfl, S3.out⟩
  case round =>
    obtain ⟨q, hq, rfl, hS⟩ := hrel
    have S := Lib.hid hS
    clear hS
    by_cases hlt : q < vs.length
    · obtain ⟨bt, ot, rfl, hbt, hcell⟩ := h3.out (by intro e; rw [e] at hlt; exact Nat.not_lt_zero _ hlt)
      have c0 := (S.out.bel.cell (p := ⟨bt, ot + q, none⟩) hbt).trans (hcell q _ (List.getElem?_eq_getElem hlt))
      have hqi : (q : Int) < (vs.length : Int) := by omega
      have hfx := HF.out _ (List.getElem_mem hlt)
      have HT := Lib.hid (Vp.ints_take vs q hlt)
      have hp := Vp.fit_parts hfx
      have hri := Vp.row_int HK.out hfx
      have hlen := Vp.fit_len hfx
      clear hcell
      generalize vs[q] = x at c0 HT hp hri hlen
      clear hfx
      have HP := Lib.hid (fun W' => refParts_calls x W' (by omega))
      rw [HK.out] at hp
      obtain ⟨y, y0, y1, hy, hyc⟩ := hri
      have HW := Lib.hid (show Vp.intOfRow (Vp.partOr [[48]] x) = y by rw [hy]; unfold Vp.intOfRow; simp [Vp.atoi_itoa y y0 y1])
      rw [HW.out] at HT
      have hil := ints_length (Vp.pts [[48]] (vs.take q))
      have hql : (Vp.pts [[48]] (vs.take q)).length ≤ 64 := by unfold Vp.pts; rw [List.length_map, List.length_take]; omega
      generalize Vp.ints (Vp.pts [[48]] (vs.take q)) = D at S HT hil
      have hz := mk_size D
      have c4 := cell_of_one S.out.box
      have hg0 := (S.out.bel.cell (p := ⟨bk, o + i * 3, none⟩) hbk).trans g0
      rcases hp.2 with ⟨hx, hpp⟩ | ⟨hx, hpk, _, _⟩
      · have hy0 : y = 0 := by
          rcases hyc with ⟨_, h⟩ | h
          · exact h
          · rw [hx] at h; exact absurd h.symm (Vp.ne_nul_int y)
        subst hy0
        rw [hpp] at HP
        clear hp hy hyc hx hpp
        have HLO := Lib.hid (fun w => low_str 0 8 w (by decide) (by decide) (by decide) (by decide))
        go_wp2_with (fail)
        refine (HP.out _).mono ?_; rintro e' w5 ⟨r5, rfl, hpo, hb5⟩
        have S5 := Lib.hid (S.out.below hb5)
        have c4' := cell_of_one S5.out.box
        have hg0' := (S5.out.bel.cell (p := ⟨bk, o + i * 3, none⟩) hbk).trans g0
        obtain ⟨o0, o1, o2, o3, o4, o5, o6, p0, p1, p2, p3, p4, p5, p6⟩ := zero_cells S5.out.out
        clear c4 hg0 c0 hpo hb5
        simp only [tv] at o5
        go_wp2
        go_region_with (go_at_call 85; refine (HLO.out _).mono ?_; rintro e6 w6 ⟨t, htl, htz, htw, rfl, hb6⟩; have S6 := Lib.hid (S5.out.below (by first | exact hb6 | exact below_drew_then hb6)); obtain ⟨z0, z1, z2, z3, z4, z5, z6, y0, y1, y2, y3, y4, y5, y6⟩ := zero_cells S6.out.out; simp only [tv] at z5)
        all_goals
          go_wp2
          refine ⟨⟨q + 1, by omega, by go_num, ?_⟩, by simp [intOf]; omega⟩
          have h := S6.out.set 5 (tv (D ++ t)) [] (D ++ t) (.slice none 0 0) rfl
          rw [HT.out, htw]
          rw [mk_append]
          exact h
      · have hxe : x = Vp.int y := by
          rcases hyc with ⟨h, _⟩ | h
          · exact absurd h hx
          · exact h
        have hpp : Vp.parts x = (0, [Lib.itoa y], 0) := by rw [hxe, Vp.parts_int y y0 y1]
        rw [hpp] at HP
        have hdl := Vp.digitsLen y y0 y1
        have HIJ := Lib.hid (fun X h0 h1 => Vp.itoa_inj y X y0 y1 h0 h1)
        have HLO := Lib.hid (fun w => low_str y 8 w (by decide) (by decide) y0 y1)
        have HNO := Lib.hid (fun (h : ∀ z, -9223372036854775808 ≤ z → z ≤ 9223372036854775807 → Lib.itoa y ≠ Lib.itoa z) => h y y0 y1 rfl)
        clear hp hy hyc hx hpp hxe hpk
        generalize Lib.itoa y = dg at HP hdl HIJ HNO
        go_wp2_with (fail)
        refine (HP.out _).mono ?_; rintro e' w5 ⟨r5, rfl, hpo, hb5⟩
        have S5 := Lib.hid (S.out.below hb5)
        have c4' := cell_of_one S5.out.box
        have hg0' := (S5.out.bel.cell (p := ⟨bk, o + i * 3, none⟩) hbk).trans g0
        obtain ⟨g5, cap5, hr5, _, _, _, hrow⟩ := own_row (n := 1) hpo (by decide)
        have hr5' : r5 = .slice (some ⟨g5, 0, none⟩) 1 cap5 := hr5
        subst hr5'
        have d0 := hrow.cell (i := 0) (v := tv dg) rfl
        clear c4 hg0 c0 hpo hb5 hr5 hrow
        go_wp2_with (fail)
        refine (whole_calls dg _ (by omega)).mono ?_; rintro e6 w6 ⟨X, bb, rfl, hbt1, hbt2, hb6⟩
        have hX : X = y := by
          cases bb with
          | false => exact absurd (hbt2 rfl) HNO.out
          | true =>
            obtain ⟨h1, h2, h3⟩ := hbt1 rfl
            exact (HIJ.out X h2 h3 h1).symm
        subst hX
        have S6 := Lib.hid (S5.out.below hb6)
        obtain ⟨o0, o1, o2, o3, o4, o5, o6, p0, p1, p2, p3, p4, p5, p6⟩ := zero_cells S6.out.out
        clear d0 c4' hg0' hbt1 hbt2 HNO HIJ hb6
        simp only [tv] at o5
        go_wp2
        go_region_with (go_at_call 85; refine (HLO.out _).mono ?_; rintro e7 w7 ⟨t, htl, htz, htw, rfl, hb7⟩; have S7 := Lib.hid (S6.out.below (by first | exact hb7 | exact below_drew_then hb7)); obtain ⟨z0, z1, z2, z3, z4, z5, z6, y0, y1, y2, y3, y4, y5, y6⟩ := zero_cells S7.out.out; simp only [tv] at z5)
        all_goals
          go_wp2
          refine ⟨⟨q + 1, by omega, by go_num, ?_⟩, by simp [intOf]; omega⟩
          have h := S7.out.set 5 (tv (D ++ t)) [] (D ++ t) (.slice none 0 0) rfl
          rw [HT.out, htw]
          rw [mk_append]
          exact h
    · obtain rfl : q = vs.length := by omega
      rw [List.take_length] at S
      have hil := ints_length (Vp.pts [[48]] vs)
      have hql : (Vp.pts [[48]] vs).length = vs.length := by unfold Vp.pts; rw [List.length_map]
      generalize Vp.ints (Vp.pts [[48]] vs) = D at S HBE hil
      replace hil : D.length ≤ 512 := by omega
      have hz := mk_size D
      have c4 := cell_of_one S.out.box
      have hg0 := (S.out.bel.cell (p := ⟨bk, o + i * 3, none⟩) hbk).trans g0
      obtain ⟨r0, r1, r2, r3, r4, r5, r6, q0, q1, q2, q3, q4, q5, q6⟩ := zero_cells S.out.res
      obtain ⟨o0, o1, o2, o3, o4, o5, o6, p0, p1, p2, p3, p4, p5, p6⟩ := zero_cells S.out.out
      simp only [tv] at o4 o5
      go_wp2
      go_loopw [20] (fun ix w' => ix = .int .i64 0 ∧ wr = w') (fun _ _ => 0)
      case atStart => exact ⟨rfl, rfl⟩
      case round =>
        obtain ⟨rfl, rfl⟩ := hrel
        have hd4 : decide ((D.length : Int) ≤ 4096) = true := decide_eq_true (by omega)
        have hd5 : (D.length : Int) ≤ 4096 := by omega
        go_wp2
        have hOR : ¬ w1.heap.size = W.heap.size + 1 := by have := S.out.olt; omega
        have hRO : ¬ W.heap.size + 1 = w1.heap.size := by have := S.out.olt; omega
        go_region
        all_goals
          go_wp2
          (try simp only [Exit.inBlock, Exit.then])
          have hD := S.out.resAtD
          simp only [tv] at hD
          refine bodyPost_ret (results_cell2_row rfl _ _ (W.heap.size + 1) 47 _ (0, 0) _ rfl hD Tryz.underlying47 rfl info_array_size) rfl ?_
          exact S.out.fin (KidsOwn.nil _ _) (b := true) (by rw [HBE.out]; exact ⟨rfl, rfl⟩) rfl rfl
end Go.Proofs.YtlllflacnlgigaaGreatDoor
