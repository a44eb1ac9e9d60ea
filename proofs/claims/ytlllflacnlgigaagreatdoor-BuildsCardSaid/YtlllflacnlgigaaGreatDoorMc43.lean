/- The reference's build of texts, walked. -/
import Derived.Test.YtlllflacnlgigaaGreatDoorMc36
namespace Go.Proofs.YtlllflacnlgigaaGreatDoor
open Go.RowKit
set_option linter.unusedVariables false
set_option linter.unusedSimpArgs false

theorem all_str (v : Value) (ps : List Vp.Txt) (J : Vp.Txt) (W : World) (ht : TextsAt W v ps) (hj : Vp.join ps = J) (hl : J.length ≤ 140737488351232) :
    Calls Tryz.prog 43 #[v] W fun e w' => e = .returned (.string ⟨J.toArray⟩) ∧ Below W.heap.size W w' := by
  subst hj
  exact all_text_calls v ps W ht hl
theorem str_row {ns : List Tp.Nd} {i : Nat} {x : Vp.Txt} (hk : Tp.kindOf ns i = 2) (h : Vp.Fit ns i x) : Vp.join (Vp.parts x).2.1 = Vp.join (Vp.partOr [[]] x) ∧ (Vp.join (Vp.parts x).2.1).length ≤ 16 := by
  obtain ⟨s, hs, h1, h2⟩ := Vp.row_str hk h
  rcases h2 with ⟨rfl, rfl⟩ | rfl
  · rw [Vp.parts_nul, h1]; exact ⟨rfl, by simp [Vp.join]⟩
  · rw [h1, Vp.parts_str s hs]; exact ⟨rfl, by simpa [Vp.join] using hs⟩
set_option maxRecDepth 100000 in
set_option maxHeartbeats 3200000 in
theorem refBuild_str (ns : List Tp.Nd) (i : Nat) (vs : List Vp.Txt) (v vv : Value) (W : World) (ht : TextsAt W v vs) (hnd : NodesAt W vv ns) (hm : Tp.may ns = true) (hi : i < ns.length) (hl : vs.length ≤ 64) (hf : ∀ x ∈ vs, Vp.Fit ns i x) (hk : Tp.kindOf ns i = 2) :
    Calls Tryz.prog 55 #[typeV vv, .int .i64 (i : Int), v] W (RefBuildQ ns i vs W) := by
  have hbi : ¬ ((64 : Int) < (vs.length : Int)) := by omega
  have hdec : decide ((64 : Int) < (vs.length : Int)) = false := decide_eq_false hbi
  have HBE := Lib.hid (Vp.build_eq ns hm i hi vs)
  rw [if_neg (show ¬ 64 < vs.length by omega), if_neg (show ¬ Tp.kindOf ns i = 0 by omega), if_neg (show ¬ Tp.kindOf ns i = 1 by omega), if_pos hk] at HBE
  have HSB := Lib.hid (Vp.strs_bound ns i hk vs hf)
  have HSM := Lib.hid (Vp.strs_take ns i hk vs hf)
  have HF := Lib.hid hf
  have hks : Tp.kids ns (i : Int) = [] := List.eq_nil_of_length_eq_zero (Vp.leaf_kids hm hi (by omega))
  have HKC := Lib.hid (fun w (h : NodesAt w vv ns) => refKids_calls vv ns (i : Int) w h ((Vp.node_of ns i).2 ⟨hm, hi⟩))
  rw [hks] at HKC
  have hb1 : Below W.heap.size W ((W.alloc (.cells #[vv] 25)).alloc (.cells (arrC 0 0 0 [] [] [] (.slice none 0 0)) 47)) := below_alloc (below_alloc (Below.refl _ _) _) _
  have HV := Lib.hid (refValid_calls v vs _ (ht.below hb1) (by omega))
  have HND := Lib.hid hnd
  have HK := Lib.hid hk
  obtain ⟨bk, o, nc, rfl, hc1, hc2, hbk, g0, _⟩ := nodes_open hnd hi
  rw [hk] at g0
  obtain ⟨a, c, rfl, hc, hmx, h3⟩ := ht
  unfold maxLen at hc2 hmx
  have hii : (i : Int) < (ns.length : Int) := by omega
  replace h3 := Lib.hid h3
  clear hnd hks hf hk
  have hmk := make_rows0
  go_enter Tryz.func55, Tryz.ntmps55
  go_wp2_with (fail)
  refine HV.out.mono ?_
  rintro e w1 ⟨rfl, hb2⟩
  have S0 := Lib.hid (RSt.begin (vs.length : Int) (Vp.valid vs) hb2)
  have c4 := cell_of_one S0.out.box
  clear hb2 hb1
  go_wp2_with (fail)
  refine (HKC.out _ (HND.out.below S0.out.bel)).mono ?_
  rintro e w2 ⟨rk, rfl, hko, hb3⟩
  have S2 := Lib.hid (S0.out.below hb3)
  obtain ⟨ka, kc, rfl⟩ := own_slice hko
  clear hko hb3 c4
  go_wp2
  have S3 := Lib.hid (S2.out.below (below_alloc (Below.refl _ _) (.cells #[] 22)))
  have hw12 : w1.heap.size < w2.heap.size := S2.out.lt
  obtain ⟨ms, hms⟩ : ∃ ms, (Vp.pts [[]] vs).map Vp.size0 = ms := ⟨_, rfl⟩
  have hml : ms.length = vs.length := by rw [← hms]; simp [Vp.pts]
  rw [hms] at HSM HBE
  have HEN := Lib.hid (show Vp.starts ms (vs.length + 1) = Vp.ends ms by rw [← hml]; exact Vp.starts_ends ms)
  have HST := Lib.hid (Vp.starts_succ ms)
  have HSL := Lib.hid (Vp.starts_length ms)
  clear hms hml
  go_loopw [13] (fun ix wr => ∃ q : Nat, q ≤ vs.length ∧ ix = .int .i64 (q : Int) ∧ RSt W wr w1.heap.size (.slice (some ⟨bk, o, none⟩) ns.length nc) vs.length (Vp.valid vs) (Vp.starts ms q) (Vp.join (Vp.pts [[]] (vs.take q)).flatten) (.slice none 0 0)) (fun ix _ => vs.length - (intOf ix).toNat)
  case atStart => exact ⟨0, Nat.zero_le _, rfl, S3.out⟩
  case round =>
    obtain ⟨q, hq, rfl, hS⟩ := hrel
    have S := Lib.hid hS
    clear hS
    have c4 := cell_of_one S.out.box
    have hg0 := (S.out.bel.cell (p := ⟨bk, o + i * 3, none⟩) hbk).trans g0
    have hdl := HSB.out q
    have hsm := HSM.out q
    have hel := HSL.out q
    have HE := Lib.hid (HST.out q)
    by_cases hlt : q < vs.length
    · obtain ⟨bt, ot, rfl, hbt, hcell⟩ := h3.out (by intro e; rw [e] at hlt; exact Nat.not_lt_zero _ hlt)
      have c0 := (S.out.bel.cell (p := ⟨bt, ot + q, none⟩) hbt).trans (hcell q _ (List.getElem?_eq_getElem hlt))
      have hqi : (q : Int) < (vs.length : Int) := by omega
      have hlen := Vp.fit_len (HF.out _ (List.getElem_mem hlt))
      have hrow := str_row HK.out (HF.out _ (List.getElem_mem hlt))
      have HT := Lib.hid (show Vp.join (Vp.pts [[]] (vs.take (q + 1))).flatten = Vp.join (Vp.pts [[]] (vs.take q)).flatten ++ Vp.join (Vp.partOr [[]] vs[q]) by rw [Vp.flat_take vs q hlt, Vp.join_append])
      clear hcell
      generalize vs[q] = x at c0 HT hlen hrow
      have HP := Lib.hid (fun W' => refParts_calls x W' (by omega))
      generalize (Vp.parts x).1 = kx at HP
      generalize (Vp.parts x).2.1 = ps at HP hrow
      generalize (Vp.parts x).2.2 = er at HP
      obtain ⟨hr1, hr2⟩ := hrow
      rw [← hr1] at HT
      clear hr1
      obtain ⟨J, hJ⟩ : ∃ J, Vp.join ps = J := ⟨_, rfl⟩
      rw [hJ] at HT hr2
      have HJ := Lib.hid hJ
      have hJz := mk_size J
      clear hJ
      generalize Vp.join (Vp.pts [[]] (vs.take q)).flatten = D at S HT hdl hsm
      rw [hsm] at HE
      generalize Vp.starts ms q = E at S HE hel
      replace hel : E.length ≤ 256 := by omega
      replace hdl : D.length ≤ 1024 := by omega
      have hDz := mk_size D
      have hEz := mk_size E
      have HLO := Lib.hid (fun w => low_str (D.length : Int) 4 w (by decide) (by decide) (by omega) (by omega))
      clear hsm
      go_wp2_with (fail)
      refine (HP.out _).mono ?_; rintro e' w5 ⟨r5, rfl, hpo, hb5⟩
      have S5 := Lib.hid (S.out.below hb5)
      have HPO := Lib.hid hpo
      have c4' := cell_of_one S5.out.box
      have hg0' := (S5.out.bel.cell (p := ⟨bk, o + i * 3, none⟩) hbk).trans g0
      obtain ⟨o0, o1, o2, o3, o4, o5, o6, p0, p1, p2, p3, p4, p5, p6⟩ := zero_cells S5.out.out
      obtain ⟨ra, rc, rfl⟩ := own_slice hpo
      clear c4 hg0 c0 hpo hb5
      simp only [tv] at o4 o5
      go_wp2
      go_region_with (go_at_call 85; refine (HLO.out _).mono ?_; rintro e6 w6 ⟨t, htl, htz, htw, rfl, hb6⟩; have hB6 : Below w5.heap.size w5 w6 := (by first | exact hb6 | exact below_drew_then hb6); have S6 := Lib.hid (S5.out.below hB6); obtain ⟨z0, z1, z2, z3, z4, z5, z6, y0, y1, y2, y3, y4, y5, y6⟩ := zero_cells S6.out.out; simp only [tv] at z4 z5)
      all_goals
        have S7 := Lib.hid (S6.out.set 4 (tv (E ++ t)) (E ++ t) D (.slice none 0 0) rfl)
        have HP7 := Lib.hid (KeepT.own (own_below HPO.out hB6) (KeepT.set (j := 4) (x := tv (E ++ t)) S6.out.out (by decide)))
        rw [show tv (E ++ t) = .string ((⟨E.toArray⟩ : ByteArray) ++ ⟨t.toArray⟩) by rw [mk_append]] at S7 HP7
        obtain ⟨w7, hw7⟩ : ∃ w, w6.setCell ⟨w1.heap.size, 4, none⟩ (.string ((⟨E.toArray⟩ : ByteArray) ++ ⟨t.toArray⟩)) = w := ⟨_, rfl⟩
        rw [hw7] at S7 HP7 ⊢
        obtain ⟨a0, a1, a2, a3, a4, a5, a6, b0, b1, b2, b3, b4, b5, b6⟩ := zero_cells S7.out.out
        have HAL := Lib.hid (fun w' (h : Below w7.heap.size w7 w') => all_str _ ps J w' ((own_texts HP7.out).below h) HJ.out (by omega))
        clear hw7 o0 o1 o2 o3 o4 o5 o6 p0 p1 p2 p3 p4 p5 p6 z0 z1 z2 z3 z4 z5 z6 y0 y1 y2 y3 y4 y5 y6 hB6 HP7
        simp only [tv] at a5
        go_wp2
        go_region_with (go_at_call 43; refine (HAL.out _ (by first | exact Below.refl _ _ | exact below_drew (Below.refl _ _))).mono ?_; rintro e8 w8 ⟨rfl, hb8⟩; have hB8 : Below w7.heap.size w7 w8 := (by first | exact hb8 | exact below_drew_then hb8); have S8 := Lib.hid (S7.out.below hB8); obtain ⟨z0, z1, z2, z3, z4, z5, z6, y0, y1, y2, y3, y4, y5, y6⟩ := zero_cells S8.out.out; simp only [tv] at z5)
        all_goals
          go_wp2
          refine ⟨⟨q + 1, by omega, by go_num, ?_⟩, by simp [intOf]; omega⟩
          have h := S8.out.set 5 (tv (D ++ J)) (E ++ t) (D ++ J) (.slice none 0 0) rfl
          rw [HT.out, HE.out, htw, mk_append]
          exact h
    · obtain rfl : q = vs.length := by omega
      rw [List.take_length] at S hdl hsm
      have hEN := HEN.out
      rw [HST.out, hsm] at hEN
      generalize Vp.join (Vp.pts [[]] vs).flatten = D at S hdl HBE hEN
      generalize Vp.starts ms vs.length = E at S hel hEN
      replace hel : E.length ≤ 256 := by omega
      replace hdl : D.length ≤ 1024 := by omega
      rw [← hEN] at HBE
      clear hsm hEN HE
      have hDz := mk_size D
      have hEz := mk_size E
      have HLO := Lib.hid (fun w => low_str (D.length : Int) 4 w (by decide) (by decide) (by omega) (by omega))
      obtain ⟨o0, o1, o2, o3, o4, o5, o6, p0, p1, p2, p3, p4, p5, p6⟩ := zero_cells S.out.out
      simp only [tv] at o4 o5
      go_wp2
      go_region_with (go_at_call 85; refine (HLO.out _).mono ?_; rintro e6 w6 ⟨t, htl, htz, htw, rfl, hb6⟩; have hB6 : Below wr.heap.size wr w6 := (by first | exact hb6 | exact below_drew_then hb6); have S6 := Lib.hid (S.out.below hB6); obtain ⟨z0, z1, z2, z3, z4, z5, z6, y0, y1, y2, y3, y4, y5, y6⟩ := zero_cells S6.out.out; simp only [tv] at z4 z5)
      all_goals
        have S7 := Lib.hid (S6.out.set 4 (tv (E ++ t)) (E ++ t) D (.slice none 0 0) rfl)
        rw [show tv (E ++ t) = .string ((⟨E.toArray⟩ : ByteArray) ++ ⟨t.toArray⟩) by rw [mk_append]] at S7
        obtain ⟨w7, hw7⟩ : ∃ w, w6.setCell ⟨w1.heap.size, 4, none⟩ (.string ((⟨E.toArray⟩ : ByteArray) ++ ⟨t.toArray⟩)) = w := ⟨_, rfl⟩
        rw [hw7] at S7 ⊢
        rw [htw] at HBE
        have hEt : (E ++ t).length ≤ 260 := by rw [List.length_append]; omega
        clear hw7 o0 o1 o2 o3 o4 o5 o6 p0 p1 p2 p3 p4 p5 p6 z0 z1 z2 z3 z4 z5 z6 y0 y1 y2 y3 y4 y5 y6 hB6 hb6 htw
        generalize E ++ t = F at S7 HBE hEt
        have hFz := mk_size F
        obtain ⟨r0, r1, r2, r3, r4, r5, r6, q0, q1, q2, q3, q4, q5, q6⟩ := zero_cells S7.out.res
        obtain ⟨a0, a1, a2, a3, a4, a5, a6, b0, b1, b2, b3, b4, b5, b6⟩ := zero_cells S7.out.out
        simp only [tv] at a4 a5
        go_wp2
        go_loopw [20] (fun ix w' => ix = .int .i64 0 ∧ w7 = w') (fun _ _ => 0)
        case atStart => exact ⟨rfl, rfl⟩
        case round =>
          obtain ⟨rfl, rfl⟩ := hrel
          have hd4 : decide ((D.length : Int) ≤ 4096) = true := decide_eq_true (by omega)
          have hd5 : (D.length : Int) ≤ 4096 := by omega
          have hd6 : decide ((F.length : Int) ≤ 4096) = true := decide_eq_true (by omega)
          have hd7 : (F.length : Int) ≤ 4096 := by omega
          go_wp2
          have hOR : ¬ w1.heap.size = W.heap.size + 1 := by have := S7.out.olt; omega
          have hRO : ¬ W.heap.size + 1 = w1.heap.size := by have := S7.out.olt; omega
          go_region
          all_goals
            go_wp2
            (try simp only [Exit.inBlock, Exit.then])
            have hD := S7.out.resAtD
            simp only [tv] at hD
            refine bodyPost_ret (results_cell2_row rfl _ _ (W.heap.size + 1) 47 _ (0, 0) _ rfl hD Tryz.underlying47 rfl info_array_size) rfl ?_
            exact S7.out.fin (KidsOwn.nil _ _) (b := true) (by rw [HBE.out]; exact ⟨rfl, rfl⟩) rfl rfl
end Go.Proofs.YtlllflacnlgigaaGreatDoor
