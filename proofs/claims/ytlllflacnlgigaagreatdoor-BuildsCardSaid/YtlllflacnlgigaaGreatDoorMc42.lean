/- The reference's build of truths, walked. -/
import Derived.Test.YtlllflacnlgigaaGreatDoorMc38
namespace Go.Proofs.YtlllflacnlgigaaGreatDoor
open Go.RowKit
set_option linter.unusedVariables false
set_option linter.unusedSimpArgs false

def isT (x : Vp.Txt) : Bool := decide (x = [116])
set_option maxRecDepth 100000 in
set_option maxHeartbeats 3200000 in
theorem refBuild_bool (ns : List Tp.Nd) (i : Nat) (vs : List Vp.Txt) (v vv : Value) (W : World) (ht : TextsAt W v vs) (hnd : NodesAt W vv ns) (hm : Tp.may ns = true) (hi : i < ns.length) (hl : vs.length ≤ 64) (hf : ∀ x ∈ vs, Vp.Fit ns i x) (hk : Tp.kindOf ns i = 1) :
    Calls Tryz.prog 55 #[typeV vv, .int .i64 (i : Int), v] W (RefBuildQ ns i vs W) := by
  have hbi : ¬ ((64 : Int) < (vs.length : Int)) := by omega
  have hdec : decide ((64 : Int) < (vs.length : Int)) = false := decide_eq_false hbi
  have HBE := Lib.hid (Vp.build_eq ns hm i hi vs)
  rw [if_neg (show ¬ 64 < vs.length by omega), if_neg (show ¬ Tp.kindOf ns i = 0 by omega), if_pos hk] at HBE
  have HTR := Lib.hid (Vp.truths_eq ns i hk vs hf)
  have HF := Lib.hid hf
  have hks : Tp.kids ns (i : Int) = [] := List.eq_nil_of_length_eq_zero (Vp.leaf_kids hm hi (by omega))
  have HKC := Lib.hid (fun w (h : NodesAt w vv ns) => refKids_calls vv ns (i : Int) w h ((Vp.node_of ns i).2 ⟨hm, hi⟩))
  rw [hks] at HKC
  have hb1 : Below W.heap.size W ((W.alloc (.cells #[vv] 25)).alloc (.cells (arrC 0 0 0 [] [] [] (.slice none 0 0)) 47)) := below_alloc (below_alloc (Below.refl _ _) _) _
  have HV := Lib.hid (refValid_calls v vs _ (ht.below hb1) (by omega))
  have HND := Lib.hid hnd
  have HK := Lib.hid hk
  obtain ⟨bk, o, nc, rfl, hc1, hc2, hbk, g0, _⟩ := nodes_open hnd hi
  rw [hk] at g0
  obtain ⟨a, c, rfl, hc, hmx, h3⟩ := ht
  unfold maxLen at hc2 hmx
  have hii : (i : Int) < (ns.length : Int) := by omega
  replace h3 := Lib.hid h3
  clear hnd hks hf hk
  have hmk := make_rows0
  go_enter Tryz.func55, Tryz.ntmps55
  go_wp2_with (fail)
  refine HV.out.mono ?_
  rintro e w1 ⟨rfl, hb2⟩
  have S0 := Lib.hid (RSt.begin (vs.length : Int) (Vp.valid vs) hb2)
  have c4 := cell_of_one S0.out.box
  clear hb2 hb1
  go_wp2_with (fail)
  refine (HKC.out _ (HND.out.below S0.out.bel)).mono ?_
  rintro e w2 ⟨rk, rfl, hko, hb3⟩
  have S2 := Lib.hid (S0.out.below hb3)
  obtain ⟨ka, kc, rfl⟩ := own_slice hko
  clear hko hb3 c4
  go_wp2
  have S3 := Lib.hid (S2.out.below (below_alloc (Below.refl _ _) (.cells #[] 22)))
  have hw12 : w1.heap.size < w2.heap.size := S2.out.lt
  go_loopw [12, 13] (fun on ix wr => ∃ q : Nat, q ≤ vs.length ∧ ix = .int .i64 (q : Int) ∧ wr.ownsRow w2.heap.size 4 1 on q (bools ((vs.take q).map isT)) ∧ w2.heap.size ≤ wr.heap.size ∧ RSt W wr w1.heap.size (.slice (some ⟨bk, o, none⟩) ns.length nc) vs.length (Vp.valid vs) [] [] (.slice none 0 0)) (fun _ ix _ => vs.length - (intOf ix).toNat)
  case atStart => exact ⟨0, Nat.zero_le _, rfl, own_nil, by simp, S3.out⟩
  case round =>
    obtain ⟨q, hq, rfl, hu, hsz, hS⟩ := hrel
    have S := Lib.hid hS
    have HO := Lib.hid hu
    clear hS hu
    have c4 := cell_of_one S.out.box
    have hg0 := (S.out.bel.cell (p := ⟨bk, o + i * 3, none⟩) hbk).trans g0
    by_cases hlt : q < vs.length
    · obtain ⟨bt, ot, rfl, hbt, hcell⟩ := h3.out (by intro e; rw [e] at hlt; exact Nat.not_lt_zero _ hlt)
      have c0 := (S.out.bel.cell (p := ⟨bt, ot + q, none⟩) hbt).trans (hcell q _ (List.getElem?_eq_getElem hlt))
      have hqi : (q : Int) < (vs.length : Int) := by omega
      have hlen := Vp.fit_len (HF.out _ (List.getElem_mem hlt))
      have HT := Lib.hid (show bools ((vs.take (q + 1)).map isT) = bools ((vs.take q).map isT) ++ [.bool (isT vs[q])] by
        unfold bools
        rw [List.take_succ_eq_append_getElem hlt, List.map_append, List.map_append]; rfl)
      clear hcell
      generalize vs[q] = x at c0 HT hlen
      have hx : (x == [116]) = isT x := by
        unfold isT
        rw [Bool.eq_iff_iff, beq_iff_eq, decide_eq_true_eq]
      have HP := Lib.hid (fun W' => refParts_calls x W' (by omega))
      generalize isT x = d at hx HT
      generalize (Vp.parts x).1 = kx at HP
      generalize (Vp.parts x).2.1 = ps at HP
      generalize (Vp.parts x).2.2 = er at HP
      go_wp2_with (fail)
      refine (HP.out _).mono ?_; rintro e' w5 ⟨r5, rfl, hpo, hb5⟩
      have S5 := Lib.hid (S.out.below hb5)
      have c4' := cell_of_one S5.out.box
      have hg0' := (S5.out.bel.cell (p := ⟨bk, o + i * 3, none⟩) hbk).trans g0
      have c0' := (hb5.cell (p := ⟨bt, ot + q, none⟩) (cell_lt c0)).trans c0
      clear c4 hg0 c0 hpo
      go_wp2_with (at_builtin; refine wp_app1 rfl _ _ 117 4 rfl w2.heap.size 1 (.bool false) Tryz.underlying117 info_boolc rfl _ _ _ rfl rfl rfl (own_below HO.out hb5) (by omega) (by omega) (Nat.le_trans hsz hb5.size) ?_; intro v6 w6 ho6 hb6 hg6)
      exact ⟨⟨q + 1, by omega, by go_num, by rw [HT.out]; exact ho6, Nat.le_trans hsz (Nat.le_trans hb5.size hb6.size), S5.out.own hb6 hw12⟩, by simp [intOf]; omega⟩
    · obtain rfl : q = vs.length := by omega
      have hu2 := HO.out
      rw [List.take_length] at hu2
      have hml : (vs.map isT).length = vs.length := List.length_map ..
      have hu3 : wr.ownsRow w2.heap.size 4 1 u12 (vs.map isT).length (bools (vs.map isT)) := by rw [hml]; exact hu2
      have HBO := Lib.hid (refBitsOf_calls _ _ (vs.map isT) _ hu3 (by omega))
      have hpl : (Bt.packed (vs.map isT)).length ≤ 8 := by simp [Bt.packed, Bt.bytesOf]; omega
      have HD := Lib.hid (show Bt.packed (vs.map isT) = Vp.bools (Vp.pts [[102]] vs) by unfold Vp.bools; rw [HTR.out]; rfl)
      obtain ⟨ua, uc, hua⟩ := own_slice hu3
      rw [hml] at hua
      subst hua
      clear hu2 hu3 hml HO
      obtain ⟨D, hD⟩ : ∃ D, Bt.packed (vs.map isT) = D := ⟨_, rfl⟩
      rw [hD] at HBO hpl HD
      rw [← HD.out] at HBE
      clear hD
      obtain ⟨o0, o1, o2, o3, o4, o5, o6, p0, p1, p2, p3, p4, p5, p6⟩ := zero_cells S.out.out
      go_wp2_with (fail)
      refine HBO.out.mono ?_; rintro e5 w5 ⟨rfl, hb5⟩
      have S5 := Lib.hid (S.out.below hb5)
      obtain ⟨y0, y1, y2, y3, y4, y5, y6, z0, z1, z2, z3, z4, z5, z6⟩ := zero_cells S5.out.out
      have S6 := Lib.hid (S5.out.set 5 (tv D) [] D (.slice none 0 0) rfl)
      obtain ⟨wr6, hwr6⟩ : ∃ w, w5.setCell ⟨w1.heap.size, 5, none⟩ (tv D) = w := ⟨_, rfl⟩
      rw [hwr6] at S6
      unfold tv at hwr6
      have hz := mk_size D
      clear o0 o1 o2 o3 o4 o5 o6 p0 p1 p2 p3 p4 p5 p6 hb5
      go_wp2
      (try rw [hwr6])
      clear y0 y1 y2 y3 y4 y5 y6 z0 z1 z2 z3 z4 z5 z6 hwr6
      obtain ⟨r0, r1, r2, r3, r4, r5, r6, q0, q1, q2, q3, q4, q5, q6⟩ := zero_cells S6.out.res
      obtain ⟨o0, o1, o2, o3, o4, o5, o6, p0, p1, p2, p3, p4, p5, p6⟩ := zero_cells S6.out.out
      simp only [tv] at o4 o5
      go_loopw [20] (fun ix w' => ix = .int .i64 0 ∧ wr6 = w') (fun _ _ => 0)
      case atStart => exact ⟨rfl, rfl⟩
      case round =>
        obtain ⟨rfl, rfl⟩ := hrel
        have hd4 : decide ((D.length : Int) ≤ 4096) = true := decide_eq_true (by omega)
        have hd5 : (D.length : Int) ≤ 4096 := by omega
        go_wp2
        have hOR : ¬ w1.heap.size = W.heap.size + 1 := by have := S6.out.olt; omega
        have hRO : ¬ W.heap.size + 1 = w1.heap.size := by have := S6.out.olt; omega
        go_region
        all_goals
          go_wp2
          (try simp only [Exit.inBlock, Exit.then])
          have hD := S6.out.resAtD
          simp only [tv] at hD
          refine bodyPost_ret (results_cell2_row rfl _ _ (W.heap.size + 1) 47 _ (0, 0) _ rfl hD Tryz.underlying47 rfl info_array_size) rfl ?_
          exact S6.out.fin (KidsOwn.nil _ _) (b := true) (by rw [HBE.out]; exact ⟨rfl, rfl⟩) rfl rfl
end Go.Proofs.YtlllflacnlgigaaGreatDoor
