/- Chapter 10: the walk of BuildUnlike. -/
import Derived.Test.YtlllflacnlgigaaDoorAwake10
import Derived.Test.YtlllflacnlgigaaDoorLaw10C
namespace Go.Proofs.YtlllflacnlgigaaDoor
open Go.RowKit
set_option linter.unusedVariables false
set_option linter.unusedSimpArgs false

theorem buildR_none (ns : List Tp.Nd) (x : Int) (vs : List Vp.Txt) (h : (Vp.buildR ns x vs).2 ≠ 0) : (Vp.buildR ns x vs).1 = Arr.none := by
  unfold Vp.buildR at h ⊢
  split
  · rename_i hc
    rw [if_pos hc] at h
    split
    · rfl
    · rename_i hb
      rw [hb] at h
      exact absurd rfl h
  · rfl
/-- What is built can be read. -/
theorem buildR_ok (ns : List Tp.Nd) (x : Int) (vs : List Vp.Txt) (h : (Vp.buildR ns x vs).2 = 0) : Tp.node ns x = true ∧ (∀ v ∈ vs, Vp.Fit ns x.toNat v) ∧ Vp.build ns x.toNat vs = some (Vp.buildR ns x vs).1 := by
  unfold Vp.buildR at h ⊢
  split at h
  · rename_i hc
    rw [Bool.and_eq_true] at hc
    rw [if_pos (by rw [Bool.and_eq_true]; exact hc)]
    have hx : (x.toNat : Int) = x := by
      have := hc.1
      unfold Tp.node at this
      simp only [Bool.and_eq_true, decide_eq_true_eq] at this
      omega
    refine ⟨hc.1, (Vp.fitAll_iff ns x.toNat vs).1 (by rw [hx]; exact hc.2), ?_⟩
    split at h
    · exact absurd h (by decide)
    · rename_i a ha
      rw [ha]
  · exact absurd h (by decide)
theorem buildR_vals (ns : List Tp.Nd) (x : Int) (vs : List Vp.Txt) (h : (Vp.buildR ns x vs).2 = 0) : Vp.mayA ns (Vp.buildR ns x vs).1 x.toNat = true ∧ Vp.valsA ns (Vp.buildR ns x vs).1 x.toNat = vs ∧ (Vp.buildR ns x vs).1.len = vs.length := by
  obtain ⟨h1, h2, h3⟩ := buildR_ok ns x vs h
  have hx : (x.toNat : Int) = x := by
    unfold Tp.node at h1
    simp only [Bool.and_eq_true, decide_eq_true_eq] at h1
    omega
  obtain ⟨hm, hi⟩ := (Vp.node_of ns x.toNat).1 (by rw [hx]; exact h1)
  obtain ⟨g1, g2, g3, _, _⟩ := Vp.build_vals hm hi h2 h3
  exact ⟨g1, g2, g3⟩
theorem same_vals (ns : List Tp.Nd) (x : Int) (vs ws : List Vp.Txt) (h : (Vp.buildR ns x vs).2 = 0) (k : (Vp.buildR ns x ws).2 = 0) : Arr.same (Vp.buildR ns x vs).1 (Vp.buildR ns x ws).1 = (vs == ws) := by
  rw [Bool.eq_iff_iff, Arr.same_eq, beq_iff_eq]
  constructor
  · intro e
    rw [← (buildR_vals ns x vs h).2.1, ← (buildR_vals ns x ws k).2.1, e]
  · rintro rfl; rfl
set_option maxRecDepth 100000 in
set_option maxHeartbeats 6400000 in
theorem buildUnlike_walk (v0 : Value) (a0 : List Tp.Nd) (a1 : Int) (v2 : Value) (a2 : List Vp.Txt) (v3 : Value) (a3 : List Vp.Txt) (W : World) (hv : Vars W)
    (w0 : ∃ u, v0 = typeV u ∧ NodesAt W u a0) (b0 : a0.length * 24 ≤ 140737488351232) (w1 : (Lit.int .i64 a1).wf = true) (w2 : TextsAt W v2 a2) (b2 : (∀ t ∈ a2, t.length ≤ 140737488351232) ∧ a2.length * 16 ≤ 140737488351232)
    (w3 : TextsAt W v3 a3) (b3 : (∀ t ∈ a3, t.length ≤ 140737488351232) ∧ a3.length * 16 ≤ 140737488351232) :
    Calls Tryd.prog 12 #[v0, .int .i64 a1, v2, v3] W fun e w' => e = .returned (.bool true) ∧ Below W.heap.size W w' := by
  obtain ⟨tu, rfl, hn⟩ := w0
  have hx1 : a1 ≤ 9223372036854775807 := (i64_le w1).2
  have hbox : Below W.heap.size W (W.alloc (.cells #[tu] 40)) := below_alloc (Below.refl _ _) _
  have hps : W.heap.size < (W.alloc (.cells #[tu] 40)).heap.size := by simp
  have C0 := heap_alloc_new W (.cells #[tu] 40)
  obtain ⟨W1, hW1⟩ : ∃ W1, W.alloc (.cells #[tu] 40) = W1 := ⟨_, rfl⟩
  rw [hW1] at hbox hps C0
  have HK := Lib.hid (fun n => buildR_none a0 a1 n)
  have HS := Lib.hid (same_vals a0 a1 a2 a3)
  have HN := Lib.hid hn
  have H2 := Lib.hid w2
  have H3 := Lib.hid w3
  have HB0 := Lib.hid hbox
  have B2 := Lib.hid b2
  have B3 := Lib.hid b3
  clear hn w1 w2 w3 b0 b2 b3
  obtain ⟨r1, hr1⟩ : ∃ r, Vp.buildR a0 a1 a2 = r := ⟨_, rfl⟩
  obtain ⟨r2, hr2⟩ : ∃ r, Vp.buildR a0 a1 a3 = r := ⟨_, rfl⟩
  rw [hr1, hr2] at HS
  have N1 := Lib.hid (HK.out a2)
  have N2 := Lib.hid (HK.out a3)
  rw [hr1] at N1
  rw [hr2] at N2
  have R1 := Lib.hid hr1
  have R2 := Lib.hid hr2
  obtain ⟨A1, e1⟩ := r1
  obtain ⟨A2, e2⟩ := r2
  clear hr1 hr2 HK
  go_enter Tryd.func12, Tryd.ntmps12
  go_wp2_with (fail)
  refine (awake10_calls _ (hv.below HB0.out hv.six)).mono ?_; rintro e w2 ⟨rfl, HB⟩
  have HB2 := HB0.out.trans (HB.mono HB0.out.size)
  have C2 := (HB.block _ hps).trans C0
  have q2 := cell_of_one C2
  clear HB hW1 C0
  go_wp2_with (fail)
  refine (buildR_calls _ _ a0 a1 a2 _ (HN.out.below HB2) (H2.out.below HB2) (hv.below HB2 hv.six) hx1 B2.out.1 (by have := B2.out.2; omega)).mono ?_
  rw [R1.out]
  rintro e w3 ⟨u3, rfl, ho3, hb3⟩
  obtain ⟨k3, a3c, c3, rfl, rfl, hk3⟩ := ho3.value
  have HB3 := below_then HB2 hb3
  have C3 := (hb3.block _ (lt_of_block C2)).trans C2
  clear q2 hb3
  go_upto_region 4 with (fail)
  obtain ⟨cA, hcA⟩ : ∃ c : Array Value, #[.int .i64 A1.lay, .int .i64 A1.off, .int .i64 A1.len, .string ⟨A1.valid.toArray⟩, .string ⟨A1.ends.toArray⟩, .string ⟨A1.data.toArray⟩, .slice a3c A1.kids.length c3] = c := ⟨_, rfl⟩
  rw [hcA]
  have HB4 := below_alloc HB3 (.cells cA 51)
  have hb4 := below_alloc (Below.refl w3.heap.size w3) (.cells cA 51)
  have RA := heap_alloc_new w3 (.cells cA 51)
  have C4 := (hb4.block _ (lt_of_block C3)).trans C3
  have q4 := cell_of_one C4
  have HO3 := Lib.hid (ho3.below hb4)
  clear ho3 hk3 hb4 C3
  obtain ⟨w4, hw4⟩ : ∃ w4, w3.alloc (.cells cA 51) = w4 := ⟨_, rfl⟩
  rw [hw4] at HB4 RA C4 q4 HO3 ⊢
  clear hw4 HB3
  go_wp2_with (fail)
  refine (buildR_calls _ _ a0 a1 a3 _ (HN.out.below HB4) (H3.out.below HB4) (hv.below HB4 hv.six) hx1 B3.out.1 (by have := B3.out.2; omega)).mono ?_
  rw [R2.out]
  rintro e w5 ⟨u5, rfl, ho5, hb5⟩
  obtain ⟨k5, a5c, c5, rfl, rfl, hk5⟩ := ho5.value
  have HB5 := below_then HB4 hb5
  have RA5 := (hb5.block _ (lt_of_block RA)).trans RA
  have HO5 := Lib.hid (HO3.out.below hb5)
  clear hk5 q4 C4 RA hb5 HO3 HB4
  go_upto_region 5 with (fail)
  obtain ⟨cB, hcB⟩ : ∃ c : Array Value, #[.int .i64 A2.lay, .int .i64 A2.off, .int .i64 A2.len, .string ⟨A2.valid.toArray⟩, .string ⟨A2.ends.toArray⟩, .string ⟨A2.data.toArray⟩, .slice a5c A2.kids.length c5] = c := ⟨_, rfl⟩
  rw [hcB]
  have HB6 := below_alloc HB5 (.cells cB 51)
  have hb6 := below_alloc (Below.refl w5.heap.size w5) (.cells cB 51)
  have RB := heap_alloc_new w5 (.cells cB 51)
  have RA6 := (hb6.block _ (lt_of_block RA5)).trans RA5
  have HO6 := Lib.hid (HO5.out.below hb6)
  have HP6 := Lib.hid (ho5.below hb6)
  clear ho5 hb6 RA5 HO5 HB5
  obtain ⟨w6, hw6⟩ : ∃ w6, w5.alloc (.cells cB 51) = w6 := ⟨_, rfl⟩
  rw [hw6] at HB6 RB RA6 HO6 HP6 ⊢
  clear hw6
  subst hcA hcB
  obtain ⟨x0, x1, x2, x3, x4, x5, x6, _⟩ := zero_cells RA6
  obtain ⟨y0, y1, y2, y3, y4, y5, y6, _⟩ := zero_cells RB
  by_cases he1 : e1 = 0
  · subst he1
    by_cases he2 : e2 = 0
    · subst he2
      have hs := Lib.hid (HS.out rfl rfl)
      clear HS N1 N2
      go_wp2_with (go_at_call 15; refine (num_calls _ _).mono ?_; rintro e w' ⟨rfl, rfl⟩)
      refine (sameArray_calls A1 A2 _ _ _ HO6.out.at HP6.out.at).mono ?_; rintro e w7 ⟨rfl, hb7⟩
      rw [hs.out]
      have HB7 := below_then HB6 hb7
      clear x0 x1 x2 x3 x4 x5 x6 y0 y1 y2 y3 y4 y5 y6 RA6 RB
      go_wp2_with (fail)
      refine (sameTexts_calls v2 v3 a2 a3 _ (H2.out.below HB7) (H3.out.below HB7)).mono ?_; rintro e w8 ⟨rfl, hb8⟩
      have HB8 := below_then HB7 hb8
      generalize (a2 == a3) = bb
      cases bb
      all_goals
        go_wp2
        go_ret
        exact ⟨rfl, HB8⟩
    · have g1 : (e2 == 0) = false := beq_eq_false_iff_ne.2 he2
      have g2 : (e2 != 0) = true := bne_iff_ne.2 he2
      have hA2 : A2 = Arr.none := N2.out he2
      subst hA2
      clear HS N1 N2
      go_wp2_with (go_at_call 15; refine (num_calls _ _).mono ?_; rintro e w' ⟨rfl, rfl⟩)
      refine (sameArray_calls Arr.none Arr.none _ _ _ HP6.out.at (arrAt_none _)).mono ?_; rintro e w7 ⟨rfl, hb7⟩
      rw [(Arr.same_eq Arr.none Arr.none).2 rfl]
      have HB7 := below_then HB6 hb7
      go_wp2_with (go_at_call 15; refine (num_calls _ _).mono ?_; rintro e w' ⟨rfl, rfl⟩)
      go_ret
      exact ⟨rfl, HB7⟩
  · have g1 : (e1 == 0) = false := beq_eq_false_iff_ne.2 he1
    have g2 : (e1 != 0) = true := bne_iff_ne.2 he1
    have hA1 : A1 = Arr.none := N1.out he1
    subst hA1
    by_cases he2 : e2 = 0
    · subst he2
      clear HS N1 N2
      go_wp2_with (go_at_call 15; refine (num_calls _ _).mono ?_; rintro e w' ⟨rfl, rfl⟩)
      refine (sameArray_calls Arr.none Arr.none _ _ _ HO6.out.at (arrAt_none _)).mono ?_; rintro e w7 ⟨rfl, hb7⟩
      rw [(Arr.same_eq Arr.none Arr.none).2 rfl]
      have HB7 := below_then HB6 hb7
      go_wp2_with (go_at_call 15; refine (num_calls _ _).mono ?_; rintro e w' ⟨rfl, rfl⟩)
      go_ret
      exact ⟨rfl, HB7⟩
    · have g3 : (e2 == 0) = false := beq_eq_false_iff_ne.2 he2
      have g4 : (e2 != 0) = true := bne_iff_ne.2 he2
      have hA2 : A2 = Arr.none := N2.out he2
      subst hA2
      clear HS N1 N2
      go_wp2_with (go_at_call 15; refine (num_calls _ _).mono ?_; rintro e w' ⟨rfl, rfl⟩)
      refine (sameArray_calls Arr.none Arr.none _ _ _ HO6.out.at (arrAt_none _)).mono ?_; rintro e w7 ⟨rfl, hb7⟩
      rw [(Arr.same_eq Arr.none Arr.none).2 rfl]
      have HB7 := below_then HB6 hb7
      have RB7 := (hb7.block _ (lt_of_block RB)).trans RB
      obtain ⟨z0, z1, z2, z3, z4, z5, z6, _⟩ := zero_cells RB7
      have HP7 := HP6.out.below hb7
      clear hb7 RA6 RB RB7 x0 x1 x2 x3 x4 x5 x6 y0 y1 y2 y3 y4 y5 y6
      go_wp2_with (go_at_call 15; refine (num_calls _ _).mono ?_; rintro e w' ⟨rfl, rfl⟩)
      refine (sameArray_calls Arr.none Arr.none _ _ _ HP7.at (arrAt_none _)).mono ?_; rintro e w8 ⟨rfl, hb8⟩
      rw [(Arr.same_eq Arr.none Arr.none).2 rfl]
      have HB8 := below_then HB7 hb8
      go_wp2
      go_ret
      exact ⟨rfl, HB8⟩
end Go.Proofs.YtlllflacnlgigaaDoor
