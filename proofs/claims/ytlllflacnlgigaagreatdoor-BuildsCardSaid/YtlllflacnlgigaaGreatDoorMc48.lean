/- Chapter 10: the walk of Builds. -/
import Derived.Test.YtlllflacnlgigaaGreatDoorMc25
import Derived.Test.YtlllflacnlgigaaGreatDoorMc45
import Derived.Test.YtlllflacnlgigaaGreatDoorMc46
import Derived.Test.YtlllflacnlgigaaGreatDoorMc47
namespace Go.Proofs.YtlllflacnlgigaaGreatDoor
open Go.RowKit
set_option linter.unusedVariables false
set_option linter.unusedSimpArgs false

set_option maxRecDepth 100000 in
set_option maxHeartbeats 6400000 in
theorem builds_walk (v0 : Value) (a0 : List Tp.Nd) (a1 : Int) (v2 : Value) (a2 : List Vp.Txt) (W : World) (hv : Vars W)
    (w0 : ∃ u, v0 = typeV u ∧ NodesAt W u a0) (b0 : a0.length * 24 ≤ 140737488351232) (w1 : (Lit.int .i64 a1).wf = true) (w2 : TextsAt W v2 a2) (b2 : (∀ t ∈ a2, t.length ≤ 140737488351232) ∧ a2.length * 16 ≤ 140737488351232) :
    Calls Tryz.prog 4 #[v0, .int .i64 a1, v2] W fun e w' => e = .returned (.bool true) ∧ Below W.heap.size W w' := by
  obtain ⟨tu, rfl, hn⟩ := w0
  have hx1 : a1 ≤ 9223372036854775807 := (i64_le w1).2
  have hbox : Below W.heap.size W (W.alloc (.cells #[tu] 25)) := below_alloc (Below.refl _ _) _
  have hps : W.heap.size < (W.alloc (.cells #[tu] 25)).heap.size := by simp
  have C0 := heap_alloc_new W (.cells #[tu] 25)
  obtain ⟨W1, hW1⟩ : ∃ W1, W.alloc (.cells #[tu] 25) = W1 := ⟨_, rfl⟩
  rw [hW1] at hbox hps C0
  have HN := Lib.hid hn
  have H2 := Lib.hid w2
  have HB0 := Lib.hid hbox
  have B2 := Lib.hid b2
  clear hn w1 w2 b0 b2
  obtain ⟨r1, hr1⟩ : ∃ r, Vp.buildR a0 a1 a2 = r := ⟨_, rfl⟩
  have R1 := Lib.hid hr1
  obtain ⟨A1, e1⟩ := r1
  clear hr1
  go_enter Tryz.func4, Tryz.ntmps4
  go_wp2_with (fail)
  refine (lendTexts_calls _ a2 _ (H2.out.below HB0.out) B2.out.2).mono ?_; rintro e w2 ⟨rl, rfl, hla, HB⟩
  have HB2 := HB0.out.trans (HB.mono HB0.out.size)
  have C2 := (HB.block _ hps).trans C0
  have q2 := cell_of_one C2
  have HLA := Lib.hid hla
  obtain ⟨gl, cl, hws, _⟩ := hla
  subst hws
  clear HB hW1 C0
  go_wp2_with (fail)
  refine (buildR_calls _ _ a0 a1 a2 _ (HN.out.below HB2) HLA.out.texts (hv.below HB2 hv.six) hx1 B2.out.1 (by have := B2.out.2; omega)).mono ?_
  rw [R1.out]
  rintro e w3 ⟨u3, rfl, ho3, hb3⟩
  obtain ⟨k3, a3c, c3, rfl, rfl, hk3⟩ := ho3.value
  have HB3 := below_then HB2 hb3
  have C3 := (hb3.block _ (lt_of_block C2)).trans C2
  have HX3 := Lib.hid hb3
  clear q2 hb3
  go_upto_region 3 with (fail)
  obtain ⟨cA, hcA⟩ : ∃ c : Array Value, #[.int .i64 A1.lay, .int .i64 A1.off, .int .i64 A1.len, .string ⟨A1.valid.toArray⟩, .string ⟨A1.ends.toArray⟩, .string ⟨A1.data.toArray⟩, .slice a3c A1.kids.length c3] = c := ⟨_, rfl⟩
  rw [hcA]
  have HB4 := below_alloc HB3 (.cells cA 47)
  have hb4 := below_alloc (Below.refl w3.heap.size w3) (.cells cA 47)
  have HX4 := Lib.hid (HX3.out.trans (hb4.mono HX3.out.size))
  have RA := heap_alloc_new w3 (.cells cA 47)
  have C4 := (hb4.block _ (lt_of_block C3)).trans C3
  have q4 := cell_of_one C4
  have HO3 := Lib.hid (ho3.below hb4)
  clear ho3 hk3 hb4 C3
  obtain ⟨w4, hw4⟩ : ∃ w4, w3.alloc (.cells cA 47) = w4 := ⟨_, rfl⟩
  rw [hw4] at HB4 RA C4 q4 HO3 HX4 ⊢
  clear hw4 HB3 HX3
  go_wp2_with (fail)
  refine (refBuildR_calls _ _ a0 a1 a2 _ (HN.out.below HB4) (H2.out.below HB4) B2.out.1 (by have := B2.out.2; omega)).mono ?_
  rw [R1.out]
  rintro e w5 ⟨u5, rfl, ho5, hb5⟩
  obtain ⟨k5, a5c, c5, rfl, rfl, hk5⟩ := ho5.value
  have HB5 := below_then HB4 hb5
  have RA5 := (hb5.block _ (lt_of_block RA)).trans RA
  have HO5 := Lib.hid (HO3.out.below hb5)
  have HX5 := Lib.hid (HX4.out.trans (hb5.mono HX4.out.size))
  clear hk5 q4 C4 RA hb5 HO3 HB4 HX4
  go_upto_region 4 with (fail)
  obtain ⟨cB, hcB⟩ : ∃ c : Array Value, #[.int .i64 A1.lay, .int .i64 A1.off, .int .i64 A1.len, .string ⟨A1.valid.toArray⟩, .string ⟨A1.ends.toArray⟩, .string ⟨A1.data.toArray⟩, .slice a5c A1.kids.length c5] = c := ⟨_, rfl⟩
  rw [hcB]
  have HB6 := below_alloc HB5 (.cells cB 47)
  have hb6 := below_alloc (Below.refl w5.heap.size w5) (.cells cB 47)
  have HX6 := Lib.hid (HX5.out.trans (hb6.mono HX5.out.size))
  have RB := heap_alloc_new w5 (.cells cB 47)
  have RA6 := (hb6.block _ (lt_of_block RA5)).trans RA5
  have HO6 := Lib.hid (HO5.out.below hb6)
  have HP6 := Lib.hid (ho5.below hb6)
  clear ho5 hb6 RA5 HO5 HB5 HX5
  obtain ⟨w6, hw6⟩ : ∃ w6, w5.alloc (.cells cB 47) = w6 := ⟨_, rfl⟩
  rw [hw6] at HB6 RB RA6 HO6 HP6 HX6 ⊢
  clear hw6
  subst hcA hcB
  obtain ⟨x0, x1, x2, x3, x4, x5, x6, _⟩ := zero_cells RA6
  obtain ⟨y0, y1, y2, y3, y4, y5, y6, _⟩ := zero_cells RB
  go_wp2_with (fail)
  refine (sameArray_calls A1 A1 _ _ _ HO6.out.at HP6.out.at).mono ?_; rintro e w7 ⟨rfl, hb7⟩
  rw [(Arr.same_eq A1 A1).2 rfl]
  have HB7 := below_then HB6 hb7
  have HX7 := Lib.hid (HX6.out.trans (hb7.mono HX6.out.size))
  have RA7 := (hb7.block _ (lt_of_block RA6)).trans RA6
  have HO7 := Lib.hid (HO6.out.below hb7)
  clear x0 x1 x2 x3 x4 x5 x6 y0 y1 y2 y3 y4 y5 y6 RA6 RB
  obtain ⟨x0, x1, x2, x3, x4, x5, x6, _⟩ := zero_cells RA7
  go_wp2_with (go_at_call 11; refine (num_calls _ _).mono ?_; rintro e w' ⟨rfl, rfl⟩)
  refine (spoil_arr w2.heap.size A1 _ _ HO7.out HX7.out.size).mono ?_; rintro e w8 ⟨rfl, hs8⟩
  have HX8 := Lib.hid (HX7.out.trans hs8.is_below)
  have HB8 := HB7.trans (hs8.is_below.mono HB2.size)
  have HL8 := Lib.hid (HLA.out.below HX8.out)
  clear x0 x1 x2 x3 x4 x5 x6 RA7
  go_wp2_with (fail)
  refine (keptTexts_calls _ _ a2 _ HL8.out (H2.out.below HB8) B2.out.2).mono ?_; rintro e w9 ⟨rfl, hb9⟩
  have HB9 := below_then HB8 hb9
  go_wp2_with (fail)
  refine (awake10_calls _ (hv.below HB9 hv.six)).mono ?_; rintro e w10 ⟨rfl, hb10⟩
  go_wp2
  go_ret
  exact ⟨rfl, below_then HB9 hb10⟩
end Go.Proofs.YtlllflacnlgigaaGreatDoor
