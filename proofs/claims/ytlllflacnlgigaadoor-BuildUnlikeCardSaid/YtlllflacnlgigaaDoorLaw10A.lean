/- Chapter 10: the walk of BuildForms. -/
import Derived.Test.YtlllflacnlgigaaDoorAwake10
import Derived.Deep.CutBlock
namespace Go.Proofs.YtlllflacnlgigaaDoor
open Go.RowKit
set_option linter.unusedVariables false
set_option linter.unusedSimpArgs false

def rowT (k : Nat) : Vp.Txt := 91 :: ((List.replicate k ([115, 48, 58] : Vp.Txt)).flatten ++ [93])
def rowTo (k : Nat) : Vp.Txt := 91 :: (List.replicate k ([115, 48, 58] : Vp.Txt)).flatten
theorem rowTo_succ (k : Nat) : rowTo (k + 1) = rowTo k ++ [115, 48, 58] := by
  unfold rowTo
  rw [List.replicate_succ', List.flatten_append]
  simp
theorem rowTo_length (k : Nat) : (rowTo k).length = 3 * k + 1 := by
  induction k with
  | zero => rfl
  | succ k ih => rw [rowTo_succ, List.length_append, ih]; simp; omega
set_option maxHeartbeats 800000 in
theorem row10_calls (k : Nat) (W : World) (hk : k ≤ 65536) :
    Calls Tryd.prog 26 #[.int .i64 (k : Int)] W fun e w' => e = .returned (tv (rowT k)) ∧ Below W.heap.size W w' := by
  have HEND := Lib.hid (show rowT k = rowTo k ++ [93] by simp [rowT, rowTo])
  go_enter Tryd.func26, Tryd.ntmps26
  go_wp2
  go_loopw [3, 4] (fun s i wr => ∃ q : Nat, q ≤ k ∧ i = .int .i64 (q : Int) ∧ s = tv (rowTo q) ∧ Below W.heap.size W wr) (fun _ i _ => k - (intOf i).toNat)
  case atStart => exact ⟨0, Nat.zero_le _, rfl, rfl, Below.refl _ _⟩
  case round =>
    obtain ⟨q, hq, rfl, rfl, hb⟩ := hrel
    have hl := rowTo_length q
    have hz := mk_size (rowTo q)
    have HS := Lib.hid (rowTo_succ q)
    by_cases hlt : q < k
    · have hi : (q : Int) < (k : Int) := by omega
      go_wp2
      exact ⟨⟨q + 1, by omega, by go_num, by rw [HS.out]; exact congrArg Value.string (mk_append (rowTo q) [115, 48, 58]), hb⟩, by simp [intOf]; omega⟩
    · obtain rfl : q = k := by omega
      go_wp2
      go_ret
      exact ⟨by rw [HEND.out]; exact congrArg (fun s => Ending.returned (Value.string s)) (mk_append (rowTo q) [93]), hb⟩
def ty10b : List Tp.Nd := [⟨3, -1, true⟩, ⟨2, 0, false⟩]
theorem modN2 (a : Int) (M : Nat) (h0 : 0 < M) (h : M ≤ 4611686018427387904) : ∃ i : Nat, i < M ∧ (IntKind.u64.wrap a).tmod (M : Int) = (i : Int) := by
  have hw : IntKind.u64.wrap a = a % 18446744073709551616 := by simp [IntKind.wrap, IntKind.bits, IntKind.signed]
  have h1 := Int.emod_nonneg (a % 18446744073709551616) (b := (M : Int)) (by omega)
  have h2 := Int.emod_lt_of_pos (a % 18446744073709551616) (b := (M : Int)) (by omega)
  have h3 : (a % 18446744073709551616).tmod (M : Int) = (a % 18446744073709551616) % (M : Int) := Int.tmod_eq_emod_of_nonneg (Int.emod_nonneg _ (by decide))
  rw [hw, h3]
  exact ⟨((a % 18446744073709551616) % (M : Int)).toNat, by omega, by rw [Int.toNat_of_nonneg h1]⟩
theorem mask_range (x : Int) (m : Nat) (hm : m ≤ 1023) : 0 ≤ bits .and .i64 x (m : Int) ∧ bits .and .i64 x (m : Int) ≤ (m : Int) := by
  have e : (BitVec.ofInt 64 (m : Int)).toNat = m := by rw [BitVec.toNat_ofInt]; omega
  have h2 : (BitVec.ofInt 64 x &&& BitVec.ofInt 64 (m : Int)).toNat ≤ m := by rw [BitVec.toNat_and, e]; exact Nat.and_le_right
  have h3 : bits .and .i64 x (m : Int) = IntKind.i64.wrap (((BitVec.ofInt 64 x &&& BitVec.ofInt 64 (m : Int)).toNat : Nat) : Int) := rfl
  rw [h3, IntKind.wrap_i64]
  omega
theorem texts_one {w : World} {b : Nat} {x : Vp.Txt} {t : TypeId} (h : w.heap[b]? = some (.cells #[tv x] t (0, 0))) : TextsAt w (.slice (some ⟨b, 0, none⟩) 1 1) [x] := by
  refine ⟨_, 1, rfl, Nat.le_refl _, by unfold maxLen; decide, fun _ => ⟨b, 0, rfl, lt_of_block h, fun j y hy => ?_⟩⟩
  cases j with
  | zero =>
    obtain rfl : x = y := by simpa using hy
    exact cell_of_one h
  | succ j => simp at hy
theorem nodes_nil (w : World) : NodesAt w (.slice none 0 0) [] := ⟨none, 0, rfl, Nat.le_refl _, by unfold maxLen; decide, fun h => absurd rfl h⟩
theorem buildR_no (ns : List Tp.Nd) (x : Int) (vs : List Vp.Txt) (h : Tp.node ns x = false) : Vp.buildR ns x vs = (Arr.none, 1000) := by
  unfold Vp.buildR; rw [h]; rfl
theorem ty10b_no (x : Int) (h : x < 0 ∨ 2 ≤ x) : Tp.node ty10b x = false := by
  unfold Tp.node
  rw [Bool.and_eq_false_iff]
  right
  rw [decide_eq_false_iff_not]
  show ¬ (0 ≤ x ∧ x < (2 : Nat))
  omega
def vs10 : List Vp.Txt := [[91, 115, 49, 58, 97, 93]]
set_option maxRecDepth 100000 in
theorem bf_0 : Vp.buildR [] 0 vs10 = (Arr.none, 1000) := by kernel_rfl
set_option maxRecDepth 100000 in
theorem bf_3 : Vp.buildR ty10b 0 [[91, 110, 93]] = (Arr.none, 1000) := by kernel_rfl
set_option maxRecDepth 100000 in
theorem bf_4 : Vp.buildR ty10b 0 [[115, 49, 58, 97]] = (Arr.none, 1000) := by kernel_rfl
set_option maxRecDepth 100000 in
theorem bf_5 : Vp.buildR ty10b 0 [[91, 115, 49, 55, 58, 97, 97, 97, 97, 97, 97, 97, 97, 97, 97, 97, 97, 97, 97, 97, 97, 97, 93]] = (Arr.none, 1000) := by kernel_rfl
set_option maxRecDepth 100000 in
theorem bf_6 : Vp.buildR ty10b 0 (manyT 65 ++ [[116]]) = (Arr.none, 1000) := by kernel_rfl
theorem bf_7 (k : Nat) (h : 64 < k) : Vp.buildR ty10b 0 (manyT k) = (Arr.none, 1001) := by
  have h1 : Tp.node ty10b 0 = true := by kernel_rfl
  have h2 : Vp.fitAll ty10b 0 (manyT k) = true := by
    unfold Vp.fitAll manyT
    rw [List.all_eq_true]
    intro v hv
    obtain rfl := List.eq_of_mem_replicate hv
    kernel_rfl
  have h3 : Vp.build ty10b 0 (manyT k) = none := by
    unfold Vp.build
    rw [show ty10b.length + 1 = 2 + 1 from rfl, Vp.bld, if_pos (by simpa [manyT] using h)]
  unfold Vp.buildR
  rw [h1, h2, show (true && true) = true from rfl, if_pos rfl, show Int.toNat 0 = 0 from rfl, h3]
set_option maxRecDepth 100000 in
theorem bf_8 : Vp.buildR ty10b 0 [rowT 40, rowT 25] = (Arr.none, 1001) := by kernel_rfl
theorem arrAt_none (w : World) : ArrAt w Arr.none (arrV 0 0 0 [] [] [] (.slice none 0 0)) := by
  refine ⟨_, rfl, ?_⟩
  rw [KidsAt]
  exact ⟨none, 0, rfl, Nat.le_refl _, by unfold maxLen; decide, fun h => absurd rfl h⟩
/-- What stands at the join: a type, a node, values that are not built, and why. -/
def Form10 (W : World) (tb : Nat) (s7 s8 s9 : Value) (wx : World) : Prop :=
  ∃ ns nv vs x want, s8 = .int .i64 x ∧ s9 = .int .i64 want ∧ TextsAt wx s7 vs ∧ wx.cell? ⟨tb, 0, none⟩ = some nv ∧ NodesAt wx nv ns ∧ Vp.buildR ns x vs = (Arr.none, want) ∧
    x ≤ 9223372036854775807 ∧ (∀ t ∈ vs, t.length ≤ 140737488351232) ∧ vs.length ≤ 140737488351232 ∧ Below W.heap.size W wx
set_option maxRecDepth 100000 in
set_option maxHeartbeats 6400000 in
theorem buildForms_walk (a0 a1 : Int) (W : World) (hv : Vars W) (h0 : (Lit.int .i64 a0).wf = true) (h1 : (Lit.int .i64 a1).wf = true) :
    Calls Tryd.prog 9 #[.int .i64 a0, .int .i64 a1] W fun e w' => e = .returned (.bool true) ∧ Below W.heap.size W w' := by
  obtain ⟨j, hj, he⟩ := modN2 a0 9 (by decide) (by decide)
  rw [show ((9 : Nat) : Int) = 9 from rfl] at he
  have HE := Lib.hid he
  have hd0 := mask_range a1 1023 (by decide)
  rw [show ((1023 : Nat) : Int) = 1023 from rfl] at hd0
  obtain ⟨d, hd, hd1, hd2⟩ : ∃ d : Int, IntKind.i64.wrap (1 + bits .and .i64 a1 1023) = d ∧ 1 ≤ d ∧ d ≤ 1024 := ⟨_, rfl, by rw [IntKind.wrap_i64]; omega, by rw [IntKind.wrap_i64]; omega⟩
  have HD := Lib.hid hd
  clear he h0 h1 hd0 hd
  go_enter Tryd.func9, Tryd.ntmps9
  go_wp2_with (fail)
  refine (awake10_calls W hv).mono ?_; rintro e w1 ⟨rfl, HB⟩
  have he := HE.out
  have hd := HD.out
  go_upto_block 0 with (fail)
  obtain ⟨wa, hwa⟩ : ∃ wa, w1.alloc (.cells #[.int .i64 3, .int .i64 (-1), .bool true, .int .i64 2, .int .i64 0, .bool false] 37) = wa := ⟨_, rfl⟩
  have hsa : wa.heap.size = w1.heap.size + 1 := by rw [← hwa]; simp
  have NA := Lib.hid (show NodesAt wa (.slice (some ⟨w1.heap.size, 0, none⟩) 2 2) ty10b by rw [← hwa]; exact nodes_lit2 w1 w1.heap.size ⟨3, -1, true⟩ ⟨2, 0, false⟩ rfl)
  have HBa : Below W.heap.size W wa := by rw [← hwa]; exact below_alloc HB _
  have hW1 := HB.size
  rw [hwa]
  clear hwa HB
  obtain ⟨wb, hwb⟩ : ∃ wb, wa.alloc (.cells #[.slice (some ⟨w1.heap.size, 0, none⟩) 2 2] 40) = wb := ⟨_, rfl⟩
  have hsb : wb.heap.size = w1.heap.size + 2 := by rw [← hwb]; simp; omega
  have CB : wb.heap[w1.heap.size + 1]? = some (.cells #[.slice (some ⟨w1.heap.size, 0, none⟩) 2 2] 40) := by rw [← hwb, ← hsa]; exact heap_alloc_new _ _
  have HBb : Below W.heap.size W wb := by rw [← hwb]; exact below_alloc HBa _
  have BAb : Below wa.heap.size wa wb := by rw [← hwb]; exact below_alloc (Below.refl _ _) _
  rw [hwb]
  clear hwb HBa
  obtain ⟨w3, hw3⟩ : ∃ w3, wb.alloc (.cells #[.string ⟨#[91, 115, 49, 58, 97, 93]⟩] 9) = w3 := ⟨_, rfl⟩
  have TC : w3.heap[w1.heap.size + 2]? = some (.cells #[tv [91, 115, 49, 58, 97, 93]] 9) := by rw [← hw3, ← hsb]; exact heap_alloc_new _ _
  have HB3 : Below W.heap.size W w3 := by rw [← hw3]; exact below_alloc HBb _
  have BB3 : Below wb.heap.size wb w3 := by rw [← hw3]; exact below_alloc (Below.refl _ _) _
  have hs3 : w3.heap.size = w1.heap.size + 3 := by rw [← hw3]; simp; omega
  rw [hw3]
  clear hw3 HBb
  have BA3 := BAb.trans (BB3.mono BAb.size)
  have C3 : w3.heap[w1.heap.size + 1]? = some (.cells #[.slice (some ⟨w1.heap.size, 0, none⟩) 2 2] 40) := (BB3.block _ (by omega)).trans CB
  have q0 := cell_of_one C3
  have f0 := free_of_one C3
  have q1 := cell_of_one TC
  have f1 := free_of_one TC
  simp only [tv] at q1
  rw [show w1.heap.size + 2 = w1.heap.size + 1 + 1 from rfl] at q1 f1
  have HT := Lib.hid (fun W' (h : Below w3.heap.size w3 W') => (texts_one TC).below h)
  have HCt := Lib.hid (fun W' (h : Below wb.heap.size wb W') => cell_of_one ((h.block (w1.heap.size + 1) (by omega)).trans CB))
  have HNt := Lib.hid (fun W' (h : Below wa.heap.size wa W') => NA.out.below h)
  clear he HE
  go_cut [7, 8, 9] (fun s7 s8 s9 wx => Form10 W (w1.heap.size + 1) s7 s8 s9 wx)
  case first =>
    by_cases c0 : j = 0
    · subst c0
      go_wp2
      go_meet
      exact ⟨[], _, vs10, 0, 1000, rfl, rfl, texts_one ((Below.heap_setCell _ _ _ _ (by simp)).trans TC), cell_of_one (one_setCell C3), nodes_nil _, bf_0, by decide, by decide, by decide, below_set HB3 (by simp; omega) _⟩
    by_cases c1 : j = 1
    · subst c1
      go_wp2
      go_meet
      exact ⟨ty10b, _, vs10, _, 1000, rfl, rfl, texts_one TC, q0, HNt.out _ BA3, buildR_no _ _ _ (ty10b_no _ (by first | omega | (rw [IntKind.wrap_i64]; omega))), by first | omega | (rw [IntKind.wrap_i64]; omega), by decide, by decide, HB3⟩
    by_cases c2 : j = 2
    · subst c2
      go_wp2
      go_meet
      exact ⟨ty10b, _, vs10, _, 1000, rfl, rfl, texts_one TC, q0, HNt.out _ BA3, buildR_no _ _ _ (ty10b_no _ (by first | omega | (rw [IntKind.wrap_i64]; omega))), by first | omega | (rw [IntKind.wrap_i64]; omega), by decide, by decide, HB3⟩
    by_cases c3 : j = 3
    · subst c3
      go_wp2
      go_meet
      exact ⟨ty10b, _, [[91, 110, 93]], 0, 1000, rfl, rfl, texts_one (one_setCell TC), (Lib.hid (HCt.out _ (below_set BB3 (by simp; omega) _))).out, HNt.out _ (below_set BA3 (by simp; omega) _), bf_3, by decide, by decide, by decide, below_set HB3 (by simp; omega) _⟩
    by_cases c4 : j = 4
    · subst c4
      go_wp2
      go_meet
      exact ⟨ty10b, _, [[115, 49, 58, 97]], 0, 1000, rfl, rfl, texts_one (one_setCell TC), (Lib.hid (HCt.out _ (below_set BB3 (by simp; omega) _))).out, HNt.out _ (below_set BA3 (by simp; omega) _), bf_4, by decide, by decide, by decide, below_set HB3 (by simp; omega) _⟩
    by_cases c5 : j = 5
    · subst c5
      go_wp2
      go_meet
      exact ⟨ty10b, _, [[91, 115, 49, 55, 58, 97, 97, 97, 97, 97, 97, 97, 97, 97, 97, 97, 97, 97, 97, 97, 97, 97, 93]], 0, 1000, rfl, rfl, texts_one (one_setCell TC), (Lib.hid (HCt.out _ (below_set BB3 (by simp; omega) _))).out, HNt.out _ (below_set BA3 (by simp; omega) _), bf_5, by decide, by decide, by decide, below_set HB3 (by simp; omega) _⟩
    by_cases c6 : j = 6
    · subst c6
      go_wp2_with (fail)
      refine (many_calls 65 _ (by decide)).mono ?_; rintro e wm ⟨rm, rfl, hom, hbm⟩
      go_wp2_with (at_builtin; refine wp_app1 rfl _ _ 23 9 rfl w3.heap.size 16 (.string ⟨#[]⟩) Tryd.underlying23 info_string rfl _ _ _ rfl rfl rfl hom (by omega) (by omega) hbm.size ?_; intro v6 w6 ho6 hb6 hg6)
      go_meet
      have hb36 := hbm.trans hb6
      exact ⟨ty10b, _, manyT 65 ++ [[116]], 0, 1000, rfl, rfl, own_texts (xs := manyT 65 ++ [[116]]) (by rw [List.map_append]; exact ho6), HCt.out _ (BB3.trans (hb36.mono BB3.size)), HNt.out _ (BA3.trans (hb36.mono BA3.size)), bf_6, by decide, by decide, by decide, HB3.trans (hb36.mono HB3.size)⟩
    by_cases c7 : j = 7
    · subst c7
      have hm0 := mask_range d 63 (by decide)
      rw [show ((63 : Nat) : Int) = 63 from rfl] at hm0
      obtain ⟨m, hm⟩ : ∃ m : Nat, bits .and .i64 d 63 = (m : Int) := ⟨(bits .and .i64 d 63).toNat, by omega⟩
      rw [hm] at hm0
      have hm63 : m ≤ 63 := by omega
      clear hm0
      go_wp2_with (fail)
      rw [show (64 : Int) + (m : Int) + 1 = ((65 + m : Nat) : Int) by omega]
      refine (many_calls (65 + m) _ (by omega)).mono ?_; rintro e wm ⟨rm, rfl, hom, hbm⟩
      go_wp2
      go_meet
      exact ⟨ty10b, _, manyT (65 + m), 0, 1001, rfl, rfl, own_texts (xs := manyT (65 + m)) (by rw [show (manyT (65 + m)).length = 65 + m by simp [manyT]]; exact hom), HCt.out _ (BB3.trans (hbm.mono BB3.size)), HNt.out _ (BA3.trans (hbm.mono BA3.size)), bf_7 _ (by omega), by decide, fun t ht => by rw [List.eq_of_mem_replicate ht]; decide, by simp [manyT]; omega, HB3.trans (hbm.mono HB3.size)⟩
    by_cases c8 : j = 8
    · subst c8
      go_wp2_with (fail)
      refine (row10_calls 40 _ (by decide)).mono ?_; rintro e wm ⟨rfl, hbm⟩
      go_wp2_with (fail)
      refine (row10_calls 25 _ (by decide)).mono ?_; rintro e wn ⟨rfl, hbn⟩
      go_wp2
      go_meet
      have hb8 := below_alloc (hbm.trans (hbn.mono hbm.size)) (.cells #[tv (rowT 40), tv (rowT 25)] 9)
      exact ⟨ty10b, _, [rowT 40, rowT 25], 0, 1001, rfl, rfl, texts_at _ _ _ 2 [rowT 40, rowT 25] rfl rfl rfl (by decide), HCt.out _ (BB3.trans (hb8.mono BB3.size)), HNt.out _ (BA3.trans (hb8.mono BA3.size)), bf_8, by decide, by decide +kernel, by decide, HB3.trans (hb8.mono HB3.size)⟩
    exact absurd hj (by omega)
  case rest =>
    obtain ⟨ns, nv, vs, x, want, rfl, rfl, htx, hcl, hnx, hr, hx, hl, hvl, hbx⟩ := hcut
    rename World => wx
    have HR := Lib.hid hr
    have HTX := Lib.hid htx
    have HNX := Lib.hid hnx
    have HL := Lib.hid hl
    have HVL := Lib.hid hvl
    have HBX := Lib.hid hbx
    clear hr htx hnx hl hvl hbx BA3 BB3 HB3 BAb HT HCt HNt NA CB TC C3 q0 q1 f0 f1 hs3 hsa hsb
    go_wp2_with (fail)
    refine (buildK _ _ ns x vs _ HR.out HNX.out HTX.out (hv.below HBX.out hv.six) hx HL.out HVL.out).mono ?_
    rintro e w4 ⟨a4, c4, rfl, hk4, hb4⟩
    have HB4 := below_then HBX.out hb4
    clear hb4 hcl
    go_wp2_with (fail)
    have hbE := below_alloc (Below.refl w4.heap.size w4) (.cells #[.int .i64 0, .int .i64 0, .int .i64 0, .string ⟨#[]⟩, .string ⟨#[]⟩, .string ⟨#[]⟩, .slice a4 0 c4] 51)
    have HB5 := below_then HB4 hbE
    refine (sameArray_calls Arr.none Arr.none _ _ _ (arrAt_below ⟨_, rfl, hk4.at⟩ hbE) (arrAt_none _)).mono ?_
    rw [(Arr.same_eq Arr.none Arr.none).2 rfl]
    rintro e w9 ⟨rfl, hb9⟩
    have HB9 := Lib.hid (below_then HB5 hb9)
    clear hb9 hk4 hbE HB5 HB4
    go_wp2_with (fail)
    refine (num_calls _ _).mono ?_; rintro e w' ⟨rfl, rfl⟩
    go_wp2
    go_ret
    exact ⟨rfl, HB9.out⟩
end Go.Proofs.YtlllflacnlgigaaDoor
