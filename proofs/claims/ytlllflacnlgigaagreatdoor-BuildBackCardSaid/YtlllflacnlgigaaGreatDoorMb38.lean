/- The reference's value of a row, walked: by a dictionary. -/
import Derived.Test.YtlllflacnlgigaaGreatDoorMb34
namespace Go.Proofs.YtlllflacnlgigaaGreatDoor
open Go.RowKit
set_option linter.unusedVariables false
set_option linter.unusedSimpArgs false

theorem text_dict (ns : List Tp.Nd) (f n : Int) (v e d : Vp.Txt) (y : Arr) (i row : Nat) (h : Vp.on v row = true) : Vp.textA ns (.mk 1 f n v e d [y]) i row = Vp.rowA ns y i (Vp.num4 d row).1.toNat := by
  rw [Vp.textA, h, if_neg (by decide), if_pos rfl]
  obtain ⟨l', f', n', v', e', d', ks'⟩ := y
  rfl
/-- What a dictionary's array is. -/
theorem mayA_dict {ns : List Tp.Nd} {f n : Int} {v e d : Vp.Txt} {ks : List Arr} {i : Nat} (h : Vp.mayA ns (.mk 1 f n v e d ks) i = true) :
    ∃ y, ks = [y] ∧ e = [] ∧ Vp.mayA ns y i = true ∧ Vp.dictOk f n v d y = true := by
  rw [Vp.mayA, if_neg (by decide), if_pos rfl] at h
  simp only [Bool.and_eq_true] at h
  obtain ⟨_, h1, h2, h3⟩ := h
  unfold Vp.oneOk at h1
  simp only [Bool.and_eq_true, decide_eq_true_eq] at h1
  obtain ⟨y, rfl⟩ := List.length_eq_one_iff.1 h1.2.2.1
  refine ⟨y, rfl, h1.2.1, ?_, h3⟩
  rw [Vp.mayAll, Bool.and_eq_true] at h2
  exact h2.1
theorem dict_at {f n : Nat} {v d : Vp.Txt} {y : Arr} {row : Nat} (h : Vp.dictOk f n v d y = true) (hr : row < n) (hon : Vp.on v (f + row) = true) :
    Vp.num4 d (f + row) = (((Vp.cut4 d (f + row) : Nat) : Int), true) ∧ ((Vp.cut4 d (f + row) : Nat) : Int) < y.len ∧ 4 * (f + row) + 4 ≤ d.length := by
  unfold Vp.dictOk at h
  simp only [Bool.and_eq_true, decide_eq_true_eq] at h
  obtain ⟨_, h1, h2⟩ := h
  have h3 := (List.all_eq_true.1 h2) row (List.mem_range.2 (by omega))
  rw [Int.toNat_natCast] at h3
  unfold Vp.dictAt at h3
  rw [hon, Bool.true_and] at h3
  simp only [Bool.not_eq_true', Bool.or_eq_false_iff, Bool.not_eq_false', decide_eq_false_iff_not] at h3
  have hj := h3.1
  have key : Vp.num4 d (f + row) = (((Vp.cut4 d (f + row) : Nat) : Int), true) := by
    unfold Vp.num4 at hj ⊢
    split at hj
    · rename_i hc; rw [if_pos hc]
    · exact absurd hj (by decide)
  rw [key] at h3
  exact ⟨key, by have := h3.2; simp only at this; omega, by omega⟩
set_option maxRecDepth 100000 in
set_option maxHeartbeats 6400000 in
theorem value_dict (ns : List Tp.Nd) (f n : Nat) (v e d : Vp.Txt) (ks : List Arr) (k vv : Value) (i row : Nat) (W : World)
    (hm : Vp.mayA ns (.mk 1 f n v e d ks) i = true) (hr : row < n) (hk : KidsAt W ks k) (hn : NodesAt W vv ns) (hon : Vp.on v (f + row) = true) (ih : ∀ a ∈ ks, RefValOK ns (SizeOf.sizeOf a + 1)) :
    Calls Tryz.prog 58 #[typeV vv, .int .i64 (i : Int), arrV 1 (f : Int) (n : Int) v e d k, .int .i64 (row : Int)] W fun x w' => x = .returned (tv (Vp.rowA ns (.mk 1 f n v e d ks) i row)) ∧ Below W.heap.size W w' := by
  have HRW := Lib.hid (show Vp.rowA ns (.mk 1 f n v e d ks) i row = Vp.textA ns (.mk 1 f n v e d ks) i (f + row) from rfl)
  obtain ⟨hmy, hi, _, _, hfn, hv1, he1, hd1, hvv⟩ := mayA_nums hm
  have HKK := Lib.hid hk
  have hbk := below_alloc (below_alloc (Below.refl W.heap.size W) (.cells #[vv] 25)) (.cells #[.int .i64 1, .int .i64 (f : Int), .int .i64 (n : Int), .string ⟨v.toArray⟩, .string ⟨e.toArray⟩, .string ⟨d.toArray⟩, k] 47)
  have hn2 := hn.below hbk
  have C4 := (Below.heap_alloc (W.alloc (.cells #[vv] 25)) (.cells #[.int .i64 1, .int .i64 (f : Int), .int .i64 (n : Int), .string ⟨v.toArray⟩, .string ⟨e.toArray⟩, .string ⟨d.toArray⟩, k] 47) W.heap.size (by simp)).trans (heap_alloc_new W (.cells #[vv] 25))
  have C6 := heap_alloc_new (W.alloc (.cells #[vv] 25)) (.cells #[.int .i64 1, .int .i64 (f : Int), .int .i64 (n : Int), .string ⟨v.toArray⟩, .string ⟨e.toArray⟩, .string ⟨d.toArray⟩, k] 47)
  rw [show (W.alloc (.cells #[vv] 25)).heap.size = W.heap.size + 1 by simp] at C6
  obtain ⟨W2, hW2⟩ : ∃ W2, (W.alloc (.cells #[vv] 25)).alloc (.cells #[.int .i64 1, .int .i64 (f : Int), .int .i64 (n : Int), .string ⟨v.toArray⟩, .string ⟨e.toArray⟩, .string ⟨d.toArray⟩, k] 47) = W2 := ⟨_, rfl⟩
  rw [hW2] at hbk hn2 C4 C6
  have HK := Lib.hid (KidsAt.below hbk _ _ HKK.out)
  clear HKK
  rw [KidsAt] at hk
  obtain ⟨ka, kc, rfl, hkc1, hkc2, _⟩ := hk
  unfold maxLen at hkc2
  have HN := Lib.hid hn2
  have HB := Lib.hid hbk
  have HM := Lib.hid hm
  have hzd := mk_size d
  have q4 := cell_of_one C4
  obtain ⟨x0, x1, x2, x3, x4, x5, x6, _⟩ := zero_cells C6
  have HT := Lib.hid (fun W => there_calls 1 (f : Int) (n : Int) v e d (.slice ka ks.length kc) (f + row) W (fun h => by have := hvv h; omega) (by omega) ⟨_, _, _, rfl⟩)
  rw [show ((f + row : Nat) : Int) = (row : Int) + (f : Int) by omega] at HT
  clear hn hn2 hbk hm hvv
  go_enter Tryz.func58, Tryz.ntmps58
  go_upto_region 2 with (fail)
  clear hW2
  go_wp2_with (fail)
  refine (HT.out _).mono ?_; rintro x w3 ⟨rfl, hb3⟩
  rw [hon]
  have C4' := (hb3.block _ (lt_of_block C4)).trans C4
  have C6' := (hb3.block _ (lt_of_block C6)).trans C6
  have HN3 := Lib.hid (HN.out.below hb3)
  have HK3 := Lib.hid (KidsAt.below hb3 _ _ HK.out)
  have HB3 := HB.out.trans (hb3.mono HB.out.size)
  clear x0 x1 x2 x3 x4 x5 x6 q4 C4 C6 HN HB hb3
  have q4 := cell_of_one C4'
  obtain ⟨x0, x1, x2, x3, x4, x5, x6, _⟩ := zero_cells C6'
  obtain ⟨y, rfl, rfl, hmy2, hdo⟩ := mayA_dict HM.out
  obtain ⟨z1, z2, z3⟩ := dict_at hdo hr hon
  have HFIN := Lib.hid (show Vp.rowA ns (.mk 1 f n v [] d [y]) i row = Vp.rowA ns y i (Vp.cut4 d (f + row)) by
    rw [HRW.out, text_dict ns f n v [] d y i (f + row) hon, z1, Int.toNat_natCast])
  have HIY := Lib.hid (ih y (by simp))
  have hkk := HK3.out
  rw [KidsAt] at hkk
  obtain ⟨ka', kc', hsl, _, _, hkk⟩ := hkk
  obtain ⟨rfl, _, rfl⟩ := Value.slice.inj hsl
  obtain ⟨kb, ko, rfl, hkb, hkk⟩ := hkk (by simp)
  obtain ⟨xl, xf, xn, xv, xe, xd, xs⟩ := y
  rw [CellsAt] at hkk
  obtain ⟨⟨q0, q1, q2, q3, q4', q5, kx, q6, hkx⟩, _⟩ := hkk
  obtain ⟨kxa, kxc, rfl, _⟩ := (by rw [KidsAt] at hkx; exact hkx : ∃ a c, kx = .slice a xs.length c ∧ _)
  simp only [tv] at q3 q4' q5
  have HS := Lib.hid (show ∀ w', Below w3.heap.size w3 w' → (fun w' => (w'.cell? ⟨W.heap.size + 1, 0, none⟩ = some (.int .i64 1) ∧ w'.cell? ⟨W.heap.size + 1, 1, none⟩ = some (.int .i64 (f : Int)) ∧ w'.cell? ⟨W.heap.size + 1, 2, none⟩ = some (.int .i64 (n : Int)) ∧ w'.cell? ⟨W.heap.size + 1, 3, none⟩ = some (.string ⟨v.toArray⟩) ∧ w'.cell? ⟨W.heap.size + 1, 4, none⟩ = some (.string ⟨#[]⟩) ∧ w'.cell? ⟨W.heap.size + 1, 5, none⟩ = some (.string ⟨d.toArray⟩) ∧ w'.cell? ⟨W.heap.size + 1, 6, none⟩ = some (.slice (some ⟨kb, ko, none⟩) 1 kc)) ∧ w'.cell? ⟨W.heap.size, 0, none⟩ = some vv ∧ (w'.cell? ⟨kb, ko, none⟩ = some (.int .i64 xl) ∧ w'.cell? ⟨kb, ko + 1, none⟩ = some (.int .i64 xf) ∧ w'.cell? ⟨kb, ko + 2, none⟩ = some (.int .i64 xn) ∧ w'.cell? ⟨kb, ko + 3, none⟩ = some (.string ⟨xv.toArray⟩) ∧ w'.cell? ⟨kb, ko + 4, none⟩ = some (.string ⟨xe.toArray⟩) ∧ w'.cell? ⟨kb, ko + 5, none⟩ = some (.string ⟨xd.toArray⟩) ∧ w'.cell? ⟨kb, ko + 6, none⟩ = some (.slice kxa xs.length kxc)) ∧ Below w3.heap.size w3 w') w' from fun w' h => ⟨(box7 C6' h).1, (h.cell (p := ⟨W.heap.size, 0, none⟩) (lt_of_block C4')).trans q4,
    ⟨(h.cell (p := ⟨kb, _, none⟩) hkb).trans q0, (h.cell (p := ⟨kb, _, none⟩) hkb).trans q1, (h.cell (p := ⟨kb, _, none⟩) hkb).trans q2, (h.cell (p := ⟨kb, _, none⟩) hkb).trans q3, (h.cell (p := ⟨kb, _, none⟩) hkb).trans q4', (h.cell (p := ⟨kb, _, none⟩) hkb).trans q5, (h.cell (p := ⟨kb, _, none⟩) hkb).trans q6⟩, h⟩)
  have HCN := Lib.hid (fun W => (cutNum_calls d (f + row) W).mono fun _ _ h => show _ ∧ W = _ from ⟨h.1, h.2.symm⟩)
  have hlt : Vp.cut4 d (f + row) < xn.toNat := by
    have e : (Arr.mk xl xf xn xv xe xd xs).len = xn := rfl
    rw [e] at z2
    omega
  have HV := Lib.hid (fun w' (h : Below w3.heap.size w3 w') => HIY.out (.mk xl xf xn xv xe xd xs) i (Vp.cut4 d (f + row)) (arrV xl xf xn xv xe xd (.slice kxa xs.length kxc)) vv w' (Nat.lt_succ_self _) hmy2 hlt ⟨_, rfl, KidsAt.below h _ _ hkx⟩ (HN3.out.below h))
  generalize Vp.cut4 d (f + row) = X at HCN HV HFIN
  obtain ⟨R, hR⟩ : ∃ R : Nat, f + row = R := ⟨_, rfl⟩
  have hRi : (row : Int) + (f : Int) = (R : Int) := by omega
  rw [hR] at z3 HCN
  have g1 : 4 * (R : Int) + 4 ≤ (d.length : Int) := by omega
  have g3 : (0 : Int) ≤ 4 * (R : Int) := by omega
  have g4 : 4 * (R : Int) ≤ 4 * (R : Int) + 4 := by omega
  have g5 : (0 : Int) ≤ 4 * (R : Int) + 4 := by omega
  have u1 : IntKind.i64.wrap (4 * (R : Int)) = 4 * (R : Int) := by rw [IntKind.wrap_i64]; omega
  have u2 : IntKind.i64.wrap (4 * (R : Int) + 4) = 4 * (R : Int) + 4 := by rw [IntKind.wrap_i64]; omega
  have t1 : (4 * (R : Int)).toNat = 4 * R := by omega
  have t2 : (4 * (R : Int) + 4).toNat = 4 * R + 4 := by omega
  have HBR := Below.refl w3.heap.size w3
  clear HRW HIY HT hR hon hdo z1 z2 hsl hlt
  go_upto_region 5 with (fail)
  clear x0 x1 x2 x3 x4 x5 x6 q0 q1 q2 q3 q4' q5 q6 q4 HM HK3
  refine wp_region_held_drew (S := (fun w' => (w'.cell? ⟨W.heap.size + 1, 0, none⟩ = some (.int .i64 1) ∧ w'.cell? ⟨W.heap.size + 1, 1, none⟩ = some (.int .i64 (f : Int)) ∧ w'.cell? ⟨W.heap.size + 1, 2, none⟩ = some (.int .i64 (n : Int)) ∧ w'.cell? ⟨W.heap.size + 1, 3, none⟩ = some (.string ⟨v.toArray⟩) ∧ w'.cell? ⟨W.heap.size + 1, 4, none⟩ = some (.string ⟨#[]⟩) ∧ w'.cell? ⟨W.heap.size + 1, 5, none⟩ = some (.string ⟨d.toArray⟩) ∧ w'.cell? ⟨W.heap.size + 1, 6, none⟩ = some (.slice (some ⟨kb, ko, none⟩) 1 kc)) ∧ w'.cell? ⟨W.heap.size, 0, none⟩ = some vv ∧ (w'.cell? ⟨kb, ko, none⟩ = some (.int .i64 xl) ∧ w'.cell? ⟨kb, ko + 1, none⟩ = some (.int .i64 xf) ∧ w'.cell? ⟨kb, ko + 2, none⟩ = some (.int .i64 xn) ∧ w'.cell? ⟨kb, ko + 3, none⟩ = some (.string ⟨xv.toArray⟩) ∧ w'.cell? ⟨kb, ko + 4, none⟩ = some (.string ⟨xe.toArray⟩) ∧ w'.cell? ⟨kb, ko + 5, none⟩ = some (.string ⟨xd.toArray⟩) ∧ w'.cell? ⟨kb, ko + 6, none⟩ = some (.slice kxa xs.length kxc)) ∧ Below w3.heap.size w3 w')) (by kernel_rfl) (HS.out _ (below_drew HBR)) (fun hHeld => ?_)
  refine wpAnyH_take (i := 0) (v := ?_) rfl (by kernel_rfl) (by kernel_rfl) (by kernel_rfl) (fun _ _ _ h => h) (Or.inl ⟨by rfl, ?_⟩) (by assumption) ?_; rotate_left; (focus (intro w hSw; (try dsimp only at hSw); go_simp; try with_reducible rfl))
  (try simp only [Act.put, List.getElem_toArray, List.getElem_cons_zero, List.getElem_cons_succ, List.setIfInBounds_toArray, List.set_cons_zero, List.set_cons_succ, List.size_toArray, List.length_cons, List.length_nil])
  refine wpAnyH_take (i := 1) (v := ?_) rfl (by kernel_rfl) (by kernel_rfl) (by kernel_rfl) (fun _ _ _ h => h) (Or.inl ⟨by rfl, ?_⟩) (by assumption) ?_; rotate_left; (focus (intro w hSw; (try dsimp only at hSw); go_simp; try with_reducible rfl))
  (try simp only [Act.put, List.getElem_toArray, List.getElem_cons_zero, List.getElem_cons_succ, List.setIfInBounds_toArray, List.set_cons_zero, List.set_cons_succ, List.size_toArray, List.length_cons, List.length_nil])
  refine wpAnyH_take (i := 2) (v := ?_) rfl (by kernel_rfl) (by kernel_rfl) (by kernel_rfl) (fun _ _ _ h => h) (Or.inl ⟨by rfl, ?_⟩) (by assumption) ?_; rotate_left; (focus (intro w hSw; (try dsimp only at hSw); go_simp; try with_reducible rfl))
  (try simp only [Act.put, List.getElem_toArray, List.getElem_cons_zero, List.getElem_cons_succ, List.setIfInBounds_toArray, List.set_cons_zero, List.set_cons_succ, List.size_toArray, List.length_cons, List.length_nil])
  refine wpAnyH_take (i := 3) (v := ?_) rfl (by kernel_rfl) (by kernel_rfl) (by kernel_rfl) (fun _ _ _ h => h) (Or.inl ⟨by rfl, ?_⟩) (by assumption) ?_; rotate_left; (focus (intro w hSw; (try dsimp only at hSw); go_simp; try with_reducible rfl))
  (try simp only [Act.put, List.getElem_toArray, List.getElem_cons_zero, List.getElem_cons_succ, List.setIfInBounds_toArray, List.set_cons_zero, List.set_cons_succ, List.size_toArray, List.length_cons, List.length_nil])
  refine wpAnyH_take (i := 4) (v := ?_) rfl (by kernel_rfl) (by kernel_rfl) (by kernel_rfl) (fun _ _ _ h => h) (Or.inl ⟨by rfl, ?_⟩) (by assumption) ?_; rotate_left; (focus (intro w hSw; (try dsimp only at hSw); go_simp; try with_reducible rfl))
  (try simp only [Act.put, List.getElem_toArray, List.getElem_cons_zero, List.getElem_cons_succ, List.setIfInBounds_toArray, List.set_cons_zero, List.set_cons_succ, List.size_toArray, List.length_cons, List.length_nil])
  refine wpAnyH_take (i := 5) (v := ?_) rfl (by kernel_rfl) (by kernel_rfl) (by kernel_rfl) (fun _ _ _ h => h) (Or.inl ⟨by rfl, ?_⟩) (by assumption) ?_; rotate_left; (focus (intro w hSw; (try dsimp only at hSw); go_simp; try with_reducible rfl))
  (try simp only [Act.put, List.getElem_toArray, List.getElem_cons_zero, List.getElem_cons_succ, List.setIfInBounds_toArray, List.set_cons_zero, List.set_cons_succ, List.size_toArray, List.length_cons, List.length_nil])
  refine wpAnyH_take (i := 6) (v := ?_) rfl (by kernel_rfl) (by kernel_rfl) (by kernel_rfl) (fun _ _ _ h => h) (Or.inl ⟨by rfl, ?_⟩) (by assumption) ?_; rotate_left; (focus (intro w hSw; (try dsimp only at hSw); go_simp; try with_reducible rfl))
  (try simp only [Act.put, List.getElem_toArray, List.getElem_cons_zero, List.getElem_cons_succ, List.setIfInBounds_toArray, List.set_cons_zero, List.set_cons_succ, List.size_toArray, List.length_cons, List.length_nil])
  refine wpAnyH_take (i := 7) (v := ?_) rfl (by kernel_rfl) (by kernel_rfl) (by kernel_rfl) (fun _ _ _ h => h) (Or.inl ⟨by rfl, ?_⟩) (by assumption) ?_; rotate_left; (focus (intro w hSw; (try dsimp only at hSw); go_simp; try with_reducible rfl))
  (try simp only [Act.put, List.getElem_toArray, List.getElem_cons_zero, List.getElem_cons_succ, List.setIfInBounds_toArray, List.set_cons_zero, List.set_cons_succ, List.size_toArray, List.length_cons, List.length_nil])
  refine wpAnyH_take (i := 8) (v := ?_) rfl (by kernel_rfl) (by kernel_rfl) (by kernel_rfl) (fun _ _ _ h => h) (Or.inl ⟨by rfl, ?_⟩) (by assumption) ?_; rotate_left; (focus (intro w hSw; (try dsimp only at hSw); go_simp; try with_reducible rfl))
  (try simp only [Act.put, List.getElem_toArray, List.getElem_cons_zero, List.getElem_cons_succ, List.setIfInBounds_toArray, List.set_cons_zero, List.set_cons_succ, List.size_toArray, List.length_cons, List.length_nil])
  refine wpAnyH_take (i := 9) (v := ?_) rfl (by kernel_rfl) (by kernel_rfl) (by kernel_rfl) (fun _ _ _ h => h) (Or.inl ⟨by rfl, ?_⟩) (by assumption) ?_; rotate_left; (focus (intro w hSw; (try dsimp only at hSw); go_simp; try with_reducible rfl))
  (try simp only [Act.put, List.getElem_toArray, List.getElem_cons_zero, List.getElem_cons_succ, List.setIfInBounds_toArray, List.set_cons_zero, List.set_cons_succ, List.size_toArray, List.length_cons, List.length_nil])
  refine wpAnyH_take (i := 10) (v := ?_) rfl (by kernel_rfl) (by kernel_rfl) (by kernel_rfl) (fun _ _ _ h => h) (Or.inl ⟨by rfl, ?_⟩) (by assumption) ?_; rotate_left; (focus (intro w hSw; (try dsimp only at hSw); go_simp; try with_reducible rfl))
  (try simp only [Act.put, List.getElem_toArray, List.getElem_cons_zero, List.getElem_cons_succ, List.setIfInBounds_toArray, List.set_cons_zero, List.set_cons_succ, List.size_toArray, List.length_cons, List.length_nil])
  refine wpAnyH_take (i := 11) (v := ?_) rfl (by kernel_rfl) (by kernel_rfl) (by kernel_rfl) (fun _ _ _ h => h) (Or.inl ⟨by rfl, ?_⟩) (by assumption) ?_; rotate_left; (focus (intro w hSw; (try dsimp only at hSw); go_simp; try with_reducible rfl))
  (try simp only [Act.put, List.getElem_toArray, List.getElem_cons_zero, List.getElem_cons_succ, List.setIfInBounds_toArray, List.set_cons_zero, List.set_cons_succ, List.size_toArray, List.length_cons, List.length_nil])
  refine wpAnyH_take (i := 12) (v := ?_) rfl (by kernel_rfl) (by kernel_rfl) (by kernel_rfl) (fun _ _ _ h => h) (Or.inl ⟨by rfl, ?_⟩) (by assumption) ?_; rotate_left; (focus (intro w hSw; (try dsimp only at hSw); go_simp; try with_reducible rfl))
  (try simp only [Act.put, List.getElem_toArray, List.getElem_cons_zero, List.getElem_cons_succ, List.setIfInBounds_toArray, List.set_cons_zero, List.set_cons_succ, List.size_toArray, List.length_cons, List.length_nil])
  refine wpAnyH_take (i := 13) (v := ?_) rfl (by kernel_rfl) (by kernel_rfl) (by kernel_rfl) (fun _ _ _ h => h) (Or.inl ⟨by rfl, ?_⟩) (by assumption) ?_; rotate_left; (focus (intro w hSw; (try dsimp only at hSw); go_simp; try with_reducible rfl))
  (try simp only [Act.put, List.getElem_toArray, List.getElem_cons_zero, List.getElem_cons_succ, List.setIfInBounds_toArray, List.set_cons_zero, List.set_cons_succ, List.size_toArray, List.length_cons, List.length_nil])
  refine wpAnyH_ready (rs := [14]) (by kernel_rfl) (by simp) ?_
  refine AllReadyH.cons rfl (fun K hK => ?_) AllReadyH.nil
  go_simp
  go_at_call 92; with_reducible refine (HCN.out _).mono ?_; rintro y' w' ⟨rfl, rfl⟩; have HX4 := hHeld.2.2.2
  clear hHeld
  refine hK.out _ _ (HS.out _ HX4) (fun hHeld => ?_)
  clear hK K
  (try simp only [Act.put, List.getElem_toArray, List.getElem_cons_zero, List.getElem_cons_succ, List.setIfInBounds_toArray, List.set_cons_zero, List.set_cons_succ, List.size_toArray, List.length_cons, List.length_nil])
  refine wpAnyH_ready (rs := [15]) (by kernel_rfl) (by simp) ?_
  refine AllReadyH.cons rfl (fun K hK => ?_) AllReadyH.nil
  go_simp
  go_at_call 58; refine (HV.out _ hHeld.2.2.2).mono ?_; rintro y' w4 ⟨rfl, hb4⟩; have HX4 := below_then hHeld.2.2.2 hb4
  clear hHeld
  refine hK.out _ _ (HS.out _ HX4) (fun hHeld => ?_)
  clear hK K
  (try simp only [Act.put, List.getElem_toArray, List.getElem_cons_zero, List.getElem_cons_succ, List.setIfInBounds_toArray, List.set_cons_zero, List.set_cons_succ, List.size_toArray, List.length_cons, List.length_nil])
  refine wpAnyH_take (i := 16) (v := ?_) rfl (by kernel_rfl) (by kernel_rfl) (by kernel_rfl) (fun _ _ _ h => h) (Or.inl ⟨by rfl, ?_⟩) (by assumption) ?_; rotate_left; (focus (intro w hSw; (try dsimp only at hSw); go_simp; try with_reducible rfl))
  (try simp only [Act.put, List.getElem_toArray, List.getElem_cons_zero, List.getElem_cons_succ, List.setIfInBounds_toArray, List.set_cons_zero, List.set_cons_succ, List.size_toArray, List.length_cons, List.length_nil])
  refine wpAnyH_done (by kernel_rfl) ?_ _
  go_wp2
  go_ret
  exact ⟨by rw [HFIN.out]; rfl, HB3.trans (HX4.mono HB3.size)⟩
end Go.Proofs.YtlllflacnlgigaaGreatDoor
