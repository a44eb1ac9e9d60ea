/- Several texts in one: RefValB, RefValC, RefValG. -/
import Derived.Test.YtobhjlchpnpleaaGreatDoorCa13
import Derived.Test.YtobhjlchpnpleaaGreatDoorCa32
import Derived.Test.YtobhjlchpnpleaaGreatDoorCa33
/- The reference's value of a row, walked: by a dictionary. -/
namespace Go.Proofs.YtobhjlchpnpleaaGreatDoor
open Go.RowKit
set_option linter.unusedVariables false
set_option linter.unusedSimpArgs false

set_option maxRecDepth 100000 in
set_option maxHeartbeats 6400000 in
theorem value_dict (ns : List Tp.Nd) (f n : Nat) (v e d : Vp.Txt) (ks : List Arr) (k vv : Value) (i row : Nat) (W : World)
  (hm : Vp.mayA ns (.mk 1 f n v e d ks) i = true) (hr : row < n) (hk : KidsAt W ks k) (hn : NodesAt W vv ns) (hon : Vp.on v (f + row) = true) (ih : ∀ a ∈ ks, RefValOK ns (SizeOf.sizeOf a + 1)) :
  Calls Tryz.prog 41 #[typeV vv, .int .i64 (i : Int), arrV 1 (f : Int) (n : Int) v e d k, .int .i64 (row : Int)] W fun x w' => x = .returned (tv (Vp.rowA ns (.mk 1 f n v e d ks) i row)) ∧ Below W.heap.size W w' := by
 have HRW := Lib.hid (show Vp.rowA ns (.mk 1 f n v e d ks) i row = Vp.textA ns (.mk 1 f n v e d ks) i (f + row) from rfl)
 obtain ⟨hmy, hi, _, _, hfn, hv1, he1, hd1, hvv⟩ := mayA_nums hm
 have HKK := Lib.hid hk
 have hbk := below_alloc (below_alloc (Below.refl W.heap.size W) (.cells #[vv] 24)) (.cells #[.int .i64 1, .int .i64 (f : Int), .int .i64 (n : Int), .string ⟨v.toArray⟩, .string ⟨e.toArray⟩, .string ⟨d.toArray⟩, k] 27)
 have hn2 := hn.below hbk
 have C4 := (Below.heap_alloc (W.alloc (.cells #[vv] 24)) (.cells #[.int .i64 1, .int .i64 (f : Int), .int .i64 (n : Int), .string ⟨v.toArray⟩, .string ⟨e.toArray⟩, .string ⟨d.toArray⟩, k] 27) W.heap.size (by simp)).trans (heap_alloc_new W (.cells #[vv] 24))
 have C6 := heap_alloc_new (W.alloc (.cells #[vv] 24)) (.cells #[.int .i64 1, .int .i64 (f : Int), .int .i64 (n : Int), .string ⟨v.toArray⟩, .string ⟨e.toArray⟩, .string ⟨d.toArray⟩, k] 27)
 rw [show (W.alloc (.cells #[vv] 24)).heap.size = W.heap.size + 1 by simp] at C6
 obtain ⟨W2, hW2⟩ : ∃ W2, (W.alloc (.cells #[vv] 24)).alloc (.cells #[.int .i64 1, .int .i64 (f : Int), .int .i64 (n : Int), .string ⟨v.toArray⟩, .string ⟨e.toArray⟩, .string ⟨d.toArray⟩, k] 27) = W2 := ⟨_, rfl⟩
 rw [hW2] at hbk hn2 C4 C6
 have HK := Lib.hid (KidsAt.below hbk _ _ HKK.out)
 clear HKK
 rw [KidsAt] at hk
 obtain ⟨ka, kc, rfl, hkc1, hkc2, _⟩ := hk
 unfold maxLen at hkc2
 have HN := Lib.hid hn2
 have HB := Lib.hid hbk
 have HM := Lib.hid hm
 have hzd := mk_size d
 have q4 := cell_of_one C4
 obtain ⟨x0, x1, x2, x3, x4, x5, x6, _⟩ := zero_cells C6
 have HT := Lib.hid (fun W => there_calls 1 (f : Int) (n : Int) v e d (.slice ka ks.length kc) (f + row) W (fun h => by have := hvv h; omega) (by omega) ⟨_, _, _, rfl⟩)
 rw [show ((f + row : Nat) : Int) = (row : Int) + (f : Int) by omega] at HT
 clear hn hn2 hbk hm hvv
 go_enter Tryz.func41, Tryz.ntmps41
 go_upto_region 2 with (fail)
 clear hW2
 go_wp2_with (fail)
 refine (HT.out _).mono ?_; rintro x w3 ⟨rfl, hb3⟩
 rw [hon]
 have C4' := (hb3.block _ (lt_of_block C4)).trans C4
 have C6' := (hb3.block _ (lt_of_block C6)).trans C6
 have HN3 := Lib.hid (HN.out.below hb3)
 have HK3 := Lib.hid (KidsAt.below hb3 _ _ HK.out)
 have HB3 := HB.out.trans (hb3.mono HB.out.size)
 clear x0 x1 x2 x3 x4 x5 x6 q4 C4 C6 HN HB hb3
 have q4 := cell_of_one C4'
 obtain ⟨x0, x1, x2, x3, x4, x5, x6, _⟩ := zero_cells C6'
 obtain ⟨y, rfl, rfl, hmy2, hdo⟩ := mayA_dict HM.out
 obtain ⟨z1, z2, z3⟩ := dict_at hdo hr hon
 have HFIN := Lib.hid (show Vp.rowA ns (.mk 1 f n v [] d [y]) i row = Vp.rowA ns y i (Vp.cut4 d (f + row)) by
  rw [HRW.out, text_dict ns f n v [] d y i (f + row) hon, z1, Int.toNat_natCast])
 have HIY := Lib.hid (ih y (by simp))
 have hkk := HK3.out
 rw [KidsAt] at hkk
 obtain ⟨ka', kc', hsl, _, _, hkk⟩ := hkk
 obtain ⟨rfl, _, rfl⟩ := Value.slice.inj hsl
 obtain ⟨kb, ko, rfl, hkb, hkk⟩ := hkk (by simp)
 obtain ⟨xl, xf, xn, xv, xe, xd, xs⟩ := y
 rw [CellsAt] at hkk
 obtain ⟨⟨q0, q1, q2, q3, q4', q5, kx, q6, hkx⟩, _⟩ := hkk
 obtain ⟨kxa, kxc, rfl, _⟩ := (by rw [KidsAt] at hkx; exact hkx : ∃ a c, kx = .slice a xs.length c ∧ _)
 simp only [tv] at q3 q4' q5
 have HS := Lib.hid (show ∀ w', Below w3.heap.size w3 w' → (fun w' => (w'.cell? ⟨W.heap.size + 1, 0, none⟩ = some (.int .i64 1) ∧ w'.cell? ⟨W.heap.size + 1, 1, none⟩ = some (.int .i64 (f : Int)) ∧ w'.cell? ⟨W.heap.size + 1, 2, none⟩ = some (.int .i64 (n : Int)) ∧ w'.cell? ⟨W.heap.size + 1, 3, none⟩ = some (.string ⟨v.toArray⟩) ∧ w'.cell? ⟨W.heap.size + 1, 4, none⟩ = some (.string ⟨#[]⟩) ∧ w'.cell? ⟨W.heap.size + 1, 5, none⟩ = some (.string ⟨d.toArray⟩) ∧ w'.cell? ⟨W.heap.size + 1, 6, none⟩ = some (.slice (some ⟨kb, ko, none⟩) 1 kc)) ∧ w'.cell? ⟨W.heap.size, 0, none⟩ = some vv ∧ (w'.cell? ⟨kb, ko, none⟩ = some (.int .i64 xl) ∧ w'.cell? ⟨kb, ko + 1, none⟩ = some (.int .i64 xf) ∧ w'.cell? ⟨kb, ko + 2, none⟩ = some (.int .i64 xn) ∧ w'.cell? ⟨kb, ko + 3, none⟩ = some (.string ⟨xv.toArray⟩) ∧ w'.cell? ⟨kb, ko + 4, none⟩ = some (.string ⟨xe.toArray⟩) ∧ w'.cell? ⟨kb, ko + 5, none⟩ = some (.string ⟨xd.toArray⟩) ∧ w'.cell? ⟨kb, ko + 6, none⟩ = some (.slice kxa xs.length kxc)) ∧ Below w3.heap.size w3 w') w' from fun w' h => ⟨(box7 C6' h).1, (h.cell (p := ⟨W.heap.size, 0, none⟩) (lt_of_block C4')).trans q4,
  ⟨(h.cell (p := ⟨kb, _, none⟩) hkb).trans q0, (h.cell (p := ⟨kb, _, none⟩) hkb).trans q1, (h.cell (p := ⟨kb, _, none⟩) hkb).trans q2, (h.cell (p := ⟨kb, _, none⟩) hkb).trans q3, (h.cell (p := ⟨kb, _, none⟩) hkb).trans q4', (h.cell (p := ⟨kb, _, none⟩) hkb).trans q5, (h.cell (p := ⟨kb, _, none⟩) hkb).trans q6⟩, h⟩)
 have HCN := Lib.hid (fun W => (cutNum_calls d (f + row) W).mono fun _ _ h => show _ ∧ W = _ from ⟨h.1, h.2.symm⟩)
 have hlt : Vp.cut4 d (f + row) < xn.toNat := by
  have e : (Arr.mk xl xf xn xv xe xd xs).len = xn := rfl
  rw [e] at z2
  omega
 have HV := Lib.hid (fun w' (h : Below w3.heap.size w3 w') => HIY.out (.mk xl xf xn xv xe xd xs) i (Vp.cut4 d (f + row)) (arrV xl xf xn xv xe xd (.slice kxa xs.length kxc)) vv w' (Nat.lt_succ_self _) hmy2 hlt ⟨_, rfl, KidsAt.below h _ _ hkx⟩ (HN3.out.below h))
 generalize Vp.cut4 d (f + row) = X at HCN HV HFIN
 obtain ⟨R, hR⟩ : ∃ R : Nat, f + row = R := ⟨_, rfl⟩
 have hRi : (row : Int) + (f : Int) = (R : Int) := by omega
 rw [hR] at z3 HCN
 have g1 : 4 * (R : Int) + 4 ≤ (d.length : Int) := by omega
 have g3 : (0 : Int) ≤ 4 * (R : Int) := by omega
 have g4 : 4 * (R : Int) ≤ 4 * (R : Int) + 4 := by omega
 have g5 : (0 : Int) ≤ 4 * (R : Int) + 4 := by omega
 have u1 : IntKind.i64.wrap (4 * (R : Int)) = 4 * (R : Int) := by rw [IntKind.wrap_i64]; omega
 have u2 : IntKind.i64.wrap (4 * (R : Int) + 4) = 4 * (R : Int) + 4 := by rw [IntKind.wrap_i64]; omega
 have t1 : (4 * (R : Int)).toNat = 4 * R := by omega
 have t2 : (4 * (R : Int) + 4).toNat = 4 * R + 4 := by omega
 have HBR := Below.refl w3.heap.size w3
 clear HRW HIY HT hR hon hdo z1 z2 hsl hlt
 go_upto_region 5 with (fail)
 clear x0 x1 x2 x3 x4 x5 x6 q0 q1 q2 q3 q4' q5 q6 q4 HM HK3
 refine wp_region_held_drew (S := (fun w' => (w'.cell? ⟨W.heap.size + 1, 0, none⟩ = some (.int .i64 1) ∧ w'.cell? ⟨W.heap.size + 1, 1, none⟩ = some (.int .i64 (f : Int)) ∧ w'.cell? ⟨W.heap.size + 1, 2, none⟩ = some (.int .i64 (n : Int)) ∧ w'.cell? ⟨W.heap.size + 1, 3, none⟩ = some (.string ⟨v.toArray⟩) ∧ w'.cell? ⟨W.heap.size + 1, 4, none⟩ = some (.string ⟨#[]⟩) ∧ w'.cell? ⟨W.heap.size + 1, 5, none⟩ = some (.string ⟨d.toArray⟩) ∧ w'.cell? ⟨W.heap.size + 1, 6, none⟩ = some (.slice (some ⟨kb, ko, none⟩) 1 kc)) ∧ w'.cell? ⟨W.heap.size, 0, none⟩ = some vv ∧ (w'.cell? ⟨kb, ko, none⟩ = some (.int .i64 xl) ∧ w'.cell? ⟨kb, ko + 1, none⟩ = some (.int .i64 xf) ∧ w'.cell? ⟨kb, ko + 2, none⟩ = some (.int .i64 xn) ∧ w'.cell? ⟨kb, ko + 3, none⟩ = some (.string ⟨xv.toArray⟩) ∧ w'.cell? ⟨kb, ko + 4, none⟩ = some (.string ⟨xe.toArray⟩) ∧ w'.cell? ⟨kb, ko + 5, none⟩ = some (.string ⟨xd.toArray⟩) ∧ w'.cell? ⟨kb, ko + 6, none⟩ = some (.slice kxa xs.length kxc)) ∧ Below w3.heap.size w3 w')) (by kernel_rfl) (HS.out _ (below_drew HBR)) (fun hHeld => ?_)
 refine tk 0 (v := ?_) rfl (fun _ _ _ h => h) (Or.inl ⟨by rfl, ?_⟩) (by assumption) ?_; rotate_left; focus (intro w hSw; (try dsimp only at hSw); go_simp; try with_reducible rfl)
 (try simp only [sx])
 refine tk 1 (v := ?_) rfl (fun _ _ _ h => h) (Or.inl ⟨by rfl, ?_⟩) (by assumption) ?_; rotate_left; focus (intro w hSw; (try dsimp only at hSw); go_simp; try with_reducible rfl)
 (try simp only [sx])
 refine tk 2 (v := ?_) rfl (fun _ _ _ h => h) (Or.inl ⟨by rfl, ?_⟩) (by assumption) ?_; rotate_left; focus (intro w hSw; (try dsimp only at hSw); go_simp; try with_reducible rfl)
 (try simp only [sx])
 refine tk 3 (v := ?_) rfl (fun _ _ _ h => h) (Or.inl ⟨by rfl, ?_⟩) (by assumption) ?_; rotate_left; focus (intro w hSw; (try dsimp only at hSw); go_simp; try with_reducible rfl)
 (try simp only [sx])
 refine tk 4 (v := ?_) rfl (fun _ _ _ h => h) (Or.inl ⟨by rfl, ?_⟩) (by assumption) ?_; rotate_left; focus (intro w hSw; (try dsimp only at hSw); go_simp; try with_reducible rfl)
 (try simp only [sx])
 refine tk 5 (v := ?_) rfl (fun _ _ _ h => h) (Or.inl ⟨by rfl, ?_⟩) (by assumption) ?_; rotate_left; focus (intro w hSw; (try dsimp only at hSw); go_simp; try with_reducible rfl)
 (try simp only [sx])
 refine tk 6 (v := ?_) rfl (fun _ _ _ h => h) (Or.inl ⟨by rfl, ?_⟩) (by assumption) ?_; rotate_left; focus (intro w hSw; (try dsimp only at hSw); go_simp; try with_reducible rfl)
 (try simp only [sx])
 refine tk 7 (v := ?_) rfl (fun _ _ _ h => h) (Or.inl ⟨by rfl, ?_⟩) (by assumption) ?_; rotate_left; focus (intro w hSw; (try dsimp only at hSw); go_simp; try with_reducible rfl)
 (try simp only [sx])
 refine tk 8 (v := ?_) rfl (fun _ _ _ h => h) (Or.inl ⟨by rfl, ?_⟩) (by assumption) ?_; rotate_left; focus (intro w hSw; (try dsimp only at hSw); go_simp; try with_reducible rfl)
 (try simp only [sx])
 refine tk 9 (v := ?_) rfl (fun _ _ _ h => h) (Or.inl ⟨by rfl, ?_⟩) (by assumption) ?_; rotate_left; focus (intro w hSw; (try dsimp only at hSw); go_simp; try with_reducible rfl)
 (try simp only [sx])
 refine tk 10 (v := ?_) rfl (fun _ _ _ h => h) (Or.inl ⟨by rfl, ?_⟩) (by assumption) ?_; rotate_left; focus (intro w hSw; (try dsimp only at hSw); go_simp; try with_reducible rfl)
 (try simp only [sx])
 refine tk 11 (v := ?_) rfl (fun _ _ _ h => h) (Or.inl ⟨by rfl, ?_⟩) (by assumption) ?_; rotate_left; focus (intro w hSw; (try dsimp only at hSw); go_simp; try with_reducible rfl)
 (try simp only [sx])
 refine tk 12 (v := ?_) rfl (fun _ _ _ h => h) (Or.inl ⟨by rfl, ?_⟩) (by assumption) ?_; rotate_left; focus (intro w hSw; (try dsimp only at hSw); go_simp; try with_reducible rfl)
 (try simp only [sx])
 refine tk 13 (v := ?_) rfl (fun _ _ _ h => h) (Or.inl ⟨by rfl, ?_⟩) (by assumption) ?_; rotate_left; focus (intro w hSw; (try dsimp only at hSw); go_simp; try with_reducible rfl)
 (try simp only [sx])
 refine wpAnyH_ready (rs := [14]) (by kernel_rfl) (by simp) ?_
 refine AllReadyH.cons rfl (fun K hK => ?_) AllReadyH.nil
 go_simp
 go_at_call 63; with_reducible refine (HCN.out _).mono ?_; rintro y' w' ⟨rfl, rfl⟩; have HX4 := hHeld.2.2.2
 clear hHeld
 refine hK.out _ _ (HS.out _ HX4) (fun hHeld => ?_)
 clear hK K
 (try simp only [sx])
 refine wpAnyH_ready (rs := [15]) (by kernel_rfl) (by simp) ?_
 refine AllReadyH.cons rfl (fun K hK => ?_) AllReadyH.nil
 go_simp
 go_at_call 41; refine (HV.out _ hHeld.2.2.2).mono ?_; rintro y' w4 ⟨rfl, hb4⟩; have HX4 := below_then hHeld.2.2.2 hb4
 clear hHeld
 refine hK.out _ _ (HS.out _ HX4) (fun hHeld => ?_)
 clear hK K
 (try simp only [sx])
 refine tk 16 (v := ?_) rfl (fun _ _ _ h => h) (Or.inl ⟨by rfl, ?_⟩) (by assumption) ?_; rotate_left; focus (intro w hSw; (try dsimp only at hSw); go_simp; try with_reducible rfl)
 (try simp only [sx])
 refine wpAnyH_done (by kernel_rfl) ?_ _
 go_wp2
 go_ret
 exact ⟨by rw [HFIN.out]; rfl, HB3.trans (HX4.mono HB3.size)⟩
end Go.Proofs.YtobhjlchpnpleaaGreatDoor

/- The reference's value of a row, walked: by runs. -/
namespace Go.Proofs.YtobhjlchpnpleaaGreatDoor
open Go.RowKit
set_option linter.unusedVariables false
set_option linter.unusedSimpArgs false

set_option maxRecDepth 100000 in
set_option maxHeartbeats 6400000 in
theorem value_run (ns : List Tp.Nd) (f n : Nat) (v e d : Vp.Txt) (ks : List Arr) (k vv : Value) (i row : Nat) (W : World)
  (hm : Vp.mayA ns (.mk 2 f n v e d ks) i = true) (hr : row < n) (hk : KidsAt W ks k) (hn : NodesAt W vv ns) (hon : Vp.on v (f + row) = true) (ih : ∀ a ∈ ks, RefValOK ns (SizeOf.sizeOf a + 1)) :
  Calls Tryz.prog 41 #[typeV vv, .int .i64 (i : Int), arrV 2 (f : Int) (n : Int) v e d k, .int .i64 (row : Int)] W fun x w' => x = .returned (tv (Vp.rowA ns (.mk 2 f n v e d ks) i row)) ∧ Below W.heap.size W w' := by
 have HRW := Lib.hid (show Vp.rowA ns (.mk 2 f n v e d ks) i row = Vp.textA ns (.mk 2 f n v e d ks) i (f + row) from rfl)
 obtain ⟨hmy, hi, _, _, hfn, hv1, he1, hd1, hvv⟩ := mayA_nums hm
 have HKK := Lib.hid hk
 have hbk := below_alloc (below_alloc (Below.refl W.heap.size W) (.cells #[vv] 24)) (.cells #[.int .i64 2, .int .i64 (f : Int), .int .i64 (n : Int), .string ⟨v.toArray⟩, .string ⟨e.toArray⟩, .string ⟨d.toArray⟩, k] 27)
 have hn2 := hn.below hbk
 have C4 := (Below.heap_alloc (W.alloc (.cells #[vv] 24)) (.cells #[.int .i64 2, .int .i64 (f : Int), .int .i64 (n : Int), .string ⟨v.toArray⟩, .string ⟨e.toArray⟩, .string ⟨d.toArray⟩, k] 27) W.heap.size (by simp)).trans (heap_alloc_new W (.cells #[vv] 24))
 have C6 := heap_alloc_new (W.alloc (.cells #[vv] 24)) (.cells #[.int .i64 2, .int .i64 (f : Int), .int .i64 (n : Int), .string ⟨v.toArray⟩, .string ⟨e.toArray⟩, .string ⟨d.toArray⟩, k] 27)
 rw [show (W.alloc (.cells #[vv] 24)).heap.size = W.heap.size + 1 by simp] at C6
 obtain ⟨W2, hW2⟩ : ∃ W2, (W.alloc (.cells #[vv] 24)).alloc (.cells #[.int .i64 2, .int .i64 (f : Int), .int .i64 (n : Int), .string ⟨v.toArray⟩, .string ⟨e.toArray⟩, .string ⟨d.toArray⟩, k] 27) = W2 := ⟨_, rfl⟩
 rw [hW2] at hbk hn2 C4 C6
 have HK := Lib.hid (KidsAt.below hbk _ _ HKK.out)
 clear HKK
 rw [KidsAt] at hk
 obtain ⟨ka, kc, rfl, hkc1, hkc2, _⟩ := hk
 unfold maxLen at hkc2
 have HN := Lib.hid hn2
 have HB := Lib.hid hbk
 have HM := Lib.hid hm
 have hzd := mk_size d
 have q4 := cell_of_one C4
 obtain ⟨x0, x1, x2, x3, x4, x5, x6, _⟩ := zero_cells C6
 have HT := Lib.hid (fun W => there_calls 2 (f : Int) (n : Int) v e d (.slice ka ks.length kc) (f + row) W (fun h => by have := hvv h; omega) (by omega) ⟨_, _, _, rfl⟩)
 rw [show ((f + row : Nat) : Int) = (row : Int) + (f : Int) by omega] at HT
 clear hn hn2 hbk hm hvv
 go_enter Tryz.func41, Tryz.ntmps41
 go_upto_region 2 with (fail)
 clear hW2
 go_wp2_with (fail)
 refine (HT.out _).mono ?_; rintro x w3 ⟨rfl, hb3⟩
 rw [hon]
 have C4' := (hb3.block _ (lt_of_block C4)).trans C4
 have C6' := (hb3.block _ (lt_of_block C6)).trans C6
 have HN3 := Lib.hid (HN.out.below hb3)
 have HK3 := Lib.hid (KidsAt.below hb3 _ _ HK.out)
 have HB3 := HB.out.trans (hb3.mono HB.out.size)
 clear x0 x1 x2 x3 x4 x5 x6 q4 C4 C6 HN HB hb3
 have q4 := cell_of_one C4'
 obtain ⟨x0, x1, x2, x3, x4, x5, x6, _⟩ := zero_cells C6'
 obtain ⟨y, rfl, rfl, hmy2, hro⟩ := mayA_run HM.out
 have hkk := HK3.out
 rw [KidsAt] at hkk
 obtain ⟨ka', kc', hsl, _, _, hkk⟩ := hkk
 obtain ⟨rfl, _, rfl⟩ := Value.slice.inj hsl
 obtain ⟨kb, ko, rfl, hkb, hkk⟩ := hkk (by simp)
 have HIY := Lib.hid (ih y (by simp))
 have HFI := Lib.hid (text_run ns f n v [] d y i (f + row) hon)
 obtain ⟨xl, xf, xn, xv, xe, xd, xs⟩ := y
 have hxr : 0 ≤ xn := (mayA_nums hmy2).2.2.2.1
 obtain ⟨xk, rfl⟩ := Int.eq_ofNat_of_zero_le hxr
 obtain ⟨z1, z2, z3⟩ := run_at (k := xk) hro
 rw [CellsAt] at hkk
 obtain ⟨⟨q0, q1, q2, q3, q4', q5, kx, q6, hkx⟩, _⟩ := hkk
 obtain ⟨kxa, kxc, rfl, _⟩ := (by rw [KidsAt] at hkx; exact hkx : ∃ a c, kx = .slice a xs.length c ∧ _)
 simp only [tv] at q3 q4' q5
 have HS := Lib.hid (show ∀ w', Below w3.heap.size w3 w' → (fun w' => (w'.cell? ⟨W.heap.size + 1, 0, none⟩ = some (.int .i64 2) ∧ w'.cell? ⟨W.heap.size + 1, 1, none⟩ = some (.int .i64 (f : Int)) ∧ w'.cell? ⟨W.heap.size + 1, 2, none⟩ = some (.int .i64 (n : Int)) ∧ w'.cell? ⟨W.heap.size + 1, 3, none⟩ = some (.string ⟨v.toArray⟩) ∧ w'.cell? ⟨W.heap.size + 1, 4, none⟩ = some (.string ⟨#[]⟩) ∧ w'.cell? ⟨W.heap.size + 1, 5, none⟩ = some (.string ⟨d.toArray⟩) ∧ w'.cell? ⟨W.heap.size + 1, 6, none⟩ = some (.slice (some ⟨kb, ko, none⟩) 1 kc)) ∧ w'.cell? ⟨W.heap.size, 0, none⟩ = some vv ∧ (w'.cell? ⟨kb, ko, none⟩ = some (.int .i64 xl) ∧ w'.cell? ⟨kb, ko + 1, none⟩ = some (.int .i64 xf) ∧ w'.cell? ⟨kb, ko + 2, none⟩ = some (.int .i64 (xk : Int)) ∧ w'.cell? ⟨kb, ko + 3, none⟩ = some (.string ⟨xv.toArray⟩) ∧ w'.cell? ⟨kb, ko + 4, none⟩ = some (.string ⟨xe.toArray⟩) ∧ w'.cell? ⟨kb, ko + 5, none⟩ = some (.string ⟨xd.toArray⟩) ∧ w'.cell? ⟨kb, ko + 6, none⟩ = some (.slice kxa xs.length kxc)) ∧ Below w3.heap.size w3 w') w' from fun w' h => ⟨(box7 C6' h).1, (h.cell (p := ⟨W.heap.size, 0, none⟩) (lt_of_block C4')).trans q4,
  ⟨(h.cell (p := ⟨kb, _, none⟩) hkb).trans q0, (h.cell (p := ⟨kb, _, none⟩) hkb).trans q1, (h.cell (p := ⟨kb, _, none⟩) hkb).trans q2, (h.cell (p := ⟨kb, _, none⟩) hkb).trans q3, (h.cell (p := ⟨kb, _, none⟩) hkb).trans q4', (h.cell (p := ⟨kb, _, none⟩) hkb).trans q5, (h.cell (p := ⟨kb, _, none⟩) hkb).trans q6⟩, h⟩)
 obtain ⟨R, hR⟩ : ∃ R : Nat, f + row = R := ⟨_, rfl⟩
 have hRi : (row : Int) + (f : Int) = (R : Int) := by omega
 have HFR := Lib.hid (show Vp.rowA ns (.mk 2 f n v [] d [.mk xl xf xk xv xe xd xs]) i row = Vp.rowA ns (.mk xl xf xk xv xe xd xs) i (Vp.runOf d R) by rw [HRW.out, HFI.out, hR])
 have HRO := Lib.hid (fun q hq hb ha => runOf_at (R := R) z1 z2 (q := q) hq hb ha)
 have hpos : 0 < xk := by
  rcases Nat.eq_zero_or_pos xk with h | h
  ·subst h
   have e : Vp.runEnd d 0 = 0 := rfl
   rw [e] at z3
   omega
  ·exact h
 have HLA := Lib.hid (show R < Vp.cut4 d (xk - 1) by
  unfold Vp.runEnd at z3
  rw [if_neg (by omega), z2 (xk - 1) (by omega)] at z3
  simp only at z3
  omega)
 have HV := Lib.hid (fun q hq w' (h : Below w3.heap.size w3 w') => HIY.out (.mk xl xf xk xv xe xd xs) i q (arrV xl xf xk xv xe xd (.slice kxa xs.length kxc)) vv w' (Nat.lt_succ_self _) hmy2 (show q < Int.toNat (xk : Int) by rw [Int.toNat_natCast]; exact hq) ⟨_, rfl, KidsAt.below h _ _ hkx⟩ (HN3.out.below h))
 clear HRW HIY HT hR hon hro z2 z3 hsl HFI
 go_upto_region 8 with (fail)
 go_wp2_with (fail)
 go_loopw [9] (fun ix wr => ∃ q : Nat, q < xk ∧ ix = .int .i64 (q : Int) ∧ (∀ j, j < q → Vp.cut4 d j ≤ R) ∧ w3 = wr) (fun ix _ => xk - (intOf ix).toNat)
 case atStart => exact ⟨0, hpos, rfl, fun j h => absurd h (Nat.not_lt_zero _), rfl⟩
 case round =>
  obtain ⟨q, hq, rfl, hall, rfl⟩ := hrel
  have HA := Lib.hid hall
  clear hall
  have g1 : 4 * (q : Int) + 4 ≤ (d.length : Int) := by omega
  have HCN := Lib.hid (fun W => (cutNum_calls d q W).mono fun _ _ h => show _ ∧ W = _ from ⟨h.1, h.2.symm⟩)
  by_cases hle : Vp.cut4 d q ≤ R
  ·have hlt2 : q + 1 < xk := by
    rcases Nat.lt_or_ge (q + 1) xk with h | h
    ·exact h
    ·have := HLA.out
     rw [show xk - 1 = q by omega] at this
     omega
   have HX := Lib.hid hle
   have hcl : ((Vp.cut4 d q : Nat) : Int) ≤ (R : Int) := by omega
   generalize hX : Vp.cut4 d q = X at HCN hcl
   clear hle hX
   go_wp2_with (go_at_call 63; with_reducible refine (HCN.out _).mono ?_; rintro y' w' ⟨rfl, rfl⟩)
   refine ⟨⟨q + 1, hlt2, by go_num, fun j hj => ?_, by first | trivial | rfl⟩, by simp [intOf]; omega⟩
   rcases Nat.lt_or_ge j q with h | h
   ·exact HA.out j h
   ·obtain rfl : j = q := by omega
    exact HX.out
  ·have HFIN := Lib.hid (show Vp.rowA ns (.mk 2 f n v [] d [.mk xl xf xk xv xe xd xs]) i row = Vp.rowA ns (.mk xl xf xk xv xe xd xs) i q by rw [HFR.out, HRO.out q hq HA.out (by omega)])
   have hcl : ¬ ((Vp.cut4 d q : Nat) : Int) ≤ (R : Int) := by omega
   generalize hX : Vp.cut4 d q = X at HCN hcl
   have HBR := Below.refl w3.heap.size w3
   have HVQ := Lib.hid (HV.out q hq)
   clear hle hX HFR HRO HV HLA
   go_upto_region 10 with (go_at_call 63; with_reducible refine (HCN.out _).mono ?_; rintro y' w' ⟨rfl, rfl⟩)
   clear x0 x1 x2 x3 x4 x5 x6 q0 q1 q2 q3 q4' q5 q6 q4 HM HK3
   refine wp_region_held_drew (S := (fun w' => (w'.cell? ⟨W.heap.size + 1, 0, none⟩ = some (.int .i64 2) ∧ w'.cell? ⟨W.heap.size + 1, 1, none⟩ = some (.int .i64 (f : Int)) ∧ w'.cell? ⟨W.heap.size + 1, 2, none⟩ = some (.int .i64 (n : Int)) ∧ w'.cell? ⟨W.heap.size + 1, 3, none⟩ = some (.string ⟨v.toArray⟩) ∧ w'.cell? ⟨W.heap.size + 1, 4, none⟩ = some (.string ⟨#[]⟩) ∧ w'.cell? ⟨W.heap.size + 1, 5, none⟩ = some (.string ⟨d.toArray⟩) ∧ w'.cell? ⟨W.heap.size + 1, 6, none⟩ = some (.slice (some ⟨kb, ko, none⟩) 1 kc)) ∧ w'.cell? ⟨W.heap.size, 0, none⟩ = some vv ∧ (w'.cell? ⟨kb, ko, none⟩ = some (.int .i64 xl) ∧ w'.cell? ⟨kb, ko + 1, none⟩ = some (.int .i64 xf) ∧ w'.cell? ⟨kb, ko + 2, none⟩ = some (.int .i64 (xk : Int)) ∧ w'.cell? ⟨kb, ko + 3, none⟩ = some (.string ⟨xv.toArray⟩) ∧ w'.cell? ⟨kb, ko + 4, none⟩ = some (.string ⟨xe.toArray⟩) ∧ w'.cell? ⟨kb, ko + 5, none⟩ = some (.string ⟨xd.toArray⟩) ∧ w'.cell? ⟨kb, ko + 6, none⟩ = some (.slice kxa xs.length kxc)) ∧ Below w3.heap.size w3 w')) (by kernel_rfl) (HS.out _ (below_drew HBR)) (fun hHeld => ?_)
   refine tk 0 (v := ?_) rfl (fun _ _ _ h => h) (Or.inl ⟨by rfl, ?_⟩) (by assumption) ?_; rotate_left; focus (intro w hSw; (try dsimp only at hSw); go_simp; try with_reducible rfl)
   (try simp only [sx])
   refine tk 1 (v := ?_) rfl (fun _ _ _ h => h) (Or.inl ⟨by rfl, ?_⟩) (by assumption) ?_; rotate_left; focus (intro w hSw; (try dsimp only at hSw); go_simp; try with_reducible rfl)
   (try simp only [sx])
   refine tk 2 (v := ?_) rfl (fun _ _ _ h => h) (Or.inl ⟨by rfl, ?_⟩) (by assumption) ?_; rotate_left; focus (intro w hSw; (try dsimp only at hSw); go_simp; try with_reducible rfl)
   (try simp only [sx])
   refine tk 3 (v := ?_) rfl (fun _ _ _ h => h) (Or.inl ⟨by rfl, ?_⟩) (by assumption) ?_; rotate_left; focus (intro w hSw; (try dsimp only at hSw); go_simp; try with_reducible rfl)
   (try simp only [sx])
   refine tk 4 (v := ?_) rfl (fun _ _ _ h => h) (Or.inl ⟨by rfl, ?_⟩) (by assumption) ?_; rotate_left; focus (intro w hSw; (try dsimp only at hSw); go_simp; try with_reducible rfl)
   (try simp only [sx])
   refine tk 5 (v := ?_) rfl (fun _ _ _ h => h) (Or.inl ⟨by rfl, ?_⟩) (by assumption) ?_; rotate_left; focus (intro w hSw; (try dsimp only at hSw); go_simp; try with_reducible rfl)
   (try simp only [sx])
   refine tk 6 (v := ?_) rfl (fun _ _ _ h => h) (Or.inl ⟨by rfl, ?_⟩) (by assumption) ?_; rotate_left; focus (intro w hSw; (try dsimp only at hSw); go_simp; try with_reducible rfl)
   (try simp only [sx])
   refine wpAnyH_ready (rs := [7]) (by kernel_rfl) (by simp) ?_
   refine AllReadyH.cons rfl (fun K hK => ?_) AllReadyH.nil
   go_simp
   go_at_call 41; refine (HVQ.out _ hHeld.2.2.2).mono ?_; rintro y' w4 ⟨rfl, hb4⟩; have HX4 := below_then hHeld.2.2.2 hb4
   clear hHeld
   refine hK.out _ _ (HS.out _ HX4) (fun hHeld => ?_)
   clear hK K
   (try simp only [sx])
   refine tk 8 (v := ?_) rfl (fun _ _ _ h => h) (Or.inl ⟨by rfl, ?_⟩) (by assumption) ?_; rotate_left; focus (intro w hSw; (try dsimp only at hSw); go_simp; try with_reducible rfl)
   (try simp only [sx])
   refine wpAnyH_done (by kernel_rfl) ?_ _
   go_wp2
   go_ret
   exact ⟨by rw [HFIN.out]; rfl, HB3.trans (HX4.mono HB3.size)⟩
end Go.Proofs.YtobhjlchpnpleaaGreatDoor

/- The reference's value of a row, walked: the whole. -/
namespace Go.Proofs.YtobhjlchpnpleaaGreatDoor
open Go.RowKit
set_option linter.unusedVariables false
set_option linter.unusedSimpArgs false

theorem refVal_succ (ns : List Tp.Nd) (N : Nat) (ih : RefValOK ns N) : RefValOK ns (N + 1) := by
 intro a i row u vv W hsz hm hr ha hn
 obtain ⟨l, f, n, v, e, d, ks⟩ := a
 obtain ⟨k, rfl, hk⟩ := ha
 have hih : ∀ a ∈ ks, RefValOK ns (SizeOf.sizeOf a + 1) := fun a ha b j r' u' vv' W' hb => ih b j r' u' vv' W' (by have := List.sizeOf_lt_of_mem ha; simp only [Arr.mk.sizeOf_spec] at hsz; omega)
 obtain ⟨hmy, hi, hf0, hn0, _⟩ := mayA_nums hm
 obtain ⟨f, rfl⟩ := Int.eq_ofNat_of_zero_le hf0
 obtain ⟨n, rfl⟩ := Int.eq_ofNat_of_zero_le hn0
 have hr : row < n := by
  have e : (Arr.mk l (f : Int) (n : Int) v e d ks).len = (n : Int) := rfl
  rw [e, Int.toNat_natCast] at hr
  exact hr
 cases hon : Vp.on v (f + row) with
 | false => exact value_leaf ns l f n v e d ks k vv i row W hm hr hk hn (.inl hon)
 | true =>
  by_cases h0 : l = 0
  ·subst h0
   have hkr := Vp.may_kind ns hmy i hi
   by_cases h3 : Tp.kindOf ns i = 3
   ·exact value_list ns f n v e d ks k vv i row W hm hr hk hn hon h3 hih
   by_cases h4 : Tp.kindOf ns i = 4
   ·exact value_struct ns f n v e d ks k vv i row W hm hr hk hn hon h4 hih
   exact value_leaf ns 0 f n v e d ks k vv i row W hm hr hk hn (.inr ⟨rfl, by omega⟩)
  by_cases h1 : l = 1
  ·subst h1
   exact value_dict ns f n v e d ks k vv i row W hm hr hk hn hon hih
  by_cases h2 : l = 2
  ·subst h2
   exact value_run ns f n v e d ks k vv i row W hm hr hk hn hon hih
  rw [Vp.mayA, if_neg h0, if_neg h1, if_neg h2, Bool.and_false] at hm
  exact absurd hm (by decide)
theorem refVal_all (ns : List Tp.Nd) : ∀ N, RefValOK ns N
 | 0 => fun _ _ _ _ _ _ h => absurd h (Nat.not_lt_zero _)
 | N + 1 => refVal_succ ns N (refVal_all ns N)
theorem refValue_calls (ns : List Tp.Nd) (a : Arr) (i row : Nat) (u vv : Value) (W : World) (hm : Vp.mayA ns a i = true) (hr : row < a.len.toNat) (ha : ArrAt W a u) (hn : NodesAt W vv ns) :
  Calls Tryz.prog 41 #[typeV vv, .int .i64 (i : Int), u, .int .i64 (row : Int)] W fun e w' => e = .returned (tv (Vp.rowA ns a i row)) ∧ Below W.heap.size W w' :=
 refVal_all ns _ a i row u vv W (Nat.lt_succ_self _) hm hr ha hn
end Go.Proofs.YtobhjlchpnpleaaGreatDoor
