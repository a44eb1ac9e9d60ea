/- The reference's value of a row, walked: structs. -/
import Derived.Test.YtlllflacnlgigaaGreatDoorMb36
namespace Go.Proofs.YtlllflacnlgigaaGreatDoor
open Go.RowKit
set_option linter.unusedVariables false
set_option linter.unusedSimpArgs false

set_option maxRecDepth 100000 in
set_option maxHeartbeats 6400000 in
theorem value_struct (ns : List Tp.Nd) (f n : Nat) (v e d : Vp.Txt) (ks : List Arr) (k vv : Value) (i row : Nat) (W : World)
    (hm : Vp.mayA ns (.mk 0 f n v e d ks) i = true) (hr : row < n) (hk : KidsAt W ks k) (hn : NodesAt W vv ns) (hon : Vp.on v (f + row) = true) (hkk : Tp.kindOf ns i = 4) (ih : ∀ a ∈ ks, RefValOK ns (SizeOf.sizeOf a + 1)) :
    Calls Tryz.prog 58 #[typeV vv, .int .i64 (i : Int), arrV 0 (f : Int) (n : Int) v e d k, .int .i64 (row : Int)] W fun x w' => x = .returned (tv (Vp.rowA ns (.mk 0 f n v e d ks) i row)) ∧ Below W.heap.size W w' := by
  have HRW := Lib.hid (show Vp.rowA ns (.mk 0 f n v e d ks) i row = Vp.textA ns (.mk 0 f n v e d ks) i (f + row) from rfl)
  obtain ⟨hmy, hi, _, _, hfn, hv1, he1, hd1, hvv⟩ := mayA_nums hm
  have HKK := Lib.hid hk
  have hbk := below_alloc (below_alloc (Below.refl W.heap.size W) (.cells #[vv] 25)) (.cells #[.int .i64 0, .int .i64 (f : Int), .int .i64 (n : Int), .string ⟨v.toArray⟩, .string ⟨e.toArray⟩, .string ⟨d.toArray⟩, k] 47)
  have hn2 := hn.below hbk
  have C4 := (Below.heap_alloc (W.alloc (.cells #[vv] 25)) (.cells #[.int .i64 0, .int .i64 (f : Int), .int .i64 (n : Int), .string ⟨v.toArray⟩, .string ⟨e.toArray⟩, .string ⟨d.toArray⟩, k] 47) W.heap.size (by simp)).trans (heap_alloc_new W (.cells #[vv] 25))
  have C6 := heap_alloc_new (W.alloc (.cells #[vv] 25)) (.cells #[.int .i64 0, .int .i64 (f : Int), .int .i64 (n : Int), .string ⟨v.toArray⟩, .string ⟨e.toArray⟩, .string ⟨d.toArray⟩, k] 47)
  rw [show (W.alloc (.cells #[vv] 25)).heap.size = W.heap.size + 1 by simp] at C6
  obtain ⟨W2, hW2⟩ : ∃ W2, (W.alloc (.cells #[vv] 25)).alloc (.cells #[.int .i64 0, .int .i64 (f : Int), .int .i64 (n : Int), .string ⟨v.toArray⟩, .string ⟨e.toArray⟩, .string ⟨d.toArray⟩, k] 47) = W2 := ⟨_, rfl⟩
  rw [hW2] at hbk hn2 C4 C6
  have HK := Lib.hid (KidsAt.below hbk _ _ HKK.out)
  clear HKK
  rw [KidsAt] at hk
  obtain ⟨ka, kc, rfl, hkc1, hkc2, _⟩ := hk
  unfold maxLen at hkc2
  have HN := Lib.hid hn2
  have HB := Lib.hid hbk
  have HM := Lib.hid hm
  have hzd := mk_size d
  have q4 := cell_of_one C4
  obtain ⟨x0, x1, x2, x3, x4, x5, x6, _⟩ := zero_cells C6
  have HT := Lib.hid (fun W => there_calls 0 (f : Int) (n : Int) v e d (.slice ka ks.length kc) (f + row) W (fun h => by have := hvv h; omega) (by omega) ⟨_, _, _, rfl⟩)
  rw [show ((f + row : Nat) : Int) = (row : Int) + (f : Int) by omega] at HT
  clear hn hn2 hbk hm hvv
  go_enter Tryz.func58, Tryz.ntmps58
  go_upto_region 2 with (fail)
  clear hW2
  go_wp2_with (fail)
  refine (HT.out _).mono ?_; rintro x w3 ⟨rfl, hb3⟩
  rw [hon]
  have C4' := (hb3.block _ (lt_of_block C4)).trans C4
  have C6' := (hb3.block _ (lt_of_block C6)).trans C6
  have HN3 := Lib.hid (HN.out.below hb3)
  have HK3 := Lib.hid (KidsAt.below hb3 _ _ HK.out)
  have HB3 := HB.out.trans (hb3.mono HB.out.size)
  clear x0 x1 x2 x3 x4 x5 x6 q4 C4 C6 HN HB hb3
  have q4 := cell_of_one C4'
  obtain ⟨x0, x1, x2, x3, x4, x5, x6, _⟩ := zero_cells C6'
  have HU := Lib.hid (text_plain ns f n v e d ks i (f + row) hon)
  have hkr := Vp.may_kind ns hmy i hi
  have hnd : Tp.node ns (i : Int) = true := (Vp.node_of ns i).2 ⟨hmy, hi⟩
  obtain ⟨bk, o, c, rfl, hc1, hc2, hbk, g0, g2⟩ := nodes_open HN3.out hi
  have hii : (i : Int) < (ns.length : Int) := by omega
  unfold maxLen at hc2
  clear g2 HT hon
  obtain ⟨kd, hkd⟩ : ∃ kd, Tp.kindOf ns i = kd := ⟨_, rfl⟩
  rw [hkd] at HU hkr hkk g0
  go_upto_region 11 with (fail)
  go_wp2_with (fail)
  refine (refKids_calls _ ns i _ HN3.out hnd).mono ?_; rintro x w4 ⟨kr, rfl, hko, hb4⟩
  have C4'' := (hb4.block _ (lt_of_block C4')).trans C4'
  have C6'' := (hb4.block _ (lt_of_block C6')).trans C6'
  have HB4 := HB3.trans (hb4.mono HB3.size)
  have HN4 := Lib.hid (HN3.out.below hb4)
  have HK4 := Lib.hid (KidsAt.below hb4 _ _ HK3.out)
  have g4 := (hb4.cell (p := ⟨bk, o + i * 3, none⟩) hbk).trans g0
  obtain ⟨kra, krc, rfl⟩ := own_slice hko
  have HKO := Lib.hid hko
  clear x0 x1 x2 x3 x4 x5 x6 q4 C4' C6' HN3 HB3 HK3 g0 hko hb4
  have q4 := cell_of_one C4''
  obtain ⟨x0, x1, x2, x3, x4, x5, x6, _⟩ := zero_cells C6''
  obtain rfl : kd = 4 := hkk
  obtain ⟨hl1, hkids⟩ := mayA_struct HM.out hkd
  obtain ⟨R, hR⟩ : ∃ R : Nat, f + row = R := ⟨_, rfl⟩
  have hRi : (row : Int) + (f : Int) = (R : Int) := by omega
  have HFIN := Lib.hid (show Vp.rowA ns (.mk 0 f n v e d ks) i row = Vp.struct ((List.range (Tp.kids ns (i : Int)).length).map fun j => Vp.rowA ns (ks.getD j Arr.none) ((Tp.kids ns (i : Int)).getD j 0) R) from by
    rw [HRW.out, HU.out, hR, text_struct ns e d ks i R hl1])
  have hk8 := Vp.kids_gt ns hmy i
  have hns := Vp.may_len ns hmy
  have hkl : (Tp.kids ns (i : Int)).length ≤ ns.length := by unfold Tp.kids Tp.kidsTo; exact Nat.le_trans (List.length_filter_le _ _) (by rw [List.length_range]; exact Nat.le_refl _)
  generalize Tp.kids ns (i : Int) = zs at hl1 hkids HFIN HKO hkl ⊢
  have HKD := Lib.hid hkids
  have HLEN := Lib.hid hl1
  obtain ⟨kra', krc', hslr, _, hmr, hkr⟩ := own_nats HKO.out
  obtain ⟨rfl, _, rfl⟩ := Value.slice.inj hslr
  unfold maxLen at hmr
  have HKR := Lib.hid hkr
  have HKQ := Lib.hid (kids_open HK4.out)
  have HRF := Lib.hid (show R < f + n by omega)
  clear HRW HU hR hslr HKO HK4 HM hkr hkids hl1 hk8 hkd
  go_wp2_with (fail)
  go_loopw [12, 18] (fun vs ix wr => ∃ q : Nat, q ≤ zs.length ∧ ix = .int .i64 (q : Int) ∧ wr.ownsRow w4.heap.size 9 1 vs q (((List.range q).map fun j => Vp.rowA ns (ks.getD j Arr.none) (zs.getD j 0) R).map tv) ∧ Below w4.heap.size w4 wr) (fun _ ix _ => zs.length - (intOf ix).toNat)
  case atStart => exact ⟨0, Nat.zero_le _, rfl, own_nil, Below.refl _ _⟩
  case round =>
    obtain ⟨q, hq, rfl, hu, HBR⟩ := hrel
    have HO := Lib.hid hu
    have hs4 := HBR.size
    clear hu
    by_cases hlt : q < zs.length
    · have hqi : (q : Int) < (zs.length : Int) := by omega
      have hlk : q < ks.length := by have := HLEN.out; omega
      have hlki : (q : Int) < (ks.length : Int) := by omega
      obtain ⟨krb, kro, rfl, hkrb, hkr⟩ := HKR.out (by intro h; rw [h] at hlt; exact Nat.not_lt_zero _ hlt)
      obtain ⟨kb, ko, rfl, hkb, hkc⟩ := HKQ.out (by intro h; rw [h] at hlk; exact Nat.not_lt_zero _ hlk)
      have hz := List.getElem?_eq_getElem hlt
      have hx := List.getElem?_eq_getElem hlk
      have hzd : zs.getD q 0 = zs[q] := by rw [List.getD_eq_getElem?_getD, hz]; rfl
      have hxd : ks.getD q Arr.none = ks[q] := by rw [List.getD_eq_getElem?_getD, hx]; rfl
      have hxm : ks[q] ∈ ks := List.getElem_mem hlk
      have hkq := HKD.out q hlt
      have p0 := hkr q _ hz
      rw [hzd, hxd] at hkq
      generalize zs[q] = z0 at hz hzd p0 hkq
      generalize ks[q] = x at hx hxd hxm hkq
      obtain ⟨xl, xf, xn, xv, xe, xd, xs⟩ := x
      obtain ⟨q0, q1, q2, q3, q4', q5, kx, q6, hkx⟩ := CellsAt.at ks ko q _ _ _ _ _ _ _ hkc hx
      obtain ⟨kxa, kxc, rfl, _⟩ := (by rw [KidsAt] at hkx; exact hkx : ∃ a c, kx = .slice a xs.length c ∧ _)
      simp only [tv] at q3 q4' q5
      have hxn : (f : Int) + (n : Int) ≤ xn := hkq.2
      have HS := Lib.hid (show ∀ w', Below w4.heap.size w4 w' → (fun w' => (w'.cell? ⟨W.heap.size + 1, 0, none⟩ = some (.int .i64 0) ∧ w'.cell? ⟨W.heap.size + 1, 1, none⟩ = some (.int .i64 (f : Int)) ∧ w'.cell? ⟨W.heap.size + 1, 2, none⟩ = some (.int .i64 (n : Int)) ∧ w'.cell? ⟨W.heap.size + 1, 3, none⟩ = some (.string ⟨v.toArray⟩) ∧ w'.cell? ⟨W.heap.size + 1, 4, none⟩ = some (.string ⟨e.toArray⟩) ∧ w'.cell? ⟨W.heap.size + 1, 5, none⟩ = some (.string ⟨d.toArray⟩) ∧ w'.cell? ⟨W.heap.size + 1, 6, none⟩ = some (.slice (some ⟨kb, ko, none⟩) ks.length kc)) ∧ w'.cell? ⟨W.heap.size, 0, none⟩ = some (.slice (some ⟨bk, o, none⟩) ns.length c) ∧ w'.cell? ⟨krb, kro + q, none⟩ = some (.int .i64 (z0 : Int)) ∧ (w'.cell? ⟨kb, ko + q * 7, none⟩ = some (.int .i64 xl) ∧ w'.cell? ⟨kb, ko + q * 7 + 1, none⟩ = some (.int .i64 xf) ∧ w'.cell? ⟨kb, ko + q * 7 + 2, none⟩ = some (.int .i64 xn) ∧ w'.cell? ⟨kb, ko + q * 7 + 3, none⟩ = some (.string ⟨xv.toArray⟩) ∧ w'.cell? ⟨kb, ko + q * 7 + 4, none⟩ = some (.string ⟨xe.toArray⟩) ∧ w'.cell? ⟨kb, ko + q * 7 + 5, none⟩ = some (.string ⟨xd.toArray⟩) ∧ w'.cell? ⟨kb, ko + q * 7 + 6, none⟩ = some (.slice kxa xs.length kxc)) ∧ Below w4.heap.size w4 w') w' from fun w' h => ⟨(box7 C6'' h).1, (h.cell (p := ⟨W.heap.size, 0, none⟩) (lt_of_block C4'')).trans (cell_of_one C4''), (h.cell (p := ⟨krb, _, none⟩) hkrb).trans p0,
        ⟨(h.cell (p := ⟨kb, _, none⟩) hkb).trans q0, (h.cell (p := ⟨kb, _, none⟩) hkb).trans q1, (h.cell (p := ⟨kb, _, none⟩) hkb).trans q2, (h.cell (p := ⟨kb, _, none⟩) hkb).trans q3, (h.cell (p := ⟨kb, _, none⟩) hkb).trans q4', (h.cell (p := ⟨kb, _, none⟩) hkb).trans q5, (h.cell (p := ⟨kb, _, none⟩) hkb).trans q6⟩, h⟩)
      have HV := Lib.hid (fun w' (h : Below w4.heap.size w4 w') => ih (.mk xl xf xn xv xe xd xs) hxm (.mk xl xf xn xv xe xd xs) z0 R (arrV xl xf xn xv xe xd (.slice kxa xs.length kxc)) (.slice (some ⟨bk, o, none⟩) ns.length c) w' (Nat.lt_succ_self _) hkq.1 (show R < Int.toNat xn by have := HRF.out; omega) ⟨_, rfl, KidsAt.below h _ _ hkx⟩ (HN4.out.below h))
      have HZD := Lib.hid hzd
      have HXD := Lib.hid hxd
      clear hkr hkc hz hx hzd hxd hxm p0 q0 q1 q2 q3 q4' q5 q6 hkx hkq x0 x1 x2 x3 x4 x5 x6 q4
      go_upto_region 31 with (fail)
      refine wp_region_held_drew (S := (fun w' => (w'.cell? ⟨W.heap.size + 1, 0, none⟩ = some (.int .i64 0) ∧ w'.cell? ⟨W.heap.size + 1, 1, none⟩ = some (.int .i64 (f : Int)) ∧ w'.cell? ⟨W.heap.size + 1, 2, none⟩ = some (.int .i64 (n : Int)) ∧ w'.cell? ⟨W.heap.size + 1, 3, none⟩ = some (.string ⟨v.toArray⟩) ∧ w'.cell? ⟨W.heap.size + 1, 4, none⟩ = some (.string ⟨e.toArray⟩) ∧ w'.cell? ⟨W.heap.size + 1, 5, none⟩ = some (.string ⟨d.toArray⟩) ∧ w'.cell? ⟨W.heap.size + 1, 6, none⟩ = some (.slice (some ⟨kb, ko, none⟩) ks.length kc)) ∧ w'.cell? ⟨W.heap.size, 0, none⟩ = some (.slice (some ⟨bk, o, none⟩) ns.length c) ∧ w'.cell? ⟨krb, kro + q, none⟩ = some (.int .i64 (z0 : Int)) ∧ (w'.cell? ⟨kb, ko + q * 7, none⟩ = some (.int .i64 xl) ∧ w'.cell? ⟨kb, ko + q * 7 + 1, none⟩ = some (.int .i64 xf) ∧ w'.cell? ⟨kb, ko + q * 7 + 2, none⟩ = some (.int .i64 xn) ∧ w'.cell? ⟨kb, ko + q * 7 + 3, none⟩ = some (.string ⟨xv.toArray⟩) ∧ w'.cell? ⟨kb, ko + q * 7 + 4, none⟩ = some (.string ⟨xe.toArray⟩) ∧ w'.cell? ⟨kb, ko + q * 7 + 5, none⟩ = some (.string ⟨xd.toArray⟩) ∧ w'.cell? ⟨kb, ko + q * 7 + 6, none⟩ = some (.slice kxa xs.length kxc)) ∧ Below w4.heap.size w4 w')) (by kernel_rfl) (HS.out _ (below_drew HBR)) (fun hHeld => ?_)
      refine wpAnyH_take (i := 0) (v := ?_) rfl (by kernel_rfl) (by kernel_rfl) (by kernel_rfl) (fun _ _ _ h => h) (Or.inl ⟨by rfl, ?_⟩) (by assumption) ?_; rotate_left; (focus (intro w hSw; (try dsimp only at hSw); go_simp; try with_reducible rfl))
      (try simp only [Act.put, List.getElem_toArray, List.getElem_cons_zero, List.getElem_cons_succ, List.setIfInBounds_toArray, List.set_cons_zero, List.set_cons_succ, List.size_toArray, List.length_cons, List.length_nil])
      refine wpAnyH_take (i := 1) (v := ?_) rfl (by kernel_rfl) (by kernel_rfl) (by kernel_rfl) (fun _ _ _ h => h) (Or.inl ⟨by rfl, ?_⟩) (by assumption) ?_; rotate_left; (focus (intro w hSw; (try dsimp only at hSw); go_simp; try with_reducible rfl))
      (try simp only [Act.put, List.getElem_toArray, List.getElem_cons_zero, List.getElem_cons_succ, List.setIfInBounds_toArray, List.set_cons_zero, List.set_cons_succ, List.size_toArray, List.length_cons, List.length_nil])
      refine wpAnyH_take (i := 2) (v := ?_) rfl (by kernel_rfl) (by kernel_rfl) (by kernel_rfl) (fun _ _ _ h => h) (Or.inl ⟨by rfl, ?_⟩) (by assumption) ?_; rotate_left; (focus (intro w hSw; (try dsimp only at hSw); go_simp; try with_reducible rfl))
      (try simp only [Act.put, List.getElem_toArray, List.getElem_cons_zero, List.getElem_cons_succ, List.setIfInBounds_toArray, List.set_cons_zero, List.set_cons_succ, List.size_toArray, List.length_cons, List.length_nil])
      refine wpAnyH_take (i := 3) (v := ?_) rfl (by kernel_rfl) (by kernel_rfl) (by kernel_rfl) (fun _ _ _ h => h) (Or.inl ⟨by rfl, ?_⟩) (by assumption) ?_; rotate_left; (focus (intro w hSw; (try dsimp only at hSw); go_simp; try with_reducible rfl))
      (try simp only [Act.put, List.getElem_toArray, List.getElem_cons_zero, List.getElem_cons_succ, List.setIfInBounds_toArray, List.set_cons_zero, List.set_cons_succ, List.size_toArray, List.length_cons, List.length_nil])
      refine wpAnyH_take (i := 4) (v := ?_) rfl (by kernel_rfl) (by kernel_rfl) (by kernel_rfl) (fun _ _ _ h => h) (Or.inl ⟨by rfl, ?_⟩) (by assumption) ?_; rotate_left; (focus (intro w hSw; (try dsimp only at hSw); go_simp; try with_reducible rfl))
      (try simp only [Act.put, List.getElem_toArray, List.getElem_cons_zero, List.getElem_cons_succ, List.setIfInBounds_toArray, List.set_cons_zero, List.set_cons_succ, List.size_toArray, List.length_cons, List.length_nil])
      refine wpAnyH_take (i := 5) (v := ?_) rfl (by kernel_rfl) (by kernel_rfl) (by kernel_rfl) (fun _ _ _ h => h) (Or.inl ⟨by rfl, ?_⟩) (by assumption) ?_; rotate_left; (focus (intro w hSw; (try dsimp only at hSw); go_simp; try with_reducible rfl))
      (try simp only [Act.put, List.getElem_toArray, List.getElem_cons_zero, List.getElem_cons_succ, List.setIfInBounds_toArray, List.set_cons_zero, List.set_cons_succ, List.size_toArray, List.length_cons, List.length_nil])
      refine wpAnyH_take (i := 6) (v := ?_) rfl (by kernel_rfl) (by kernel_rfl) (by kernel_rfl) (fun _ _ _ h => h) (Or.inl ⟨by rfl, ?_⟩) (by assumption) ?_; rotate_left; (focus (intro w hSw; (try dsimp only at hSw); go_simp; try with_reducible rfl))
      (try simp only [Act.put, List.getElem_toArray, List.getElem_cons_zero, List.getElem_cons_succ, List.setIfInBounds_toArray, List.set_cons_zero, List.set_cons_succ, List.size_toArray, List.length_cons, List.length_nil])
      refine wpAnyH_take (i := 7) (v := ?_) rfl (by kernel_rfl) (by kernel_rfl) (by kernel_rfl) (fun _ _ _ h => h) (Or.inl ⟨by rfl, ?_⟩) (by assumption) ?_; rotate_left; (focus (intro w hSw; (try dsimp only at hSw); go_simp; try with_reducible rfl))
      (try simp only [Act.put, List.getElem_toArray, List.getElem_cons_zero, List.getElem_cons_succ, List.setIfInBounds_toArray, List.set_cons_zero, List.set_cons_succ, List.size_toArray, List.length_cons, List.length_nil])
      refine wpAnyH_take (i := 8) (v := ?_) rfl (by kernel_rfl) (by kernel_rfl) (by kernel_rfl) (fun _ _ _ h => h) (Or.inl ⟨by rfl, ?_⟩) (by assumption) ?_; rotate_left; (focus (intro w hSw; (try dsimp only at hSw); go_simp; try with_reducible rfl))
      (try simp only [Act.put, List.getElem_toArray, List.getElem_cons_zero, List.getElem_cons_succ, List.setIfInBounds_toArray, List.set_cons_zero, List.set_cons_succ, List.size_toArray, List.length_cons, List.length_nil])
      refine wpAnyH_take (i := 9) (v := ?_) rfl (by kernel_rfl) (by kernel_rfl) (by kernel_rfl) (fun _ _ _ h => h) (Or.inl ⟨by rfl, ?_⟩) (by assumption) ?_; rotate_left; (focus (intro w hSw; (try dsimp only at hSw); go_simp; try with_reducible rfl))
      (try simp only [Act.put, List.getElem_toArray, List.getElem_cons_zero, List.getElem_cons_succ, List.setIfInBounds_toArray, List.set_cons_zero, List.set_cons_succ, List.size_toArray, List.length_cons, List.length_nil])
      refine wpAnyH_take (i := 10) (v := ?_) rfl (by kernel_rfl) (by kernel_rfl) (by kernel_rfl) (fun _ _ _ h => h) (Or.inl ⟨by rfl, ?_⟩) (by assumption) ?_; rotate_left; (focus (intro w hSw; (try dsimp only at hSw); go_simp; try with_reducible rfl))
      (try simp only [Act.put, List.getElem_toArray, List.getElem_cons_zero, List.getElem_cons_succ, List.setIfInBounds_toArray, List.set_cons_zero, List.set_cons_succ, List.size_toArray, List.length_cons, List.length_nil])
      refine wpAnyH_take (i := 11) (v := ?_) rfl (by kernel_rfl) (by kernel_rfl) (by kernel_rfl) (fun _ _ _ h => h) (Or.inl ⟨by rfl, ?_⟩) (by assumption) ?_; rotate_left; (focus (intro w hSw; (try dsimp only at hSw); go_simp; try with_reducible rfl))
      (try simp only [Act.put, List.getElem_toArray, List.getElem_cons_zero, List.getElem_cons_succ, List.setIfInBounds_toArray, List.set_cons_zero, List.set_cons_succ, List.size_toArray, List.length_cons, List.length_nil])
      refine wpAnyH_ready (rs := [12]) (by kernel_rfl) (by simp) ?_
      refine AllReadyH.cons rfl (fun K hK => ?_) AllReadyH.nil
      go_simp
      go_at_call 58; refine (HV.out _ hHeld.2.2.2.2).mono ?_; rintro y' w6 ⟨rfl, hb6⟩; have HX4 := below_then hHeld.2.2.2.2 hb6; have hbw : Below wr.heap.size wr w6 := below_then (below_drew (Below.refl _ _)) hb6
      clear hHeld
      refine hK.out _ _ (HS.out _ HX4) (fun hHeld => ?_)
      clear hK K
      (try simp only [Act.put, List.getElem_toArray, List.getElem_cons_zero, List.getElem_cons_succ, List.setIfInBounds_toArray, List.set_cons_zero, List.set_cons_succ, List.size_toArray, List.length_cons, List.length_nil])
      refine wpAnyH_ready (rs := [13]) (by kernel_rfl) (by simp) ?_
      refine AllReadyH.cons rfl (fun K hK => ?_) AllReadyH.nil
      go_simp
      clear hHeld
      refine hK.out _ _ (HS.out _ (below_alloc HX4 _)) (fun hHeld => ?_)
      clear hK K
      (try simp only [Act.put, List.getElem_toArray, List.getElem_cons_zero, List.getElem_cons_succ, List.setIfInBounds_toArray, List.set_cons_zero, List.set_cons_succ, List.size_toArray, List.length_cons, List.length_nil])
      refine wpAnyH_ready (rs := [14]) (by kernel_rfl) (by simp) ?_
      refine AllReadyH.cons rfl (fun K hK => ?_) AllReadyH.nil
      refine step_app (by rfl) _ _ 22 9 (by rfl) w4.heap.size 1 16 (.string ⟨#[]⟩) Tryz.underlying22 info_string rfl (by decide) _ _ _ [tv (Vp.rowA ns (.mk xl xf xn xv xe xd xs) z0 R)] rfl (by intro y hy; rw [List.mem_singleton.1 hy]; rfl) (by rfl) _ (by rfl) (blk_new _ _) (own_below HO.out (below_alloc hbw _)) (by omega) (by omega) (by have := hbw.size; simp; omega) ?_
      intro g7 cap7 w7 ho7 hb7 hg7
      refine hK.out _ _ (HS.out _ ((below_alloc HX4 _).trans hb7)) (fun hHeld => ?_)
      clear hK K
      (try simp only [Act.put, List.getElem_toArray, List.getElem_cons_zero, List.getElem_cons_succ, List.setIfInBounds_toArray, List.set_cons_zero, List.set_cons_succ, List.size_toArray, List.length_cons, List.length_nil])
      refine wpAnyH_take (i := 15) (v := ?_) rfl (by kernel_rfl) (by kernel_rfl) (by kernel_rfl) (fun _ _ _ h => h) (Or.inl ⟨by rfl, ?_⟩) (by assumption) ?_; rotate_left; (focus (intro w hSw; (try dsimp only at hSw); go_simp; try with_reducible rfl))
      (try simp only [Act.put, List.getElem_toArray, List.getElem_cons_zero, List.getElem_cons_succ, List.setIfInBounds_toArray, List.set_cons_zero, List.set_cons_succ, List.size_toArray, List.length_cons, List.length_nil])
      refine wpAnyH_done (by kernel_rfl) ?_ _
      go_wp2
      refine ⟨⟨q + 1, by omega, by go_num, ?_, HBR.trans (((below_alloc hbw _).mono HBR.size).trans hb7)⟩, by simp [intOf]; omega⟩
      rw [List.range_succ, List.map_append, List.map_append, List.map_cons, List.map_nil, List.map_cons, List.map_nil, HZD.out, HXD.out]
      exact ho7
    · obtain rfl : q = zs.length := by omega
      go_wp2_with (fail)
      refine (refStruct_calls _ ((List.range zs.length).map fun j => Vp.rowA ns (ks.getD j Arr.none) (zs.getD j 0) R) _ (own_texts (by rw [List.length_map, List.length_range]; exact HO.out)) ?_).mono ?_
      · have hj := Vp.join_length ((List.range zs.length).map fun j => Vp.rowA ns (ks.getD j Arr.none) (zs.getD j 0) R) 65536 (by
          intro p hp
          obtain ⟨j, hj, rfl⟩ := List.mem_map.1 hp
          have hkj := HKD.out j (List.mem_range.1 hj)
          exact row_small hkj.1 (by have := HRF.out; omega))
        rw [List.length_map, List.length_range] at hj
        have : zs.length * 65536 ≤ 8 * 65536 := Nat.mul_le_mul_right _ (by omega)
        omega
      rintro x w8 ⟨rfl, hb8⟩
      go_wp2
      go_ret
      exact ⟨by rw [HFIN.out]; rfl, HB4.trans ((below_then HBR hb8).mono HB4.size)⟩
end Go.Proofs.YtlllflacnlgigaaGreatDoor
