/- Several texts in one: RefValE, RefValF. -/
import Derived.Test.YtobhjlchpnpleaaGreatDoorCa13
import Derived.Test.YtobhjlchpnpleaaGreatDoorCa32
import Derived.Test.YtobhjlchpnpleaaGreatDoorCa9
/- The reference's value of a row, walked: lists. -/
namespace Go.Proofs.YtobhjlchpnpleaaGreatDoor
open Go.RowKit
set_option linter.unusedVariables false
set_option linter.unusedSimpArgs false

set_option maxRecDepth 100000 in
set_option maxHeartbeats 6400000 in
theorem value_list (ns : List Tp.Nd) (f n : Nat) (v e d : Vp.Txt) (ks : List Arr) (k vv : Value) (i row : Nat) (W : World)
  (hm : Vp.mayA ns (.mk 0 f n v e d ks) i = true) (hr : row < n) (hk : KidsAt W ks k) (hn : NodesAt W vv ns) (hon : Vp.on v (f + row) = true) (hkk : Tp.kindOf ns i = 3) (ih : ∀ a ∈ ks, RefValOK ns (SizeOf.sizeOf a + 1)) :
  Calls Tryz.prog 41 #[typeV vv, .int .i64 (i : Int), arrV 0 (f : Int) (n : Int) v e d k, .int .i64 (row : Int)] W fun x w' => x = .returned (tv (Vp.rowA ns (.mk 0 f n v e d ks) i row)) ∧ Below W.heap.size W w' := by
 have HRW := Lib.hid (show Vp.rowA ns (.mk 0 f n v e d ks) i row = Vp.textA ns (.mk 0 f n v e d ks) i (f + row) from rfl)
 obtain ⟨hmy, hi, _, _, hfn, hv1, he1, hd1, hvv⟩ := mayA_nums hm
 have HKK := Lib.hid hk
 have hbk := below_alloc (below_alloc (Below.refl W.heap.size W) (.cells #[vv] 24)) (.cells #[.int .i64 0, .int .i64 (f : Int), .int .i64 (n : Int), .string ⟨v.toArray⟩, .string ⟨e.toArray⟩, .string ⟨d.toArray⟩, k] 27)
 have hn2 := hn.below hbk
 have C4 := (Below.heap_alloc (W.alloc (.cells #[vv] 24)) (.cells #[.int .i64 0, .int .i64 (f : Int), .int .i64 (n : Int), .string ⟨v.toArray⟩, .string ⟨e.toArray⟩, .string ⟨d.toArray⟩, k] 27) W.heap.size (by simp)).trans (heap_alloc_new W (.cells #[vv] 24))
 have C6 := heap_alloc_new (W.alloc (.cells #[vv] 24)) (.cells #[.int .i64 0, .int .i64 (f : Int), .int .i64 (n : Int), .string ⟨v.toArray⟩, .string ⟨e.toArray⟩, .string ⟨d.toArray⟩, k] 27)
 rw [show (W.alloc (.cells #[vv] 24)).heap.size = W.heap.size + 1 by simp] at C6
 obtain ⟨W2, hW2⟩ : ∃ W2, (W.alloc (.cells #[vv] 24)).alloc (.cells #[.int .i64 0, .int .i64 (f : Int), .int .i64 (n : Int), .string ⟨v.toArray⟩, .string ⟨e.toArray⟩, .string ⟨d.toArray⟩, k] 27) = W2 := ⟨_, rfl⟩
 rw [hW2] at hbk hn2 C4 C6
 have HK := Lib.hid (KidsAt.below hbk _ _ HKK.out)
 clear HKK
 rw [KidsAt] at hk
 obtain ⟨ka, kc, rfl, hkc1, hkc2, _⟩ := hk
 unfold maxLen at hkc2
 have HN := Lib.hid hn2
 have HB := Lib.hid hbk
 have HM := Lib.hid hm
 have hzd := mk_size d
 have q4 := cell_of_one C4
 obtain ⟨x0, x1, x2, x3, x4, x5, x6, _⟩ := zero_cells C6
 have HT := Lib.hid (fun W => there_calls 0 (f : Int) (n : Int) v e d (.slice ka ks.length kc) (f + row) W (fun h => by have := hvv h; omega) (by omega) ⟨_, _, _, rfl⟩)
 rw [show ((f + row : Nat) : Int) = (row : Int) + (f : Int) by omega] at HT
 clear hn hn2 hbk hm hvv
 go_enter Tryz.func41, Tryz.ntmps41
 go_upto_region 2 with (fail)
 clear hW2
 go_wp2_with (fail)
 refine (HT.out _).mono ?_; rintro x w3 ⟨rfl, hb3⟩
 rw [hon]
 have C4' := (hb3.block _ (lt_of_block C4)).trans C4
 have C6' := (hb3.block _ (lt_of_block C6)).trans C6
 have HN3 := Lib.hid (HN.out.below hb3)
 have HK3 := Lib.hid (KidsAt.below hb3 _ _ HK.out)
 have HB3 := HB.out.trans (hb3.mono HB.out.size)
 clear x0 x1 x2 x3 x4 x5 x6 q4 C4 C6 HN HB hb3
 have q4 := cell_of_one C4'
 obtain ⟨x0, x1, x2, x3, x4, x5, x6, _⟩ := zero_cells C6'
 have HU := Lib.hid (text_plain ns f n v e d ks i (f + row) hon)
 have hkr := Vp.may_kind ns hmy i hi
 have hnd : Tp.node ns (i : Int) = true := (Vp.node_of ns i).2 ⟨hmy, hi⟩
 obtain ⟨bk, o, c, rfl, hc1, hc2, hbk, g0, g2⟩ := nodes_open HN3.out hi
 have hii : (i : Int) < (ns.length : Int) := by omega
 unfold maxLen at hc2
 clear g2 HT hon
 obtain ⟨kd, hkd⟩ : ∃ kd, Tp.kindOf ns i = kd := ⟨_, rfl⟩
 rw [hkd] at HU hkr hkk g0
 go_upto_region 11 with (fail)
 go_wp2_with (fail)
 refine (refKids_calls _ ns i _ HN3.out hnd).mono ?_; rintro x w4 ⟨kr, rfl, hko, hb4⟩
 have C4'' := (hb4.block _ (lt_of_block C4')).trans C4'
 have C6'' := (hb4.block _ (lt_of_block C6')).trans C6'
 have HB4 := HB3.trans (hb4.mono HB3.size)
 have HN4 := Lib.hid (HN3.out.below hb4)
 have HK4 := Lib.hid (KidsAt.below hb4 _ _ HK3.out)
 have g4 := (hb4.cell (p := ⟨bk, o + i * 3, none⟩) hbk).trans g0
 obtain ⟨kra, krc, rfl⟩ := own_slice hko
 have HKO := Lib.hid hko
 clear x0 x1 x2 x3 x4 x5 x6 q4 C4' C6' HN3 HB3 HK3 g0 hko hb4
 have q4 := cell_of_one C4''
 obtain ⟨x0, x1, x2, x3, x4, x5, x6, _⟩ := zero_cells C6''
 obtain rfl : kd = 3 := hkk
 obtain ⟨z0, hz0, _⟩ := Tp.kids_one ns i hi hnd hkd
 obtain ⟨y, rfl, rfl, hmy2, heo⟩ := mayA_list HM.out hkd hz0
 obtain ⟨R, hR⟩ : ∃ R : Nat, f + row = R := ⟨_, rfl⟩
 have hRi : (row : Int) + (f : Int) = (R : Int) := by omega
 obtain ⟨z1, z2, z3, z4, z5⟩ := ends_at heo (row := R) (by omega)
 have HFIN := Lib.hid (show Vp.rowA ns (.mk 0 f n v e [] [y]) i row = Vp.list ((List.range (Vp.cut4 e (R + 1) - Vp.cut4 e R)).map fun j => Vp.rowA ns y z0 (Vp.cut4 e R + j)) from by
  rw [HRW.out, HU.out, hR, text_list ns e [] y i R _ _ z0 hz0 z1 z2])
 rw [hz0] at HKO
 rw [hz0]
 have hlen := (mayA_len2 hmy2)
 have HSZ := Lib.hid (fun j (hj : Vp.cut4 e R + j < Vp.cut4 e (R + 1)) => row_small hmy2 (r := Vp.cut4 e R + j) (by omega))
 have HEN := Lib.hid (fun W => refends_calls 0 (f : Int) (n : Int) v e [] (.slice ka 1 kc) R W z5 (by omega) ⟨_, _, _, rfl⟩)
 have hkk4 := HK4.out
 rw [KidsAt] at hkk4
 obtain ⟨ka', kc', hsl, _, _, hkk4⟩ := hkk4
 obtain ⟨rfl, _, rfl⟩ := Value.slice.inj hsl
 obtain ⟨kb, ko, rfl, hkb, hkk4⟩ := hkk4 (by simp)
 have HIY := Lib.hid (ih y (by simp))
 obtain ⟨xl, xf, xn, xv, xe, xd, xs⟩ := y
 rw [CellsAt] at hkk4
 obtain ⟨⟨q0, q1, q2, q3, q4', q5, kx, q6, hkx⟩, _⟩ := hkk4
 obtain ⟨kxa, kxc, rfl, _⟩ := (by rw [KidsAt] at hkx; exact hkx : ∃ a c, kx = .slice a xs.length c ∧ _)
 simp only [tv] at q3 q4' q5
 obtain ⟨kra', krc', hslr, _, hmr, hkrc⟩ := own_nats HKO.out
 obtain ⟨rfl, _, rfl⟩ := Value.slice.inj hslr
 obtain ⟨krb, kro, rfl, hkrb, hkrc⟩ := hkrc (by simp)
 have p0 := hkrc 0 z0 rfl
 rw [Nat.add_zero] at p0
 have HS := Lib.hid (show ∀ w', Below w4.heap.size w4 w' → (fun w' => (w'.cell? ⟨W.heap.size + 1, 0, none⟩ = some (.int .i64 0) ∧ w'.cell? ⟨W.heap.size + 1, 1, none⟩ = some (.int .i64 (f : Int)) ∧ w'.cell? ⟨W.heap.size + 1, 2, none⟩ = some (.int .i64 (n : Int)) ∧ w'.cell? ⟨W.heap.size + 1, 3, none⟩ = some (.string ⟨v.toArray⟩) ∧ w'.cell? ⟨W.heap.size + 1, 4, none⟩ = some (.string ⟨e.toArray⟩) ∧ w'.cell? ⟨W.heap.size + 1, 5, none⟩ = some (.string ⟨#[]⟩) ∧ w'.cell? ⟨W.heap.size + 1, 6, none⟩ = some (.slice (some ⟨kb, ko, none⟩) 1 kc)) ∧ w'.cell? ⟨W.heap.size, 0, none⟩ = some (.slice (some ⟨bk, o, none⟩) ns.length c) ∧ w'.cell? ⟨krb, kro, none⟩ = some (.int .i64 (z0 : Int)) ∧ (w'.cell? ⟨kb, ko, none⟩ = some (.int .i64 xl) ∧ w'.cell? ⟨kb, ko + 1, none⟩ = some (.int .i64 xf) ∧ w'.cell? ⟨kb, ko + 2, none⟩ = some (.int .i64 xn) ∧ w'.cell? ⟨kb, ko + 3, none⟩ = some (.string ⟨xv.toArray⟩) ∧ w'.cell? ⟨kb, ko + 4, none⟩ = some (.string ⟨xe.toArray⟩) ∧ w'.cell? ⟨kb, ko + 5, none⟩ = some (.string ⟨xd.toArray⟩) ∧ w'.cell? ⟨kb, ko + 6, none⟩ = some (.slice kxa xs.length kxc)) ∧ Below w4.heap.size w4 w') w' from fun w' h => ⟨(box7 C6'' h).1, (h.cell (p := ⟨W.heap.size, 0, none⟩) (lt_of_block C4'')).trans q4, (h.cell (p := ⟨krb, kro, none⟩) hkrb).trans p0,
  ⟨(h.cell (p := ⟨kb, _, none⟩) hkb).trans q0, (h.cell (p := ⟨kb, _, none⟩) hkb).trans q1, (h.cell (p := ⟨kb, _, none⟩) hkb).trans q2, (h.cell (p := ⟨kb, _, none⟩) hkb).trans q3, (h.cell (p := ⟨kb, _, none⟩) hkb).trans q4', (h.cell (p := ⟨kb, _, none⟩) hkb).trans q5, (h.cell (p := ⟨kb, _, none⟩) hkb).trans q6⟩, h⟩)
 have hzB : Vp.cut4 e (R + 1) ≤ xn.toNat := by
  have e2 : (Arr.mk xl xf xn xv xe xd xs).len = xn := rfl
  rw [e2] at z4
  omega
 generalize Vp.cut4 e R = A at z3 HFIN HSZ HEN
 generalize Vp.cut4 e (R + 1) = B at z3 z4 HFIN HSZ HEN hzB
 have hxn64 : xn ≤ 64 := hlen
 have hAB : (A : Int) ≤ (B : Int) := by omega
 have HV0 := Lib.hid (fun q (hq : q < B - A) w' (h : Below w4.heap.size w4 w') => HIY.out (.mk xl xf xn xv xe xd xs) z0 (A + q) (arrV xl xf xn xv xe xd (.slice kxa xs.length kxc)) (.slice (some ⟨bk, o, none⟩) ns.length c) w' (Nat.lt_succ_self _) hmy2 (show A + q < Int.toNat xn by omega) ⟨_, rfl, KidsAt.below h _ _ hkx⟩ (HN4.out.below h))
 clear HRW HU HIY hR z1 z2 z4 z5 hsl hslr heo HKO HK4 HM hkrc
 go_wp2_with (fail)
 refine (HEN.out _).mono ?_; rintro x w5 ⟨rfl, hb5⟩
 have HB5 := HB4.trans (hb5.mono HB4.size)
 go_wp2_with (fail)
 clear x0 x1 x2 x3 x4 x5 x6 q0 q1 q2 q3 q4' q5 q6 p0
 go_loopw [12, 17] (fun vs ix wr => ∃ q : Nat, q ≤ B - A ∧ ix = .int .i64 ((A : Int) + (q : Int)) ∧ wr.ownsRow w5.heap.size 9 1 vs q (((List.range q).map fun j => Vp.rowA ns (.mk xl xf xn xv xe xd xs) z0 (A + j)).map tv) ∧ Below w5.heap.size w5 wr) (fun _ ix _ => B - (intOf ix).toNat)
 case atStart => exact ⟨0, Nat.zero_le _, by simp, own_nil, Below.refl _ _⟩
 case round =>
  obtain ⟨q, hq, rfl, hu, hb5r⟩ := hrel
  have HO := Lib.hid hu
  clear hu
  have HBR := below_then hb5 hb5r
  have hs45 := hb5.size
  have hs5r := hb5r.size
  by_cases hlt : q < B - A
  ·have hqi : (A : Int) + (q : Int) < (B : Int) := by omega
   have HV := Lib.hid (HV0.out q hlt)
   rw [show ((A + q : Nat) : Int) = (A : Int) + (q : Int) by omega] at HV
   go_upto_region 26 with (fail)
   refine wp_region_held_drew (S := (fun w' => (w'.cell? ⟨W.heap.size + 1, 0, none⟩ = some (.int .i64 0) ∧ w'.cell? ⟨W.heap.size + 1, 1, none⟩ = some (.int .i64 (f : Int)) ∧ w'.cell? ⟨W.heap.size + 1, 2, none⟩ = some (.int .i64 (n : Int)) ∧ w'.cell? ⟨W.heap.size + 1, 3, none⟩ = some (.string ⟨v.toArray⟩) ∧ w'.cell? ⟨W.heap.size + 1, 4, none⟩ = some (.string ⟨e.toArray⟩) ∧ w'.cell? ⟨W.heap.size + 1, 5, none⟩ = some (.string ⟨#[]⟩) ∧ w'.cell? ⟨W.heap.size + 1, 6, none⟩ = some (.slice (some ⟨kb, ko, none⟩) 1 kc)) ∧ w'.cell? ⟨W.heap.size, 0, none⟩ = some (.slice (some ⟨bk, o, none⟩) ns.length c) ∧ w'.cell? ⟨krb, kro, none⟩ = some (.int .i64 (z0 : Int)) ∧ (w'.cell? ⟨kb, ko, none⟩ = some (.int .i64 xl) ∧ w'.cell? ⟨kb, ko + 1, none⟩ = some (.int .i64 xf) ∧ w'.cell? ⟨kb, ko + 2, none⟩ = some (.int .i64 xn) ∧ w'.cell? ⟨kb, ko + 3, none⟩ = some (.string ⟨xv.toArray⟩) ∧ w'.cell? ⟨kb, ko + 4, none⟩ = some (.string ⟨xe.toArray⟩) ∧ w'.cell? ⟨kb, ko + 5, none⟩ = some (.string ⟨xd.toArray⟩) ∧ w'.cell? ⟨kb, ko + 6, none⟩ = some (.slice kxa xs.length kxc)) ∧ Below w4.heap.size w4 w')) (by kernel_rfl) (HS.out _ (below_drew HBR)) (fun hHeld => ?_)
   refine tk 0 (v := ?_) rfl (fun _ _ _ h => h) (Or.inl ⟨by rfl, ?_⟩) (by assumption) ?_; rotate_left; focus (intro w hSw; (try dsimp only at hSw); go_simp; try with_reducible rfl)
   (try simp only [sx])
   refine tk 1 (v := ?_) rfl (fun _ _ _ h => h) (Or.inl ⟨by rfl, ?_⟩) (by assumption) ?_; rotate_left; focus (intro w hSw; (try dsimp only at hSw); go_simp; try with_reducible rfl)
   (try simp only [sx])
   refine tk 2 (v := ?_) rfl (fun _ _ _ h => h) (Or.inl ⟨by rfl, ?_⟩) (by assumption) ?_; rotate_left; focus (intro w hSw; (try dsimp only at hSw); go_simp; try with_reducible rfl)
   (try simp only [sx])
   refine tk 3 (v := ?_) rfl (fun _ _ _ h => h) (Or.inl ⟨by rfl, ?_⟩) (by assumption) ?_; rotate_left; focus (intro w hSw; (try dsimp only at hSw); go_simp; try with_reducible rfl)
   (try simp only [sx])
   refine tk 4 (v := ?_) rfl (fun _ _ _ h => h) (Or.inl ⟨by rfl, ?_⟩) (by assumption) ?_; rotate_left; focus (intro w hSw; (try dsimp only at hSw); go_simp; try with_reducible rfl)
   (try simp only [sx])
   refine tk 5 (v := ?_) rfl (fun _ _ _ h => h) (Or.inl ⟨by rfl, ?_⟩) (by assumption) ?_; rotate_left; focus (intro w hSw; (try dsimp only at hSw); go_simp; try with_reducible rfl)
   (try simp only [sx])
   refine tk 6 (v := ?_) rfl (fun _ _ _ h => h) (Or.inl ⟨by rfl, ?_⟩) (by assumption) ?_; rotate_left; focus (intro w hSw; (try dsimp only at hSw); go_simp; try with_reducible rfl)
   (try simp only [sx])
   refine tk 7 (v := ?_) rfl (fun _ _ _ h => h) (Or.inl ⟨by rfl, ?_⟩) (by assumption) ?_; rotate_left; focus (intro w hSw; (try dsimp only at hSw); go_simp; try with_reducible rfl)
   (try simp only [sx])
   refine tk 8 (v := ?_) rfl (fun _ _ _ h => h) (Or.inl ⟨by rfl, ?_⟩) (by assumption) ?_; rotate_left; focus (intro w hSw; (try dsimp only at hSw); go_simp; try with_reducible rfl)
   (try simp only [sx])
   refine tk 9 (v := ?_) rfl (fun _ _ _ h => h) (Or.inl ⟨by rfl, ?_⟩) (by assumption) ?_; rotate_left; focus (intro w hSw; (try dsimp only at hSw); go_simp; try with_reducible rfl)
   (try simp only [sx])
   refine wpAnyH_ready (rs := [10]) (by kernel_rfl) (by simp) ?_
   refine AllReadyH.cons rfl (fun K hK => ?_) AllReadyH.nil
   go_simp
   go_at_call 41; refine (HV.out _ hHeld.2.2.2.2).mono ?_; rintro y' w6 ⟨rfl, hb6⟩; have HX4 := below_then hHeld.2.2.2.2 hb6; have hbw : Below wr.heap.size wr w6 := below_then (below_drew (Below.refl _ _)) hb6
   clear hHeld
   refine hK.out _ _ (HS.out _ HX4) (fun hHeld => ?_)
   clear hK K
   (try simp only [sx])
   refine wpAnyH_ready (rs := [11]) (by kernel_rfl) (by simp) ?_
   refine AllReadyH.cons rfl (fun K hK => ?_) AllReadyH.nil
   go_simp
   clear hHeld
   refine hK.out _ _ (HS.out _ (below_alloc HX4 _)) (fun hHeld => ?_)
   clear hK K
   (try simp only [sx])
   refine wpAnyH_ready (rs := [12]) (by kernel_rfl) (by simp) ?_
   refine AllReadyH.cons rfl (fun K hK => ?_) AllReadyH.nil
   refine step_app (by rfl) _ _ 39 9 (by rfl) w5.heap.size 1 16 (.string ⟨#[]⟩) Tryz.underlying39 info_string rfl (by decide) _ _ _ [tv (Vp.rowA ns (.mk xl xf xn xv xe xd xs) z0 (A + q))] rfl (by intro y hy; rw [List.mem_singleton.1 hy]; rfl) (by rfl) _ (by rfl) (blk_new _ _) (own_below HO.out (below_alloc hbw _)) (by omega) (by omega) (by have := hbw.size; have := hb5r.size; simp; omega) ?_
   intro g7 cap7 w7 ho7 hb7 hg7
   refine hK.out _ _ (HS.out _ ((below_alloc HX4 _).trans (hb7.mono hs45))) (fun hHeld => ?_)
   clear hK K
   (try simp only [sx])
   refine tk 13 (v := ?_) rfl (fun _ _ _ h => h) (Or.inl ⟨by rfl, ?_⟩) (by assumption) ?_; rotate_left; focus (intro w hSw; (try dsimp only at hSw); go_simp; try with_reducible rfl)
   (try simp only [sx])
   refine wpAnyH_done (by kernel_rfl) ?_ _
   go_wp2
   refine ⟨⟨q + 1, by omega, by go_num, ?_, hb5r.trans (((below_alloc hbw _).mono hb5r.size).trans hb7)⟩, by simp [intOf]; omega⟩
   rw [List.range_succ, List.map_append, List.map_append]
   exact ho7
  ·obtain rfl : q = B - A := by omega
   go_wp2_with (fail)
   refine (refList_calls _ ((List.range (B - A)).map fun j => Vp.rowA ns (.mk xl xf xn xv xe xd xs) z0 (A + j)) _ (own_texts (by rw [List.length_map, List.length_range]; exact HO.out)) ?_).mono ?_
   ·have hj := Vp.join_length ((List.range (B - A)).map fun j => Vp.rowA ns (.mk xl xf xn xv xe xd xs) z0 (A + j)) 65536 (by
     intro p hp
     obtain ⟨j, hj, rfl⟩ := List.mem_map.1 hp
     exact HSZ.out j (by have := List.mem_range.1 hj; omega))
    rw [List.length_map, List.length_range] at hj
    have : (B - A) * 65536 ≤ 64 * 65536 := Nat.mul_le_mul_right _ (by omega)
    omega
   rintro x w8 ⟨rfl, hb8⟩
   go_wp2
   go_ret
   exact ⟨by rw [HFIN.out]; rfl, HB5.trans ((below_then hb5r hb8).mono HB5.size)⟩
end Go.Proofs.YtobhjlchpnpleaaGreatDoor

/- The reference's value of a row, walked: structs. -/
namespace Go.Proofs.YtobhjlchpnpleaaGreatDoor
open Go.RowKit
set_option linter.unusedVariables false
set_option linter.unusedSimpArgs false

set_option maxRecDepth 100000 in
set_option maxHeartbeats 6400000 in
theorem value_struct (ns : List Tp.Nd) (f n : Nat) (v e d : Vp.Txt) (ks : List Arr) (k vv : Value) (i row : Nat) (W : World)
  (hm : Vp.mayA ns (.mk 0 f n v e d ks) i = true) (hr : row < n) (hk : KidsAt W ks k) (hn : NodesAt W vv ns) (hon : Vp.on v (f + row) = true) (hkk : Tp.kindOf ns i = 4) (ih : ∀ a ∈ ks, RefValOK ns (SizeOf.sizeOf a + 1)) :
  Calls Tryz.prog 41 #[typeV vv, .int .i64 (i : Int), arrV 0 (f : Int) (n : Int) v e d k, .int .i64 (row : Int)] W fun x w' => x = .returned (tv (Vp.rowA ns (.mk 0 f n v e d ks) i row)) ∧ Below W.heap.size W w' := by
 have HRW := Lib.hid (show Vp.rowA ns (.mk 0 f n v e d ks) i row = Vp.textA ns (.mk 0 f n v e d ks) i (f + row) from rfl)
 obtain ⟨hmy, hi, _, _, hfn, hv1, he1, hd1, hvv⟩ := mayA_nums hm
 have HKK := Lib.hid hk
 have hbk := below_alloc (below_alloc (Below.refl W.heap.size W) (.cells #[vv] 24)) (.cells #[.int .i64 0, .int .i64 (f : Int), .int .i64 (n : Int), .string ⟨v.toArray⟩, .string ⟨e.toArray⟩, .string ⟨d.toArray⟩, k] 27)
 have hn2 := hn.below hbk
 have C4 := (Below.heap_alloc (W.alloc (.cells #[vv] 24)) (.cells #[.int .i64 0, .int .i64 (f : Int), .int .i64 (n : Int), .string ⟨v.toArray⟩, .string ⟨e.toArray⟩, .string ⟨d.toArray⟩, k] 27) W.heap.size (by simp)).trans (heap_alloc_new W (.cells #[vv] 24))
 have C6 := heap_alloc_new (W.alloc (.cells #[vv] 24)) (.cells #[.int .i64 0, .int .i64 (f : Int), .int .i64 (n : Int), .string ⟨v.toArray⟩, .string ⟨e.toArray⟩, .string ⟨d.toArray⟩, k] 27)
 rw [show (W.alloc (.cells #[vv] 24)).heap.size = W.heap.size + 1 by simp] at C6
 obtain ⟨W2, hW2⟩ : ∃ W2, (W.alloc (.cells #[vv] 24)).alloc (.cells #[.int .i64 0, .int .i64 (f : Int), .int .i64 (n : Int), .string ⟨v.toArray⟩, .string ⟨e.toArray⟩, .string ⟨d.toArray⟩, k] 27) = W2 := ⟨_, rfl⟩
 rw [hW2] at hbk hn2 C4 C6
 have HK := Lib.hid (KidsAt.below hbk _ _ HKK.out)
 clear HKK
 rw [KidsAt] at hk
 obtain ⟨ka, kc, rfl, hkc1, hkc2, _⟩ := hk
 unfold maxLen at hkc2
 have HN := Lib.hid hn2
 have HB := Lib.hid hbk
 have HM := Lib.hid hm
 have hzd := mk_size d
 have q4 := cell_of_one C4
 obtain ⟨x0, x1, x2, x3, x4, x5, x6, _⟩ := zero_cells C6
 have HT := Lib.hid (fun W => there_calls 0 (f : Int) (n : Int) v e d (.slice ka ks.length kc) (f + row) W (fun h => by have := hvv h; omega) (by omega) ⟨_, _, _, rfl⟩)
 rw [show ((f + row : Nat) : Int) = (row : Int) + (f : Int) by omega] at HT
 clear hn hn2 hbk hm hvv
 go_enter Tryz.func41, Tryz.ntmps41
 go_upto_region 2 with (fail)
 clear hW2
 go_wp2_with (fail)
 refine (HT.out _).mono ?_; rintro x w3 ⟨rfl, hb3⟩
 rw [hon]
 have C4' := (hb3.block _ (lt_of_block C4)).trans C4
 have C6' := (hb3.block _ (lt_of_block C6)).trans C6
 have HN3 := Lib.hid (HN.out.below hb3)
 have HK3 := Lib.hid (KidsAt.below hb3 _ _ HK.out)
 have HB3 := HB.out.trans (hb3.mono HB.out.size)
 clear x0 x1 x2 x3 x4 x5 x6 q4 C4 C6 HN HB hb3
 have q4 := cell_of_one C4'
 obtain ⟨x0, x1, x2, x3, x4, x5, x6, _⟩ := zero_cells C6'
 have HU := Lib.hid (text_plain ns f n v e d ks i (f + row) hon)
 have hkr := Vp.may_kind ns hmy i hi
 have hnd : Tp.node ns (i : Int) = true := (Vp.node_of ns i).2 ⟨hmy, hi⟩
 obtain ⟨bk, o, c, rfl, hc1, hc2, hbk, g0, g2⟩ := nodes_open HN3.out hi
 have hii : (i : Int) < (ns.length : Int) := by omega
 unfold maxLen at hc2
 clear g2 HT hon
 obtain ⟨kd, hkd⟩ : ∃ kd, Tp.kindOf ns i = kd := ⟨_, rfl⟩
 rw [hkd] at HU hkr hkk g0
 go_upto_region 11 with (fail)
 go_wp2_with (fail)
 refine (refKids_calls _ ns i _ HN3.out hnd).mono ?_; rintro x w4 ⟨kr, rfl, hko, hb4⟩
 have C4'' := (hb4.block _ (lt_of_block C4')).trans C4'
 have C6'' := (hb4.block _ (lt_of_block C6')).trans C6'
 have HB4 := HB3.trans (hb4.mono HB3.size)
 have HN4 := Lib.hid (HN3.out.below hb4)
 have HK4 := Lib.hid (KidsAt.below hb4 _ _ HK3.out)
 have g4 := (hb4.cell (p := ⟨bk, o + i * 3, none⟩) hbk).trans g0
 obtain ⟨kra, krc, rfl⟩ := own_slice hko
 have HKO := Lib.hid hko
 clear x0 x1 x2 x3 x4 x5 x6 q4 C4' C6' HN3 HB3 HK3 g0 hko hb4
 have q4 := cell_of_one C4''
 obtain ⟨x0, x1, x2, x3, x4, x5, x6, _⟩ := zero_cells C6''
 obtain rfl : kd = 4 := hkk
 obtain ⟨hl1, hkids⟩ := mayA_struct HM.out hkd
 obtain ⟨R, hR⟩ : ∃ R : Nat, f + row = R := ⟨_, rfl⟩
 have hRi : (row : Int) + (f : Int) = (R : Int) := by omega
 have HFIN := Lib.hid (show Vp.rowA ns (.mk 0 f n v e d ks) i row = Vp.struct ((List.range (Tp.kids ns (i : Int)).length).map fun j => Vp.rowA ns (ks.getD j Arr.none) ((Tp.kids ns (i : Int)).getD j 0) R) from by
  rw [HRW.out, HU.out, hR, text_struct ns e d ks i R hl1])
 have hk8 := Vp.kids_gt ns hmy i
 have hns := Vp.may_len ns hmy
 have hkl : (Tp.kids ns (i : Int)).length ≤ ns.length := by unfold Tp.kids Tp.kidsTo; exact Nat.le_trans (List.length_filter_le _ _) (by rw [List.length_range]; exact Nat.le_refl _)
 generalize Tp.kids ns (i : Int) = zs at hl1 hkids HFIN HKO hkl ⊢
 have HKD := Lib.hid hkids
 have HLEN := Lib.hid hl1
 obtain ⟨kra', krc', hslr, _, hmr, hkr⟩ := own_nats HKO.out
 obtain ⟨rfl, _, rfl⟩ := Value.slice.inj hslr
 unfold maxLen at hmr
 have HKR := Lib.hid hkr
 have HKQ := Lib.hid (kids_open HK4.out)
 have HRF := Lib.hid (show R < f + n by omega)
 clear HRW HU hR hslr HKO HK4 HM hkr hkids hl1 hk8 hkd
 go_wp2_with (fail)
 go_loopw [12, 18] (fun vs ix wr => ∃ q : Nat, q ≤ zs.length ∧ ix = .int .i64 (q : Int) ∧ wr.ownsRow w4.heap.size 9 1 vs q (((List.range q).map fun j => Vp.rowA ns (ks.getD j Arr.none) (zs.getD j 0) R).map tv) ∧ Below w4.heap.size w4 wr) (fun _ ix _ => zs.length - (intOf ix).toNat)
 case atStart => exact ⟨0, Nat.zero_le _, rfl, own_nil, Below.refl _ _⟩
 case round =>
  obtain ⟨q, hq, rfl, hu, HBR⟩ := hrel
  have HO := Lib.hid hu
  have hs4 := HBR.size
  clear hu
  by_cases hlt : q < zs.length
  ·have hqi : (q : Int) < (zs.length : Int) := by omega
   have hlk : q < ks.length := by have := HLEN.out; omega
   have hlki : (q : Int) < (ks.length : Int) := by omega
   obtain ⟨krb, kro, rfl, hkrb, hkr⟩ := HKR.out (by intro h; rw [h] at hlt; exact Nat.not_lt_zero _ hlt)
   obtain ⟨kb, ko, rfl, hkb, hkc⟩ := HKQ.out (by intro h; rw [h] at hlk; exact Nat.not_lt_zero _ hlk)
   have hz := List.getElem?_eq_getElem hlt
   have hx := List.getElem?_eq_getElem hlk
   have hzd : zs.getD q 0 = zs[q] := by rw [List.getD_eq_getElem?_getD, hz]; rfl
   have hxd : ks.getD q Arr.none = ks[q] := by rw [List.getD_eq_getElem?_getD, hx]; rfl
   have hxm : ks[q] ∈ ks := List.getElem_mem hlk
   have hkq := HKD.out q hlt
   have p0 := hkr q _ hz
   rw [hzd, hxd] at hkq
   generalize zs[q] = z0 at hz hzd p0 hkq
   generalize ks[q] = x at hx hxd hxm hkq
   obtain ⟨xl, xf, xn, xv, xe, xd, xs⟩ := x
   obtain ⟨q0, q1, q2, q3, q4', q5, kx, q6, hkx⟩ := CellsAt.at ks ko q _ _ _ _ _ _ _ hkc hx
   obtain ⟨kxa, kxc, rfl, _⟩ := (by rw [KidsAt] at hkx; exact hkx : ∃ a c, kx = .slice a xs.length c ∧ _)
   simp only [tv] at q3 q4' q5
   have hxn : (f : Int) + (n : Int) ≤ xn := hkq.2
   have HS := Lib.hid (show ∀ w', Below w4.heap.size w4 w' → (fun w' => (w'.cell? ⟨W.heap.size + 1, 0, none⟩ = some (.int .i64 0) ∧ w'.cell? ⟨W.heap.size + 1, 1, none⟩ = some (.int .i64 (f : Int)) ∧ w'.cell? ⟨W.heap.size + 1, 2, none⟩ = some (.int .i64 (n : Int)) ∧ w'.cell? ⟨W.heap.size + 1, 3, none⟩ = some (.string ⟨v.toArray⟩) ∧ w'.cell? ⟨W.heap.size + 1, 4, none⟩ = some (.string ⟨e.toArray⟩) ∧ w'.cell? ⟨W.heap.size + 1, 5, none⟩ = some (.string ⟨d.toArray⟩) ∧ w'.cell? ⟨W.heap.size + 1, 6, none⟩ = some (.slice (some ⟨kb, ko, none⟩) ks.length kc)) ∧ w'.cell? ⟨W.heap.size, 0, none⟩ = some (.slice (some ⟨bk, o, none⟩) ns.length c) ∧ w'.cell? ⟨krb, kro + q, none⟩ = some (.int .i64 (z0 : Int)) ∧ (w'.cell? ⟨kb, ko + q * 7, none⟩ = some (.int .i64 xl) ∧ w'.cell? ⟨kb, ko + q * 7 + 1, none⟩ = some (.int .i64 xf) ∧ w'.cell? ⟨kb, ko + q * 7 + 2, none⟩ = some (.int .i64 xn) ∧ w'.cell? ⟨kb, ko + q * 7 + 3, none⟩ = some (.string ⟨xv.toArray⟩) ∧ w'.cell? ⟨kb, ko + q * 7 + 4, none⟩ = some (.string ⟨xe.toArray⟩) ∧ w'.cell? ⟨kb, ko + q * 7 + 5, none⟩ = some (.string ⟨xd.toArray⟩) ∧ w'.cell? ⟨kb, ko + q * 7 + 6, none⟩ = some (.slice kxa xs.length kxc)) ∧ Below w4.heap.size w4 w') w' from fun w' h => ⟨(box7 C6'' h).1, (h.cell (p := ⟨W.heap.size, 0, none⟩) (lt_of_block C4'')).trans (cell_of_one C4''), (h.cell (p := ⟨krb, _, none⟩) hkrb).trans p0,
    ⟨(h.cell (p := ⟨kb, _, none⟩) hkb).trans q0, (h.cell (p := ⟨kb, _, none⟩) hkb).trans q1, (h.cell (p := ⟨kb, _, none⟩) hkb).trans q2, (h.cell (p := ⟨kb, _, none⟩) hkb).trans q3, (h.cell (p := ⟨kb, _, none⟩) hkb).trans q4', (h.cell (p := ⟨kb, _, none⟩) hkb).trans q5, (h.cell (p := ⟨kb, _, none⟩) hkb).trans q6⟩, h⟩)
   have HV := Lib.hid (fun w' (h : Below w4.heap.size w4 w') => ih (.mk xl xf xn xv xe xd xs) hxm (.mk xl xf xn xv xe xd xs) z0 R (arrV xl xf xn xv xe xd (.slice kxa xs.length kxc)) (.slice (some ⟨bk, o, none⟩) ns.length c) w' (Nat.lt_succ_self _) hkq.1 (show R < Int.toNat xn by have := HRF.out; omega) ⟨_, rfl, KidsAt.below h _ _ hkx⟩ (HN4.out.below h))
   have HZD := Lib.hid hzd
   have HXD := Lib.hid hxd
   clear hkr hkc hz hx hzd hxd hxm p0 q0 q1 q2 q3 q4' q5 q6 hkx hkq x0 x1 x2 x3 x4 x5 x6 q4
   go_upto_region 31 with (fail)
   refine wp_region_held_drew (S := (fun w' => (w'.cell? ⟨W.heap.size + 1, 0, none⟩ = some (.int .i64 0) ∧ w'.cell? ⟨W.heap.size + 1, 1, none⟩ = some (.int .i64 (f : Int)) ∧ w'.cell? ⟨W.heap.size + 1, 2, none⟩ = some (.int .i64 (n : Int)) ∧ w'.cell? ⟨W.heap.size + 1, 3, none⟩ = some (.string ⟨v.toArray⟩) ∧ w'.cell? ⟨W.heap.size + 1, 4, none⟩ = some (.string ⟨e.toArray⟩) ∧ w'.cell? ⟨W.heap.size + 1, 5, none⟩ = some (.string ⟨d.toArray⟩) ∧ w'.cell? ⟨W.heap.size + 1, 6, none⟩ = some (.slice (some ⟨kb, ko, none⟩) ks.length kc)) ∧ w'.cell? ⟨W.heap.size, 0, none⟩ = some (.slice (some ⟨bk, o, none⟩) ns.length c) ∧ w'.cell? ⟨krb, kro + q, none⟩ = some (.int .i64 (z0 : Int)) ∧ (w'.cell? ⟨kb, ko + q * 7, none⟩ = some (.int .i64 xl) ∧ w'.cell? ⟨kb, ko + q * 7 + 1, none⟩ = some (.int .i64 xf) ∧ w'.cell? ⟨kb, ko + q * 7 + 2, none⟩ = some (.int .i64 xn) ∧ w'.cell? ⟨kb, ko + q * 7 + 3, none⟩ = some (.string ⟨xv.toArray⟩) ∧ w'.cell? ⟨kb, ko + q * 7 + 4, none⟩ = some (.string ⟨xe.toArray⟩) ∧ w'.cell? ⟨kb, ko + q * 7 + 5, none⟩ = some (.string ⟨xd.toArray⟩) ∧ w'.cell? ⟨kb, ko + q * 7 + 6, none⟩ = some (.slice kxa xs.length kxc)) ∧ Below w4.heap.size w4 w')) (by kernel_rfl) (HS.out _ (below_drew HBR)) (fun hHeld => ?_)
   refine tk 0 (v := ?_) rfl (fun _ _ _ h => h) (Or.inl ⟨by rfl, ?_⟩) (by assumption) ?_; rotate_left; focus (intro w hSw; (try dsimp only at hSw); go_simp; try with_reducible rfl)
   (try simp only [sx])
   refine tk 1 (v := ?_) rfl (fun _ _ _ h => h) (Or.inl ⟨by rfl, ?_⟩) (by assumption) ?_; rotate_left; focus (intro w hSw; (try dsimp only at hSw); go_simp; try with_reducible rfl)
   (try simp only [sx])
   refine tk 2 (v := ?_) rfl (fun _ _ _ h => h) (Or.inl ⟨by rfl, ?_⟩) (by assumption) ?_; rotate_left; focus (intro w hSw; (try dsimp only at hSw); go_simp; try with_reducible rfl)
   (try simp only [sx])
   refine tk 3 (v := ?_) rfl (fun _ _ _ h => h) (Or.inl ⟨by rfl, ?_⟩) (by assumption) ?_; rotate_left; focus (intro w hSw; (try dsimp only at hSw); go_simp; try with_reducible rfl)
   (try simp only [sx])
   refine tk 4 (v := ?_) rfl (fun _ _ _ h => h) (Or.inl ⟨by rfl, ?_⟩) (by assumption) ?_; rotate_left; focus (intro w hSw; (try dsimp only at hSw); go_simp; try with_reducible rfl)
   (try simp only [sx])
   refine tk 5 (v := ?_) rfl (fun _ _ _ h => h) (Or.inl ⟨by rfl, ?_⟩) (by assumption) ?_; rotate_left; focus (intro w hSw; (try dsimp only at hSw); go_simp; try with_reducible rfl)
   (try simp only [sx])
   refine tk 6 (v := ?_) rfl (fun _ _ _ h => h) (Or.inl ⟨by rfl, ?_⟩) (by assumption) ?_; rotate_left; focus (intro w hSw; (try dsimp only at hSw); go_simp; try with_reducible rfl)
   (try simp only [sx])
   refine tk 7 (v := ?_) rfl (fun _ _ _ h => h) (Or.inl ⟨by rfl, ?_⟩) (by assumption) ?_; rotate_left; focus (intro w hSw; (try dsimp only at hSw); go_simp; try with_reducible rfl)
   (try simp only [sx])
   refine tk 8 (v := ?_) rfl (fun _ _ _ h => h) (Or.inl ⟨by rfl, ?_⟩) (by assumption) ?_; rotate_left; focus (intro w hSw; (try dsimp only at hSw); go_simp; try with_reducible rfl)
   (try simp only [sx])
   refine tk 9 (v := ?_) rfl (fun _ _ _ h => h) (Or.inl ⟨by rfl, ?_⟩) (by assumption) ?_; rotate_left; focus (intro w hSw; (try dsimp only at hSw); go_simp; try with_reducible rfl)
   (try simp only [sx])
   refine tk 10 (v := ?_) rfl (fun _ _ _ h => h) (Or.inl ⟨by rfl, ?_⟩) (by assumption) ?_; rotate_left; focus (intro w hSw; (try dsimp only at hSw); go_simp; try with_reducible rfl)
   (try simp only [sx])
   refine tk 11 (v := ?_) rfl (fun _ _ _ h => h) (Or.inl ⟨by rfl, ?_⟩) (by assumption) ?_; rotate_left; focus (intro w hSw; (try dsimp only at hSw); go_simp; try with_reducible rfl)
   (try simp only [sx])
   refine wpAnyH_ready (rs := [12]) (by kernel_rfl) (by simp) ?_
   refine AllReadyH.cons rfl (fun K hK => ?_) AllReadyH.nil
   go_simp
   go_at_call 41; refine (HV.out _ hHeld.2.2.2.2).mono ?_; rintro y' w6 ⟨rfl, hb6⟩; have HX4 := below_then hHeld.2.2.2.2 hb6; have hbw : Below wr.heap.size wr w6 := below_then (below_drew (Below.refl _ _)) hb6
   clear hHeld
   refine hK.out _ _ (HS.out _ HX4) (fun hHeld => ?_)
   clear hK K
   (try simp only [sx])
   refine wpAnyH_ready (rs := [13]) (by kernel_rfl) (by simp) ?_
   refine AllReadyH.cons rfl (fun K hK => ?_) AllReadyH.nil
   go_simp
   clear hHeld
   refine hK.out _ _ (HS.out _ (below_alloc HX4 _)) (fun hHeld => ?_)
   clear hK K
   (try simp only [sx])
   refine wpAnyH_ready (rs := [14]) (by kernel_rfl) (by simp) ?_
   refine AllReadyH.cons rfl (fun K hK => ?_) AllReadyH.nil
   refine step_app (by rfl) _ _ 39 9 (by rfl) w4.heap.size 1 16 (.string ⟨#[]⟩) Tryz.underlying39 info_string rfl (by decide) _ _ _ [tv (Vp.rowA ns (.mk xl xf xn xv xe xd xs) z0 R)] rfl (by intro y hy; rw [List.mem_singleton.1 hy]; rfl) (by rfl) _ (by rfl) (blk_new _ _) (own_below HO.out (below_alloc hbw _)) (by omega) (by omega) (by have := hbw.size; simp; omega) ?_
   intro g7 cap7 w7 ho7 hb7 hg7
   refine hK.out _ _ (HS.out _ ((below_alloc HX4 _).trans hb7)) (fun hHeld => ?_)
   clear hK K
   (try simp only [sx])
   refine tk 15 (v := ?_) rfl (fun _ _ _ h => h) (Or.inl ⟨by rfl, ?_⟩) (by assumption) ?_; rotate_left; focus (intro w hSw; (try dsimp only at hSw); go_simp; try with_reducible rfl)
   (try simp only [sx])
   refine wpAnyH_done (by kernel_rfl) ?_ _
   go_wp2
   refine ⟨⟨q + 1, by omega, by go_num, ?_, HBR.trans (((below_alloc hbw _).mono HBR.size).trans hb7)⟩, by simp [intOf]; omega⟩
   rw [List.range_succ, List.map_append, List.map_append, List.map_cons, List.map_nil, List.map_cons, List.map_nil, HZD.out, HXD.out]
   exact ho7
  ·obtain rfl : q = zs.length := by omega
   go_wp2_with (fail)
   refine (refStruct_calls _ ((List.range zs.length).map fun j => Vp.rowA ns (ks.getD j Arr.none) (zs.getD j 0) R) _ (own_texts (by rw [List.length_map, List.length_range]; exact HO.out)) ?_).mono ?_
   ·have hj := Vp.join_length ((List.range zs.length).map fun j => Vp.rowA ns (ks.getD j Arr.none) (zs.getD j 0) R) 65536 (by
     intro p hp
     obtain ⟨j, hj, rfl⟩ := List.mem_map.1 hp
     have hkj := HKD.out j (List.mem_range.1 hj)
     exact row_small hkj.1 (by have := HRF.out; omega))
    rw [List.length_map, List.length_range] at hj
    have : zs.length * 65536 ≤ 8 * 65536 := Nat.mul_le_mul_right _ (by omega)
    omega
   rintro x w8 ⟨rfl, hb8⟩
   go_wp2
   go_ret
   exact ⟨by rw [HFIN.out]; rfl, HB4.trans ((below_then HBR hb8).mono HB4.size)⟩
end Go.Proofs.YtobhjlchpnpleaaGreatDoor
