/- Several texts in one: RdB, RdC. -/
import Derived.Test.YtobhjlchpnpleaaGreatDoorCa30
/- Package read: rows of lists, walked. -/
namespace Go.Proofs.YtobhjlchpnpleaaGreatDoor
open Go.RowKit
set_option linter.unusedVariables false
set_option linter.unusedSimpArgs false

set_option maxRecDepth 100000 in
set_option maxHeartbeats 3200000 in
theorem rdList_calls (ns : List Tp.Nd) (g o : Nat) (f n : Nat) (v e d : Vp.Txt) (ks : List Arr) (k vv : Value) (i r : Nat) (W : World) (hm : Vp.mayA ns (.mk 0 f n v e d ks) i = true) (hr : r < n)
  (hon : Vp.on v (f + r) = true) (ha : CellA W g o 0 (f : Int) (n : Int) v e d k) (hg : g < W.heap.size) (hk : KidsAt W ks k) (hn : NodesAt W vv ns) (hv : Vars W) (hkk : Tp.kindOf ns i = 3) (ih : ∀ a ∈ ks, RowOK ns (SizeOf.sizeOf a + 1)) :
  Calls Tryz.prog 118 #[typeV vv, .int .i64 (i : Int), .pointer (some ⟨g, o, none⟩), .int .i64 ((f + r : Nat) : Int)] W fun x w' => x = .returned (tv (Vp.textA ns (.mk 0 f n v e d ks) i (f + r))) ∧ Below W.heap.size W w' := by
 have hbk := below_alloc (Below.refl W.heap.size W) (.cells #[vv] 82)
 obtain ⟨hmy, hi, _, _, hfn, hv1, he1, hd1, hvv⟩ := mayA_nums hm
 have hii : (i : Int) < (ns.length : Int) := by omega
 have hnd : Tp.node ns (i : Int) = true := (Vp.node_of ns i).2 ⟨hmy, hi⟩
 have HU := Lib.hid (text_plain ns f n v e d ks i (f + r) hon)
 obtain ⟨bk, no, nc, rfl, hc1, hc2, hbkn, g0, _⟩ := nodes_open (hn.below hbk) hi
 have HN := Lib.hid (hn.below hbk)
 have HA := Lib.hid (ha.below hbk hg)
 have HV := Lib.hid (hv.below hbk hv.six)
 have HK := Lib.hid (KidsAt.below hbk _ _ hk)
 have HSX := Lib.hid hv.six
 have q0 : (W.alloc (.cells #[.slice (some ⟨bk, no, none⟩) ns.length nc] 82)).cell? ⟨W.heap.size, 0, none⟩ = some (.slice (some ⟨bk, no, none⟩) ns.length nc) := by simp
 obtain ⟨z0, hz0, _⟩ := Tp.kids_one ns i hi hnd hkk
 obtain ⟨y, rfl, rfl, hmy2, heo⟩ := mayA_list hm hkk hz0
 unfold maxLen at hc2
 have hz4 := mk_size e
 rw [hkk] at HU g0
 clear ha hn hv hm
 obtain ⟨R, hR⟩ : ∃ R : Nat, f + r = R := ⟨_, rfl⟩
 have hRn : R < f + n := by omega
 have hfn' : f + n ≤ 64 := by omega
 rw [hR] at HU hon ⊢
 clear hR hfn hr hon hvv
 have hgl : g < (W.alloc (.cells #[.slice (some ⟨bk, no, none⟩) ns.length nc] 82)).heap.size := by simp; omega
 obtain ⟨W1, hW1⟩ : ∃ W1, W.alloc (.cells #[.slice (some ⟨bk, no, none⟩) ns.length nc] 82) = W1 := ⟨_, rfl⟩
 rw [hW1] at hbk hbkn g0 HN HA HV HK q0 hgl
 have HB := Lib.hid hbk
 obtain ⟨x0, x1, x2, x3, x4, x5, x6⟩ := HA.out
 simp only [tv] at x3 x4 x5
 obtain ⟨z1, z2, z3, z4, z5⟩ := ends_at heo (row := R) (by omega)
 have HNU := Lib.hid (fun W => number4_calls e R W (by omega) (by omega))
 have HNV := Lib.hid (fun W => number4_calls e (R + 1) W (by omega) (by omega))
 have HFIN := Lib.hid (show Vp.textA ns (.mk 0 f n v e [] [y]) i R = Vp.list ((List.range (Vp.cut4 e (R + 1) - Vp.cut4 e R)).map fun j => Vp.rowA ns y z0 (Vp.cut4 e R + j)) from by
  rw [HU.out, text_list ns e [] y i R _ _ z0 hz0 z1 z2])
 rw [z1] at HNU
 rw [z2] at HNV
 rw [show ((R + 1 : Nat) : Int) = (R : Int) + 1 by omega] at HNV
 have hlen := mayA_len2 hmy2
 have HSZ := Lib.hid (fun j (hj : Vp.cut4 e R + j < Vp.cut4 e (R + 1)) => row_small hmy2 (r := Vp.cut4 e R + j) (by omega))
 generalize Vp.cut4 e R = A at HFIN HNU z3 HSZ
 generalize Vp.cut4 e (R + 1) = B at HFIN HNV z3 z4 HSZ
 have hBY : B ≤ y.len.toNat := by omega
 have HKD := Lib.hid (kidsOk_calls (.slice (some ⟨bk, no, none⟩) ns.length nc) ns i W1 HN.out hnd)
 rw [hz0] at HKD
 have HG0 := Lib.hid g0
 have HQ0 := Lib.hid q0
 have HQL := Lib.hid (show W.heap.size < W1.heap.size by rw [← hW1]; simp)
 rw [KidsAt] at hk
 obtain ⟨ka, kc, rfl, _, hkc2, _⟩ := hk
 unfold maxLen at hkc2
 obtain ⟨kb, ko, kx, rfl, hkb, hy, hkx⟩ := kid_open HK.out
 have HIY := Lib.hid (fun (s : Nat) (hs : s < B) (w' : World) (h : Below W1.heap.size W1 w') => ih y (by simp) y z0 s kb ko kx (.slice (some ⟨bk, no, none⟩) ns.length nc) w' (Nat.lt_succ_self _) hmy2 (by omega) (hy.below h hkb) (Nat.lt_of_lt_of_le hkb h.size) (KidsAt.below h _ _ hkx) (HN.out.below h) (HV.out.below h (Nat.le_trans HSX.out HB.out.size)))
 clear z1 z2 z5 heo HU hbk hy hkx ih
 go_enter Tryz.func118, Tryz.ntmps118
 go_wp2_with (fail)
 refine HKD.out.mono ?_; rintro x w4 ⟨kr, rfl, hko, hb4⟩
 have HNA := Lib.hid (own_nats (xs := [z0]) hko)
 obtain ⟨kra, krc, rfl⟩ := own_slice hko
 have g4 := (hb4.cell (p := ⟨bk, no + i * 3, none⟩) hbkn).trans HG0.out
 have q5 := (hb4.cell (p := ⟨W.heap.size, 0, none⟩) HQL.out).trans HQ0.out
 have HB4 := hb4
 clear x0 x1 x2 x3 x4 x5 x6 q0 g0 hko hb4
 obtain ⟨x0, x1, x2, x3, x4, x5, x6⟩ := HA.out.below HB4 hgl
 simp only [tv] at x3 x4 x5
 obtain ⟨kra', krc', hslr, _, hmr, hkrc⟩ := HNA.out
 obtain ⟨rfl, _, rfl⟩ := Value.slice.inj hslr
 obtain ⟨krb, kro, rfl, hkrb, hkrc⟩ := hkrc (by simp)
 have p0 := hkrc 0 z0 rfl
 rw [Nat.add_zero] at p0
 unfold maxLen at hmr
 have hAB : (A : Int) ≤ (B : Int) := by omega
 have HS := Lib.hid (show ∀ w', Below w4.heap.size w4 w' → (fun w' => (w'.cell? ⟨W.heap.size, 0, none⟩ = some (.slice (some ⟨bk, no, none⟩) ns.length nc) ∧ w'.cell? ⟨krb, kro, none⟩ = some (.int .i64 (z0 : Int)) ∧ w'.cell? ⟨g, o + 6, none⟩ = some (.slice (some ⟨kb, ko, none⟩) 1 kc)) ∧ Below w4.heap.size w4 w') w' from fun w' h =>
  ⟨⟨(h.cell (p := ⟨W.heap.size, 0, none⟩) (Nat.lt_of_lt_of_le HQL.out HB4.size)).trans q5, (h.cell (p := ⟨krb, _, none⟩) hkrb).trans p0, (h.cell (p := ⟨g, _, none⟩) (Nat.lt_of_lt_of_le hgl HB4.size)).trans x6⟩, h⟩)
 clear hslr hkrc
 go_wp2_with (first
  | (go_at_call 114; with_reducible refine (HNU.out _).mono ?_; rintro x w' ⟨rfl, rfl⟩)
  | (go_at_call 114; with_reducible refine (HNV.out _).mono ?_; rintro x w' ⟨rfl, rfl⟩))
 clear x0 x1 x2 x3 x4 x5 x6 p0 q5 g4
 go_loopw [15, 16] (fun vs ix wr => ∃ q : Nat, q ≤ B - A ∧ ix = .int .i64 ((A + q : Nat) : Int) ∧ wr.ownsRow w4.heap.size 9 1 vs q (((List.range q).map fun j => Vp.rowA ns y z0 (A + j)).map tv) ∧ Below w4.heap.size w4 wr) (fun _ ix _ => B - (intOf ix).toNat)
 case atStart => exact ⟨0, Nat.zero_le _, by simp, own_nil, Below.refl _ _⟩
 case round =>
  obtain ⟨q, hq, rfl, hu, hbr⟩ := hrel
  have HO := Lib.hid hu
  clear hu
  have hs4r := hbr.size
  by_cases hlt : q < B - A
  ·have hqi : ((A + q : Nat) : Int) < (B : Int) := by omega
   have HVQ := Lib.hid (fun (w' : World) (h : Below w4.heap.size w4 w') => HIY.out (A + q) (by omega) w' (below_then HB4 h))
   obtain ⟨s, hs⟩ : ∃ s : Nat, A + q = s := ⟨_, rfl⟩
   rw [hs] at hqi HVQ
   rw [hs]
   have hs64 : s ≤ 64 := by omega
   have hsB : s < B := by omega
   have HSQ := Lib.hid hs
   have HBA := Lib.hid hlt
   clear hs hlt
   generalize hT : Vp.rowA ns y z0 s = T at HVQ
   have HT := Lib.hid hT
   clear hT
   go_upto_region 17 with (fail)
   go_region_held3 (fun w' => (w'.cell? ⟨W.heap.size, 0, none⟩ = some (.slice (some ⟨bk, no, none⟩) ns.length nc) ∧ w'.cell? ⟨krb, kro, none⟩ = some (.int .i64 (z0 : Int)) ∧ w'.cell? ⟨g, o + 6, none⟩ = some (.slice (some ⟨kb, ko, none⟩) 1 kc)) ∧ Below w4.heap.size w4 w')
    (first | exact HS.out _ (by repeat (first | exact hbr | exact HX7 | exact HX4 | apply below_drewN | apply below_drew | apply below_alloc)) | (go_split_ands; (refine ⟨⟨?_, ?_, ?_⟩, ?_⟩ <;> assumption)))
    (first | (go_at_call 57; refine (HVQ.out _ (by repeat (first | exact hbr | apply below_drewN | apply below_drew))).mono ?_; rintro y' w6 ⟨rfl, hb6⟩; have hbw : Below wr.heap.size wr w6 := below_then (by repeat (first | exact Below.refl _ _ | apply below_drewN | apply below_drew) : Below wr.heap.size wr _) hb6; have HX4 : Below w4.heap.size w4 w6 := hbr.trans (hbw.mono hs4r)) | (refine step_app (by rfl) _ _ 39 9 (by rfl) w4.heap.size 1 16 (.string ⟨#[]⟩) Tryz.underlying39 info_string rfl (by decide) _ _ _ [tv T] rfl (by intro y hy; rw [List.mem_singleton.1 hy]; rfl) (by rfl) _ (by rfl) (blk_new _ _) (own_below HO.out (below_alloc hbw _)) (by omega) (by omega) (by have := hbw.size; simp; omega) ?_; intro g7 cap7 w7 ho7 hb7 hg7; have HX7 : Below w4.heap.size w4 w7 := (below_alloc HX4 _).trans hb7))
   all_goals
    go_wp2
    refine ⟨⟨q + 1, by have := HBA.out; omega, by have := HSQ.out; go_num, ?_, HX7⟩, by simp [intOf]; omega⟩
    rw [List.range_succ, List.map_append, List.map_append, List.map_singleton, List.map_singleton, HSQ.out, HT.out]
    exact ho7
  ·obtain rfl : q = B - A := by omega
   have hqi : ¬ ((A + (B - A) : Nat) : Int) < (B : Int) := by omega
   obtain ⟨s, hs⟩ : ∃ s : Nat, A + (B - A) = s := ⟨_, rfl⟩
   rw [hs] at hqi
   rw [hs]
   clear hs
   have HLI := Lib.hid (fun (w' : World) (h : Below wr.heap.size wr w') v' (ho : w'.ownsRow w4.heap.size 9 1 v' (B - A) (((List.range (B - A)).map fun j => Vp.rowA ns y z0 (A + j)).map tv)) => list_calls v' ((List.range (B - A)).map fun j => Vp.rowA ns y z0 (A + j)) w' (own_texts (base := w4.heap.size) (by rw [List.length_map, List.length_range]; exact ho)) (by rw [List.length_map, List.length_range]; omega) (by
    have hj := Vp.join_length ((List.range (B - A)).map fun j => Vp.rowA ns y z0 (A + j)) 65536 (by
     intro p hp
     obtain ⟨j, hj, rfl⟩ := List.mem_map.1 hp
     exact HSZ.out j (by have := List.mem_range.1 hj; omega))
    rw [List.length_map, List.length_range] at hj
    have : (B - A) * 65536 ≤ 64 * 65536 := Nat.mul_le_mul_right _ (by omega)
    omega))
   go_wp2_with (fail)
   refine (HLI.out _ (Below.refl _ _) _ HO.out).mono ?_
   rintro x w8 ⟨rfl, hb8⟩
   go_wp2
   go_ret
   exact ⟨by rw [HFIN.out]; rfl, HB.out.trans ((below_then HB4 (below_then hbr hb8)).mono HB.out.size)⟩
end Go.Proofs.YtobhjlchpnpleaaGreatDoor

/- Package read: rows of structs, walked. -/
namespace Go.Proofs.YtobhjlchpnpleaaGreatDoor
open Go.RowKit
set_option linter.unusedVariables false
set_option linter.unusedSimpArgs false

set_option maxRecDepth 100000 in
set_option maxHeartbeats 3200000 in
theorem rdStruct_calls (ns : List Tp.Nd) (g o : Nat) (f n : Nat) (v e d : Vp.Txt) (ks : List Arr) (k vv : Value) (i r : Nat) (W : World) (hm : Vp.mayA ns (.mk 0 f n v e d ks) i = true) (hr : r < n)
  (hon : Vp.on v (f + r) = true) (ha : CellA W g o 0 (f : Int) (n : Int) v e d k) (hg : g < W.heap.size) (hk : KidsAt W ks k) (hn : NodesAt W vv ns) (hv : Vars W) (hkk : Tp.kindOf ns i = 4) (ih : ∀ a ∈ ks, RowOK ns (SizeOf.sizeOf a + 1)) :
  Calls Tryz.prog 118 #[typeV vv, .int .i64 (i : Int), .pointer (some ⟨g, o, none⟩), .int .i64 ((f + r : Nat) : Int)] W fun x w' => x = .returned (tv (Vp.textA ns (.mk 0 f n v e d ks) i (f + r))) ∧ Below W.heap.size W w' := by
 have hbk := below_alloc (Below.refl W.heap.size W) (.cells #[vv] 82)
 obtain ⟨hmy, hi, _, _, hfn, hv1, he1, hd1, hvv⟩ := mayA_nums hm
 have hii : (i : Int) < (ns.length : Int) := by omega
 have hnd : Tp.node ns (i : Int) = true := (Vp.node_of ns i).2 ⟨hmy, hi⟩
 have HU := Lib.hid (text_plain ns f n v e d ks i (f + r) hon)
 obtain ⟨bk, no, nc, rfl, hc1, hc2, hbkn, g0, _⟩ := nodes_open (hn.below hbk) hi
 have HN := Lib.hid (hn.below hbk)
 have HA := Lib.hid (ha.below hbk hg)
 have HV := Lib.hid (hv.below hbk hv.six)
 have HK := Lib.hid (KidsAt.below hbk _ _ hk)
 have HSX := Lib.hid hv.six
 have q0 : (W.alloc (.cells #[.slice (some ⟨bk, no, none⟩) ns.length nc] 82)).cell? ⟨W.heap.size, 0, none⟩ = some (.slice (some ⟨bk, no, none⟩) ns.length nc) := by simp
 obtain ⟨hsl, hst⟩ := mayA_struct hm hkk
 unfold maxLen at hc2
 have hz4 := mk_size e
 rw [hkk] at HU g0
 clear ha hn hv hm
 obtain ⟨R, hR⟩ : ∃ R : Nat, f + r = R := ⟨_, rfl⟩
 have hRn : R < f + n := by omega
 have hfn' : f + n ≤ 64 := by omega
 rw [hR] at HU hon ⊢
 clear hR hfn hr hon hvv
 have hgl : g < (W.alloc (.cells #[.slice (some ⟨bk, no, none⟩) ns.length nc] 82)).heap.size := by simp; omega
 obtain ⟨W1, hW1⟩ : ∃ W1, W.alloc (.cells #[.slice (some ⟨bk, no, none⟩) ns.length nc] 82) = W1 := ⟨_, rfl⟩
 rw [hW1] at hbk hbkn g0 HN HA HV HK q0 hgl
 have HB := Lib.hid hbk
 obtain ⟨x0, x1, x2, x3, x4, x5, x6⟩ := HA.out
 simp only [tv] at x3 x4 x5
 have HNU := Lib.hid (fun W => number4_calls e R W (by omega) (by omega))
 have HNV := Lib.hid (fun W => number4_calls e (R + 1) W (by omega) (by omega))
 have HFIN := Lib.hid (show Vp.textA ns (.mk 0 f n v e d ks) i R = Vp.struct ((List.range (Tp.kids ns (i : Int)).length).map fun j => Vp.rowA ns (ks.getD j Arr.none) ((Tp.kids ns (i : Int)).getD j 0) R) from by
  rw [HU.out, text_struct ns e d ks i R hsl])
 rw [show ((R + 1 : Nat) : Int) = (R : Int) + 1 by omega] at HNV
 generalize Vp.num4 e R = A at HNU
 generalize Vp.num4 e (R + 1) = B at HNV
 have HKD := Lib.hid (kidsOk_calls (.slice (some ⟨bk, no, none⟩) ns.length nc) ns i W1 HN.out hnd)
 have hzl : (Tp.kids ns (i : Int)).length ≤ 65536 := by
  have h1 := Vp.kids_many hmy i
  have h2 := hnd
  unfold Tp.node Tp.may at h2
  simp only [Bool.and_eq_true, decide_eq_true_eq] at h2
  omega
 obtain ⟨zs, hzs⟩ : ∃ zs, Tp.kids ns (i : Int) = zs := ⟨_, rfl⟩
 rw [hzs] at HKD HFIN hsl hst hzl
 have HSZ := Lib.hid (fun j (hj : j < zs.length) => row_small (hst j hj).1 (r := R) (by have := (hst j hj).2; omega))
 have HSL := Lib.hid hsl
 have HST := Lib.hid hst
 clear hzs hsl hst
 have HG0 := Lib.hid g0
 have HQ0 := Lib.hid q0
 have HQL := Lib.hid (show W.heap.size < W1.heap.size by rw [← hW1]; simp)
 rw [KidsAt] at hk
 obtain ⟨ka, kc, rfl, _, hkc2, _⟩ := hk
 unfold maxLen at hkc2
 have HIH := Lib.hid ih
 clear HU hbk ih
 go_enter Tryz.func118, Tryz.ntmps118
 go_wp2_with (fail)
 refine HKD.out.mono ?_; rintro x w4 ⟨kr, rfl, hko, hb4⟩
 have HNA := Lib.hid (own_nats hko)
 obtain ⟨kra, krc, rfl⟩ := own_slice hko
 have g4 := (hb4.cell (p := ⟨bk, no + i * 3, none⟩) hbkn).trans HG0.out
 have q5 := (hb4.cell (p := ⟨W.heap.size, 0, none⟩) HQL.out).trans HQ0.out
 have HB4 := hb4
 clear x0 x1 x2 x3 x4 x5 x6 q0 g0 hko hb4
 obtain ⟨x0, x1, x2, x3, x4, x5, x6⟩ := HA.out.below HB4 hgl
 simp only [tv] at x3 x4 x5
 have hmr := hzl
 have HS := Lib.hid (show ∀ w', Below w4.heap.size w4 w' → (fun w' => (w'.cell? ⟨W.heap.size, 0, none⟩ = some (.slice (some ⟨bk, no, none⟩) ns.length nc) ∧ w'.cell? ⟨g, o + 6, none⟩ = some (.slice ka ks.length kc)) ∧ Below w4.heap.size w4 w') w' from fun w' h =>
  ⟨⟨(h.cell (p := ⟨W.heap.size, 0, none⟩) (Nat.lt_of_lt_of_le HQL.out HB4.size)).trans q5, (h.cell (p := ⟨g, _, none⟩) (Nat.lt_of_lt_of_le hgl HB4.size)).trans x6⟩, h⟩)
 go_wp2_with (first
  | (go_at_call 114; with_reducible refine (HNU.out _).mono ?_; rintro x w' ⟨rfl, rfl⟩)
  | (go_at_call 114; with_reducible refine (HNV.out _).mono ?_; rintro x w' ⟨rfl, rfl⟩))
 clear x0 x1 x2 x3 x4 x5 x6 q5 g4
 go_loopw [15, 17, 18, 118] (fun vs _ _ ix wr => ∃ q : Nat, q ≤ zs.length ∧ ix = .int .i64 (q : Int) ∧ wr.ownsRow w4.heap.size 9 1 vs q (((List.range q).map fun j => Vp.rowA ns (ks.getD j Arr.none) (zs.getD j 0) R).map tv) ∧ Below w4.heap.size w4 wr) (fun _ _ _ ix _ => zs.length - (intOf ix).toNat)
 case atStart => exact ⟨0, Nat.zero_le _, rfl, own_nil, Below.refl _ _⟩
 case round =>
  obtain ⟨q, hq, rfl, hu, hbr⟩ := hrel
  have HO := Lib.hid hu
  clear hu
  have hs4r := hbr.size
  by_cases hlt : q < zs.length
  ·have hqi : (q : Int) < (zs.length : Int) := by omega
   have hltk : q < ks.length := by have := HSL.out; omega
   have hltki : (q : Int) < (ks.length : Int) := by omega
   obtain ⟨kra', krc', hslr, _, _, hkrc⟩ := HNA.out
   obtain ⟨rfl, _, rfl⟩ := Value.slice.inj hslr
   obtain ⟨krb, kro, rfl, hkrb, hkrc⟩ := hkrc (by intro e; rw [e] at hlt; exact Nat.not_lt_zero _ hlt)
   have p0 := (hbr.cell (p := ⟨krb, kro + q, none⟩) hkrb).trans (hkrc q _ (List.getElem?_eq_getElem hlt))
   obtain ⟨kb, ko, rfl, hkb, hc⟩ := kids_open HK.out (by intro e; rw [e] at hltk; exact Nat.not_lt_zero _ hltk)
   have hx := List.getElem?_eq_getElem hltk
   have hmem := List.getElem_mem hltk
   have HGK := Lib.hid (show zs.getD q 0 = zs[q] by rw [List.getD_eq_getElem?_getD, List.getElem?_eq_getElem hlt]; rfl)
   have HGY := Lib.hid (show ks.getD q Arr.none = ks[q] by rw [List.getD_eq_getElem?_getD, List.getElem?_eq_getElem hltk]; rfl)
   have hmq := HST.out q hlt
   rw [HGK.out, HGY.out] at hmq
   generalize zs[q] = kd at p0 HGK hmq
   generalize ks[q] = y at hx hmem HGY hmq
   have HHC := Lib.hid (show ∃ ky, CellA W1 kb (ko + q * 7) y.lay y.off y.len y.valid y.ends y.data ky ∧ KidsAt W1 y.kids ky from by
    obtain ⟨yl, yf, yn, yv, ye, yd, ys⟩ := y
    obtain ⟨c0, c1, c2, c3, c4, c5, ky, c6, hky⟩ := CellsAt.at ks ko q _ _ _ _ _ _ _ hc hx
    exact ⟨ky, ⟨c0, c1, c2, c3, c4, c5, c6⟩, hky⟩)
   obtain ⟨ky, hcy, hky⟩ := HHC.out
   have HVQ := Lib.hid (fun (w' : World) (h : Below w4.heap.size w4 w') =>
    have hb := below_then HB4 h
    HIH.out y hmem y kd R kb (ko + q * 7) ky (.slice (some ⟨bk, no, none⟩) ns.length nc) w' (Nat.lt_succ_self _) hmq.1 (by have := hmq.2; omega) (hcy.below hb hkb) (Nat.lt_of_lt_of_le hkb hb.size) (KidsAt.below hb _ _ hky) (HN.out.below hb) (HV.out.below hb (Nat.le_trans HSX.out HB.out.size)))
   have HBA := Lib.hid hlt
   obtain ⟨q7, q8⟩ := (HS.out _ hbr).1
   clear hslr hkrc hc hx hmem hmq hcy hky HHC hlt
   generalize hT : Vp.rowA ns y kd R = T at HVQ
   have HT := Lib.hid hT
   clear hT
   go_upto_region 22 with (fail)
   go_region_held3 (fun w' => (w'.cell? ⟨W.heap.size, 0, none⟩ = some (.slice (some ⟨bk, no, none⟩) ns.length nc) ∧ w'.cell? ⟨g, o + 6, none⟩ = some (.slice (some ⟨kb, ko, none⟩) ks.length kc)) ∧ Below w4.heap.size w4 w')
    (first | exact HS.out _ (by repeat (first | exact hbr | exact HX7 | exact HX4 | apply below_drewN | apply below_drew | apply below_alloc)) | (go_split_ands; (refine ⟨⟨?_, ?_⟩, ?_⟩ <;> assumption)))
    (first | (go_at_call 57; refine (HVQ.out _ (by repeat (first | exact hbr | apply below_drewN | apply below_drew))).mono ?_; rintro y' w6 ⟨rfl, hb6⟩; have hbw : Below wr.heap.size wr w6 := below_then (by repeat (first | exact Below.refl _ _ | apply below_drewN | apply below_drew) : Below wr.heap.size wr _) hb6; have HX4 : Below w4.heap.size w4 w6 := hbr.trans (hbw.mono hs4r)) | (refine step_app (by rfl) _ _ 39 9 (by rfl) w4.heap.size 1 16 (.string ⟨#[]⟩) Tryz.underlying39 info_string rfl (by decide) _ _ _ [tv T] rfl (by intro y hy; rw [List.mem_singleton.1 hy]; rfl) (by rfl) _ (by rfl) (blk_new _ _) (own_below HO.out (below_alloc hbw _)) (by omega) (by omega) (by have := hbw.size; simp; omega) ?_; intro g7 cap7 w7 ho7 hb7 hg7; have HX7 : Below w4.heap.size w4 w7 := (below_alloc HX4 _).trans hb7))
   all_goals
    go_wp2
    refine ⟨⟨q + 1, by have := HBA.out; omega, by go_num, ?_, HX7⟩, by have := HBA.out; simp [intOf]; omega⟩
    rw [List.range_succ, List.map_append, List.map_append, List.map_singleton, List.map_singleton, HGK.out, HGY.out, HT.out]
    exact ho7
  ·obtain rfl : q = zs.length := by omega
   have HLI := Lib.hid (fun (w' : World) v' (ho : w'.ownsRow w4.heap.size 9 1 v' zs.length (((List.range zs.length).map fun j => Vp.rowA ns (ks.getD j Arr.none) (zs.getD j 0) R).map tv)) => struct_calls v' ((List.range zs.length).map fun j => Vp.rowA ns (ks.getD j Arr.none) (zs.getD j 0) R) w' (own_texts (base := w4.heap.size) (by rw [List.length_map, List.length_range]; exact ho)) (by rw [List.length_map, List.length_range]; omega) (by
    have hj := Vp.join_length ((List.range zs.length).map fun j => Vp.rowA ns (ks.getD j Arr.none) (zs.getD j 0) R) 65536 (by
     intro p hp
     obtain ⟨j, hj, rfl⟩ := List.mem_map.1 hp
     exact HSZ.out j (List.mem_range.1 hj))
    rw [List.length_map, List.length_range] at hj
    have : zs.length * 65536 ≤ 65536 * 65536 := Nat.mul_le_mul_right _ (by omega)
    omega))
   go_wp2_with (fail)
   refine (HLI.out _ _ HO.out).mono ?_
   rintro x w8 ⟨rfl, hb8⟩
   go_wp2
   go_ret
   exact ⟨by rw [HFIN.out]; rfl, HB.out.trans ((below_then HB4 (below_then hbr hb8)).mono HB.out.size)⟩
end Go.Proofs.YtobhjlchpnpleaaGreatDoor
