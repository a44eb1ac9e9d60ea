/- Several texts in one: RdD, RefRead, RefValA. -/
import Derived.Test.YtobhjlchpnpleaaGreatDoorCa31
import Derived.Test.YtobhjlchpnpleaaGreatDoorCa19
import Derived.Test.YtobhjlchpnpleaaGreatDoorCa2
/- Package read: rows of any array; Values; walked. -/
namespace Go.Proofs.YtobhjlchpnpleaaGreatDoor
open Go.RowKit
set_option linter.unusedVariables false
set_option linter.unusedSimpArgs false

theorem rdPlain_calls (ns : List Tp.Nd) (g o : Nat) (f n : Nat) (v e d : Vp.Txt) (ks : List Arr) (k vv : Value) (i r : Nat) (W : World) (hm : Vp.mayA ns (.mk 0 f n v e d ks) i = true) (hr : r < n)
  (hon : Vp.on v (f + r) = true) (ha : CellA W g o 0 (f : Int) (n : Int) v e d k) (hg : g < W.heap.size) (hk : KidsAt W ks k) (hn : NodesAt W vv ns) (hv : Vars W) (ih : ∀ a ∈ ks, RowOK ns (SizeOf.sizeOf a + 1)) :
  Calls Tryz.prog 118 #[typeV vv, .int .i64 (i : Int), .pointer (some ⟨g, o, none⟩), .int .i64 ((f + r : Nat) : Int)] W fun x w' => x = .returned (tv (Vp.textA ns (.mk 0 f n v e d ks) i (f + r))) ∧ Below W.heap.size W w' := by
 obtain ⟨hmy, hi, _⟩ := mayA_nums hm
 have hkr := Vp.may_kind ns hmy i hi
 by_cases h3 : Tp.kindOf ns i = 3
 ·exact rdList_calls ns g o f n v e d ks k vv i r W hm hr hon ha hg hk hn hv h3 ih
 by_cases h4 : Tp.kindOf ns i = 4
 ·exact rdStruct_calls ns g o f n v e d ks k vv i r W hm hr hon ha hg hk hn hv h4 ih
 exact rdLeaf_calls ns g o f n v e d ks k vv i r W hm hr hon ha hg hn hv (by omega)
theorem mayA_lay {ns : List Tp.Nd} {l f n : Int} {v e d : Vp.Txt} {ks : List Arr} {i : Nat} (h : Vp.mayA ns (.mk l f n v e d ks) i = true) : l = 0 ∨ l = 1 ∨ l = 2 := by
 by_cases l0 : l = 0
 ·exact .inl l0
 by_cases l1 : l = 1
 ·exact .inr (.inl l1)
 by_cases l2 : l = 2
 ·exact .inr (.inr l2)
 rw [Vp.mayA, if_neg l0, if_neg l1, if_neg l2, Bool.and_false] at h
 cases h
theorem runOk_v {f n : Int} {v d : Vp.Txt} {k : Int} (h : Vp.runOk f n v d k = true) : v = [] := by
 unfold Vp.runOk at h
 simp only [Bool.and_eq_true, decide_eq_true_eq] at h
 exact h.1
set_option maxRecDepth 100000 in
set_option maxHeartbeats 3200000 in
theorem rdText_calls (ns : List Tp.Nd) (g o : Nat) (l : Int) (f n : Nat) (v e d : Vp.Txt) (ks : List Arr) (k vv : Value) (i r : Nat) (W : World) (hm : Vp.mayA ns (.mk l f n v e d ks) i = true) (hr : r < n)
  (ha : CellA W g o l (f : Int) (n : Int) v e d k) (hg : g < W.heap.size) (hk : KidsAt W ks k) (hn : NodesAt W vv ns) (hv : Vars W) (ih : ∀ a ∈ ks, RowOK ns (SizeOf.sizeOf a + 1)) :
  Calls Tryz.prog 85 #[typeV vv, .int .i64 (i : Int), .pointer (some ⟨g, o, none⟩), .int .i64 ((f + r : Nat) : Int)] W fun x w' => x = .returned (tv (Vp.textA ns (.mk l f n v e d ks) i (f + r))) ∧ Below W.heap.size W w' := by
 have hbk := below_alloc (Below.refl W.heap.size W) (.cells #[vv] 82)
 obtain ⟨hmy, hi, _, _, hfn, hv1, he1, hd1, hvv⟩ := mayA_nums hm
 have HM := Lib.hid hm
 have HN := Lib.hid (hn.below hbk)
 have HA := Lib.hid (ha.below hbk hg)
 have HV := Lib.hid (hv.below hbk hv.six)
 have HK := Lib.hid (KidsAt.below hbk _ _ hk)
 have HSX := Lib.hid hv.six
 have q0 : (W.alloc (.cells #[vv] 82)).cell? ⟨W.heap.size, 0, none⟩ = some vv := by simp
 have hgl : g < (W.alloc (.cells #[vv] 82)).heap.size := by simp; omega
 obtain ⟨W1, hW1⟩ : ∃ W1, W.alloc (.cells #[vv] 82) = W1 := ⟨_, rfl⟩
 rw [hW1] at hbk HN HA HV HK q0 hgl
 have HB := Lib.hid hbk
 have HTH := Lib.hid (There_calls g o l (f : Int) (n : Int) v e d k (f + r) W1 HA.out (fun h => by have := hvv h; omega) (by omega))
 have HIH := Lib.hid ih
 clear ha hn hv hm hbk ih
 obtain ⟨x0, x1, x2, x3, x4, x5, x6⟩ := HA.out
 simp only [tv] at x3 x4 x5
 cases hon : Vp.on v (f + r) with
 | false =>
  rw [hon] at HTH
  have HU := Lib.hid (show Vp.textA ns (.mk l f n v e d ks) i (f + r) = Vp.nul by rw [Vp.textA, hon]; rfl)
  obtain ⟨R, hR⟩ : ∃ R : Nat, f + r = R := ⟨_, rfl⟩
  rw [hR] at HTH HU ⊢
  clear hR hon
  go_enter Tryz.func85, Tryz.ntmps85
  go_wp2_with (first
   | (go_at_call 115; refine HTH.out.mono ?_; rintro x w' ⟨rfl, rfl⟩)
   | (go_at_call 116; refine (null_calls _).mono ?_; rintro x w' ⟨rfl, rfl⟩))
  go_ret
  exact ⟨by rw [HU.out]; rfl, HB.out⟩
 | true =>
  rw [hon] at HTH
  rcases mayA_lay HM.out with rfl | rfl | rfl
  ·have HP := Lib.hid (rdPlain_calls ns g o f n v e d ks k vv i r W1 HM.out hr hon HA.out hgl HK.out HN.out HV.out HIH.out)
   generalize Vp.textA ns (.mk 0 f n v e d ks) i (f + r) = T at HP ⊢
   obtain ⟨R, hR⟩ : ∃ R : Nat, f + r = R := ⟨_, rfl⟩
   rw [hR] at HTH HP ⊢
   clear hR hon
   go_enter Tryz.func85, Tryz.ntmps85
   go_wp2_with (first
    | (go_at_call 115; refine HTH.out.mono ?_; rintro x w' ⟨rfl, rfl⟩)
    | (go_at_call 118; refine HP.out.mono ?_; rintro x w5 ⟨rfl, hb5⟩))
   go_ret
   exact ⟨rfl, HB.out.trans (hb5.mono HB.out.size)⟩
  ·obtain ⟨y, rfl, rfl, hmy2, hdo⟩ := mayA_dict HM.out
   obtain ⟨z1, z2, z3⟩ := dict_at hdo hr hon
   rw [KidsAt] at hk
   obtain ⟨ka, kc, rfl, _, hkc2, _⟩ := hk
   unfold maxLen at hkc2
   obtain ⟨kb, ko, kx, rfl, hkb, hy, hkx⟩ := kid_open HK.out
   have HU := Lib.hid (text_dict ns f n v [] d y i (f + r) hon)
   rw [z1, Int.toNat_natCast] at HU
   have HNU := Lib.hid (fun W => number4_calls d (f + r) W (by omega) (by omega))
   rw [z1] at HNU
   generalize Vp.cut4 d (f + r) = X at z2 HU HNU
   have HRW := Lib.hid (fun (w' : World) (h : Below W1.heap.size W1 w') => HIH.out y (by simp) y i X kb ko kx vv w' (Nat.lt_succ_self _) hmy2 (by omega) (hy.below h hkb) (Nat.lt_of_lt_of_le hkb h.size) (KidsAt.below h _ _ hkx) (HN.out.below h) (HV.out.below h (Nat.le_trans HSX.out HB.out.size)))
   have hX64 := mayA_len2 hmy2
   have hXs : X ≤ 64 := by omega
   rw [HU.out]
   generalize Vp.rowA ns y i X = T at HRW
   obtain ⟨R, hR⟩ : ∃ R : Nat, f + r = R := ⟨_, rfl⟩
   rw [hR] at HTH HNU ⊢
   have HB1 := Below.refl W1.heap.size W1
   clear hR hon z1 z2 z3 hdo hy hkx HU hmy2
   go_enter Tryz.func85, Tryz.ntmps85
   go_upto_region 6 with (first
    | (go_at_call 115; refine HTH.out.mono ?_; rintro x w' ⟨rfl, rfl⟩)
    | (go_at_call 114; refine (HNU.out _).mono ?_; rintro x w' ⟨rfl, rfl⟩))
   go_region_with (go_at_call 57; refine (HRW.out _ (by repeat (first | exact HB1 | apply below_drewN | apply below_drew))).mono ?_; rintro x w4 ⟨rfl, hb4⟩; have HB4 := below_then (by repeat (first | exact HB1 | apply below_drewN | apply below_drew) : Below W1.heap.size W1 _) hb4)
   all_goals
    go_wp2
    go_ret
    exact ⟨rfl, HB.out.trans ((by repeat (first | exact HB4 | apply below_drewN | apply below_drew) : Below W1.heap.size W1 _).mono HB.out.size)⟩
  ·obtain ⟨y, rfl, rfl, hmy2, hdo⟩ := mayA_run HM.out
   have hv0 := runOk_v hdo
   subst hv0
   have hyl := may_len hmy2
   obtain ⟨K, hK⟩ := Int.eq_ofNat_of_zero_le hyl.1
   rw [hK] at hdo hyl
   have hqK := Vp.run_lt (row := f + r) hdo (by omega) (by omega)
   rw [Int.toNat_natCast] at hqK
   obtain ⟨z1, z2, z3⟩ := run_at hdo
   rw [KidsAt] at hk
   obtain ⟨ka, kc, rfl, _, hkc2, _⟩ := hk
   unfold maxLen at hkc2
   obtain ⟨kb, ko, kx, rfl, hkb, hy, hkx⟩ := kid_open HK.out
   have HU := Lib.hid (text_run ns f n [] [] d y i (f + r) hon)
   have HRU := Lib.hid (fun (w' : World) (h : Below W1.heap.size W1 w') => readRun_calls g o 2 (f : Int) (n : Int) [] [] d _ K (f + r) w' (HA.out.below h hgl) z1 (by omega) z2 (by omega) (by omega))
   generalize Vp.runOf d (f + r) = X at hqK HU HRU
   have HRW := Lib.hid (fun (w' : World) (h : Below W1.heap.size W1 w') => HIH.out y (by simp) y i X kb ko kx vv w' (Nat.lt_succ_self _) hmy2 (by omega) (hy.below h hkb) (Nat.lt_of_lt_of_le hkb h.size) (KidsAt.below h _ _ hkx) (HN.out.below h) (HV.out.below h (Nat.le_trans HSX.out HB.out.size)))
   rw [HU.out]
   generalize Vp.rowA ns y i X = T at HRW
   obtain ⟨R, hR⟩ : ∃ R : Nat, f + r = R := ⟨_, rfl⟩
   rw [hR] at HTH HRU ⊢
   have HB1 := Below.refl W1.heap.size W1
   clear hR hon z1 z2 z3 hdo hy hkx HU hmy2 hK hyl
   go_enter Tryz.func85, Tryz.ntmps85
   go_upto_region 8 with (first
    | (go_at_call 115; refine HTH.out.mono ?_; rintro x w' ⟨rfl, rfl⟩))
   go_region_with (first
    | (go_at_call 117; refine (HRU.out _ (by repeat (first | exact HB1 | apply below_drewN | apply below_drew))).mono ?_; rintro x w' ⟨rfl, rfl⟩)
    | (go_at_call 57; refine (HRW.out _ (by repeat (first | exact HB1 | apply below_drewN | apply below_drew))).mono ?_; rintro x w4 ⟨rfl, hb4⟩; have HB4 := below_then (by repeat (first | exact HB1 | apply below_drewN | apply below_drew) : Below W1.heap.size W1 _) hb4))
   all_goals
    go_wp2
    go_ret
    exact ⟨rfl, HB.out.trans ((by repeat (first | exact HB4 | apply below_drewN | apply below_drew) : Below W1.heap.size W1 _).mono HB.out.size)⟩
set_option maxRecDepth 100000 in
set_option maxHeartbeats 1600000 in
theorem row_succ (ns : List Tp.Nd) (N : Nat) (ih : RowOK ns N) : RowOK ns (N + 1) := by
 intro a i r g o k vv W hsz hm hr ha hg hk hn hv
 obtain ⟨l, f, n, v, e, d, ks⟩ := a
 have hih : ∀ a ∈ ks, RowOK ns (SizeOf.sizeOf a + 1) := fun a ha b i' r' g' o' k' vv' W' hb => ih b i' r' g' o' k' vv' W' (by have := List.sizeOf_lt_of_mem ha; simp only [Arr.mk.sizeOf_spec] at hsz; omega)
 replace hr : r < n.toNat := hr
 replace ha : CellA W g o l f n v e d k := ha
 replace hk : KidsAt W ks k := hk
 obtain ⟨_, _, hf0, hn0, hfn, _⟩ := mayA_nums hm
 obtain ⟨f, rfl⟩ := Int.eq_ofNat_of_zero_le hf0
 obtain ⟨n, rfl⟩ := Int.eq_ofNat_of_zero_le hn0
 rw [Int.toNat_natCast] at hr
 have hfr : f + r ≤ 128 := by omega
 have hbk := below_alloc (Below.refl W.heap.size W) (.cells #[vv] 82)
 have HT := Lib.hid (fun (w' : World) (h : Below W.heap.size W w') => rdText_calls ns g o l f n v e d ks k vv i r w' hm hr (ha.below h hg) (Nat.lt_of_lt_of_le hg h.size) (KidsAt.below h _ _ hk) (hn.below h) (hv.below h hv.six) hih)
 rw [show ((f + r : Nat) : Int) = IntKind.i64.wrap ((f : Int) + (r : Int)) by rw [IntKind.wrap_i64]; omega] at HT
 obtain ⟨x0, x1, x2, x3, x4, x5, x6⟩ := ha.below hbk hg
 simp only [tv] at x3 x4 x5
 have q0 : (W.alloc (.cells #[vv] 82)).cell? ⟨W.heap.size, 0, none⟩ = some vv := by simp
 have HU := Lib.hid (show Vp.rowA ns (.mk l f n v e d ks) i r = Vp.textA ns (.mk l f n v e d ks) i (f + r) from rfl)
 rw [HU.out]
 generalize Vp.textA ns (.mk l f n v e d ks) i (f + r) = T at HT ⊢
 clear ha hk hn hv hm hih ih hsz HU hf0 hn0 hfn
 go_enter Tryz.func57, Tryz.ntmps57
 go_upto_region 1 with (fail)
 go_region_with (go_at_call 85; refine (HT.out _ (by repeat (first | exact hbk | apply below_drewN | apply below_drew))).mono ?_; rintro x w4 ⟨rfl, hb4⟩; have HB4 := below_then (by repeat (first | exact hbk | apply below_drewN | apply below_drew) : Below W.heap.size W _) hb4)
 all_goals
  go_wp2
  go_ret
  exact ⟨rfl, (by repeat (first | exact HB4 | apply below_drewN | apply below_drew) : Below W.heap.size W _)⟩
theorem row_all (ns : List Tp.Nd) : ∀ N, RowOK ns N
 | 0 => fun _ _ _ _ _ _ _ _ h => absurd h (Nat.not_lt_zero _)
 | N + 1 => row_succ ns N (row_all ns N)
end Go.Proofs.YtobhjlchpnpleaaGreatDoor

/- The reference's reading of arrays, walked: where a row begins and ends. -/
namespace Go.Proofs.YtobhjlchpnpleaaGreatDoor
open Go.RowKit
set_option linter.unusedVariables false
set_option linter.unusedSimpArgs false

/-- A number of four bytes, cut out of a text. -/
theorem cutNum_calls (e : Vp.Txt) (row : Nat) (W : World) :
  Calls Tryz.prog 63 #[.string ((⟨e.toArray⟩ : ByteArray).extract (4 * row) (4 * row + 4))] W fun x w' => x = .returned (.int .i64 (Vp.cut4 e row : Nat)) ∧ w' = W := by
 have hex := mk_extract e (4 * row) (4 * row + 4)
 rw [← List.take_drop] at hex
 rw [hex]
 have h := refNum_calls ((e.drop (4 * row)).take 4) W (by rw [List.length_take]; omega)
 rw [show IntKind.i64.wrap (Vp.le ((e.drop (4 * row)).take 4) : Nat) = (Vp.cut4 e row : Nat) by
  have := cut4_lt e row
  have e2 : Vp.le ((e.drop (4 * row)).take 4) = Vp.cut4 e row := rfl
  rw [e2, IntKind.wrap_i64]
  omega] at h
 exact h.mono fun _ _ ⟨h1, h2⟩ => ⟨h1, h2.symm⟩
set_option maxRecDepth 100000 in
set_option maxHeartbeats 1600000 in
theorem refends_calls (l f n : Int) (v e d : Vp.Txt) (k : Value) (row : Nat) (W : World) (he : 4 * row + 8 ≤ e.length) (hl : e.length ≤ 65536) (hk : ∃ a m c, k = .slice a m c) :
  Calls Tryz.prog 67 #[arrV l f n v e d k, .int .i64 (row : Int)] W fun x w' => x = .returned (.tuple #[.int .i64 (Vp.cut4 e row : Nat), .int .i64 (Vp.cut4 e (row + 1) : Nat)]) ∧ Below W.heap.size W w' := by
 obtain ⟨a, m, c, rfl⟩ := hk
 have hz := mk_size e
 have hb := below_alloc (Below.refl W.heap.size W) (.cells #[.int .i64 l, .int .i64 f, .int .i64 n, .string ⟨v.toArray⟩, .string ⟨e.toArray⟩, .string ⟨d.toArray⟩, .slice a m c] 27)
 have H0 := Lib.hid (fun W => cutNum_calls e row W)
 have H1 := Lib.hid (fun W => cutNum_calls e (row + 1) W)
 rw [show 4 * (row + 1) = 4 * row + 4 by omega] at H1
 rw [show 4 * row + 4 + 4 = 4 * row + 8 by omega] at H1
 generalize Vp.cut4 e row = x0 at H0 ⊢
 generalize Vp.cut4 e (row + 1) = x1 at H1 ⊢
 have g1 : 4 * (row : Int) + 4 ≤ (e.length : Int) := by omega
 have g2 : 4 * (row : Int) + 8 ≤ (e.length : Int) := by omega
 have C6 := heap_alloc_new W (.cells #[.int .i64 l, .int .i64 f, .int .i64 n, .string ⟨v.toArray⟩, .string ⟨e.toArray⟩, .string ⟨d.toArray⟩, .slice a m c] 27)
 obtain ⟨W2, hW2⟩ : ∃ W2, W.alloc (.cells #[.int .i64 l, .int .i64 f, .int .i64 n, .string ⟨v.toArray⟩, .string ⟨e.toArray⟩, .string ⟨d.toArray⟩, .slice a m c] 27) = W2 := ⟨_, rfl⟩
 rw [hW2] at hb C6
 obtain ⟨y0, y1, y2, y3, y4, y5, y6, _⟩ := zero_cells C6
 simp only [arrV, tv]
 have g3 : (0 : Int) ≤ 4 * (row : Int) := by omega
 have g4 : 4 * (row : Int) ≤ 4 * (row : Int) + 4 := by omega
 have g5 : (0 : Int) ≤ 4 * (row : Int) + 4 := by omega
 have g6 : 4 * (row : Int) + 4 ≤ 4 * (row : Int) + 8 := by omega
 go_enter Tryz.func67, Tryz.ntmps67
 go_upto_region 1 with (fail)
 clear hW2 C6
 go_quiet (first | (go_at_call 63; with_reducible refine Calls.quiet_of_same (H0.out _)) | (go_at_call 63; with_reducible refine Calls.quiet_of_same (H1.out _)))
 go_wp2
 go_ret2
 exact ⟨rfl, below_drewN hb _⟩
end Go.Proofs.YtobhjlchpnpleaaGreatDoor

/- The reference's value of a row, walked: rows that are not there, whole numbers, truths, bytes. -/
namespace Go.Proofs.YtobhjlchpnpleaaGreatDoor
open Go.RowKit
set_option linter.unusedVariables false
set_option linter.unusedSimpArgs false

def RefValOK (ns : List Tp.Nd) (N : Nat) : Prop := ∀ (a : Arr) (i row : Nat) (u vv : Value) (W : World), SizeOf.sizeOf a < N → Vp.mayA ns a i = true → row < a.len.toNat → ArrAt W a u → NodesAt W vv ns →
 Calls Tryz.prog 41 #[typeV vv, .int .i64 (i : Int), u, .int .i64 (row : Int)] W fun e w' => e = .returned (tv (Vp.rowA ns a i row)) ∧ Below W.heap.size W w'
theorem cut8_calls (d : Vp.Txt) (row : Nat) (W : World) :
  Calls Tryz.prog 63 #[.string ((⟨d.toArray⟩ : ByteArray).extract (8 * row) (8 * row + 8))] W fun x w' => x = .returned (.int .i64 (Vp.int8 d row)) ∧ W = w' := by
 have hex := mk_extract d (8 * row) (8 * row + 8)
 rw [← List.take_drop] at hex
 rw [hex]
 exact refNum_calls ((d.drop (8 * row)).take 8) W (by rw [List.length_take]; omega)
set_option maxRecDepth 100000 in
set_option maxHeartbeats 6400000 in
theorem value_leaf (ns : List Tp.Nd) (l : Int) (f n : Nat) (v e d : Vp.Txt) (ks : List Arr) (k vv : Value) (i row : Nat) (W : World)
  (hm : Vp.mayA ns (.mk l f n v e d ks) i = true) (hr : row < n) (hk : KidsAt W ks k) (hn : NodesAt W vv ns) (hc : Vp.on v (f + row) = false ∨ (l = 0 ∧ Tp.kindOf ns i ≤ 2)) :
  Calls Tryz.prog 41 #[typeV vv, .int .i64 (i : Int), arrV l (f : Int) (n : Int) v e d k, .int .i64 (row : Int)] W fun x w' => x = .returned (tv (Vp.rowA ns (.mk l f n v e d ks) i row)) ∧ Below W.heap.size W w' := by
 have HRW := Lib.hid (show Vp.rowA ns (.mk l f n v e d ks) i row = Vp.textA ns (.mk l f n v e d ks) i (f + row) from rfl)
 obtain ⟨hmy, hi, _, _, hfn, hv1, he1, hd1, hvv⟩ := mayA_nums hm
 have hbk := below_alloc (below_alloc (Below.refl W.heap.size W) (.cells #[vv] 24)) (.cells #[.int .i64 l, .int .i64 (f : Int), .int .i64 (n : Int), .string ⟨v.toArray⟩, .string ⟨e.toArray⟩, .string ⟨d.toArray⟩, k] 27)
 have hn2 := hn.below hbk
 have C4 := (Below.heap_alloc (W.alloc (.cells #[vv] 24)) (.cells #[.int .i64 l, .int .i64 (f : Int), .int .i64 (n : Int), .string ⟨v.toArray⟩, .string ⟨e.toArray⟩, .string ⟨d.toArray⟩, k] 27) W.heap.size (by simp)).trans (heap_alloc_new W (.cells #[vv] 24))
 have C6 := heap_alloc_new (W.alloc (.cells #[vv] 24)) (.cells #[.int .i64 l, .int .i64 (f : Int), .int .i64 (n : Int), .string ⟨v.toArray⟩, .string ⟨e.toArray⟩, .string ⟨d.toArray⟩, k] 27)
 rw [show (W.alloc (.cells #[vv] 24)).heap.size = W.heap.size + 1 by simp] at C6
 obtain ⟨W2, hW2⟩ : ∃ W2, (W.alloc (.cells #[vv] 24)).alloc (.cells #[.int .i64 l, .int .i64 (f : Int), .int .i64 (n : Int), .string ⟨v.toArray⟩, .string ⟨e.toArray⟩, .string ⟨d.toArray⟩, k] 27) = W2 := ⟨_, rfl⟩
 rw [hW2] at hbk hn2 C4 C6
 rw [KidsAt] at hk
 obtain ⟨ka, kc, rfl, hkc1, hkc2, _⟩ := hk
 unfold maxLen at hkc2
 have HN := Lib.hid hn2
 have HB := Lib.hid hbk
 have HM := Lib.hid hm
 have hzd := mk_size d
 have q4 := cell_of_one C4
 obtain ⟨x0, x1, x2, x3, x4, x5, x6, _⟩ := zero_cells C6
 have HT := Lib.hid (fun W => there_calls l (f : Int) (n : Int) v e d (.slice ka ks.length kc) (f + row) W (fun h => by have := hvv h; omega) (by omega) ⟨_, _, _, rfl⟩)
 rw [show ((f + row : Nat) : Int) = (row : Int) + (f : Int) by omega] at HT
 clear hn hn2 hbk hm hvv
 go_enter Tryz.func41, Tryz.ntmps41
 go_upto_region 2 with (fail)
 clear hW2
 go_wp2_with (fail)
 refine (HT.out _).mono ?_; rintro x w3 ⟨rfl, hb3⟩
 have C4' := (hb3.block _ (lt_of_block C4)).trans C4
 have C6' := (hb3.block _ (lt_of_block C6)).trans C6
 have HN3 := Lib.hid (HN.out.below hb3)
 have HB3 := HB.out.trans (hb3.mono HB.out.size)
 clear x0 x1 x2 x3 x4 x5 x6 q4 C4 C6 HN HB hb3
 have q4 := cell_of_one C4'
 obtain ⟨x0, x1, x2, x3, x4, x5, x6, _⟩ := zero_cells C6'
 cases hon : Vp.on v (f + row) with
 | false =>
  have HU := Lib.hid (show Vp.textA ns (.mk l f n v e d ks) i (f + row) = Vp.nul by rw [Vp.textA, hon]; rfl)
  rw [hon] at HT
  go_wp2
  go_ret
  exact ⟨by rw [HRW.out, HU.out]; rfl, HB3⟩
 | true =>
  obtain ⟨rfl, hkk⟩ : l = 0 ∧ Tp.kindOf ns i ≤ 2 := by
   rcases hc with h | h
   ·rw [hon] at h; exact absurd h (by decide)
   ·exact h
  have hpo := mayA_plain HM.out
  have HU := Lib.hid (text_plain ns f n v e d ks i (f + row) hon)
  have hkr := Vp.may_kind ns hmy i hi
  have hnd : Tp.node ns (i : Int) = true := (Vp.node_of ns i).2 ⟨hmy, hi⟩
  obtain ⟨bk, o, c, rfl, hc1, hc2, hbk, g0, g2⟩ := nodes_open HN3.out hi
  have hii : (i : Int) < (ns.length : Int) := by omega
  unfold maxLen at hc2
  clear g2 hc HT hon HM
  rw [plainK_eq] at hpo
  obtain ⟨kd, hkd⟩ : ∃ kd, Tp.kindOf ns i = kd := ⟨_, rfl⟩
  rw [hkd] at hpo HU hkr hkk g0
  clear hkd
  go_upto_region 11 with (fail)
  go_wp2_with (fail)
  refine (refKids_calls _ ns i _ HN3.out hnd).mono ?_; rintro x w4 ⟨kr, rfl, hko, hb4⟩
  have C4'' := (hb4.block _ (lt_of_block C4')).trans C4'
  have C6'' := (hb4.block _ (lt_of_block C6')).trans C6'
  have HB4 := HB3.trans (hb4.mono HB3.size)
  have g4 := (hb4.cell (p := ⟨bk, o + i * 3, none⟩) hbk).trans g0
  obtain ⟨kra, krc, rfl⟩ := own_slice hko
  clear x0 x1 x2 x3 x4 x5 x6 q4 C4' C6' HN3 HB3 g0 hko hb4
  have q4 := cell_of_one C4''
  obtain ⟨x0, x1, x2, x3, x4, x5, x6, _⟩ := zero_cells C6''
  by_cases k0 : kd = 0
  ·subst k0
   have h8 : 8 * (f + row) + 8 ≤ d.length := by
    unfold plainK at hpo
    rw [if_pos rfl] at hpo
    simp only [Bool.and_eq_true, decide_eq_true_eq] at hpo
    omega
   have HI := Lib.hid (fun W => cut8_calls d (f + row) W)
   have hx8 := int8_rng d (f + row)
   have HII := Lib.hid (fun W => refInt_calls (Vp.int8 d (f + row)) W hx8.1 hx8.2)
   have HUU := Lib.hid (show Vp.textA ns (.mk 0 f n v e d ks) i (f + row) = Vp.int (Vp.int8 d (f + row)) from HU.out)
   generalize Vp.int8 d (f + row) = X at HI HII HUU
   obtain ⟨R, hR⟩ : ∃ R : Nat, f + row = R := ⟨_, rfl⟩
   have hRi : (row : Int) + (f : Int) = (R : Int) := by omega
   rw [hR] at h8 HI
   have HFIN := Lib.hid (show Vp.rowA ns (.mk 0 f n v e d ks) i row = Vp.int X from HRW.out.trans HUU.out)
   clear HRW HUU HU hR
   go_wp2_with (fail)
   with_reducible refine (HI.out _).mono ?_
   rintro x w' ⟨rfl, rfl⟩
   go_wp2_with (fail)
   refine (HII.out _).mono ?_; rintro x w5 ⟨rfl, hb5⟩
   go_wp2
   go_ret
   exact ⟨by rw [HFIN.out]; rfl, HB4.trans (hb5.mono HB4.size)⟩
  by_cases k1 : kd = 1
  ·subst k1
   have h8 : f + row < 8 * d.length := by
    unfold plainK at hpo
    rw [if_neg (by decide), if_pos rfl] at hpo
    simp only [Bool.and_eq_true, decide_eq_true_eq] at hpo
    omega
   have HUU := Lib.hid (show Vp.textA ns (.mk 0 f n v e d ks) i (f + row) = Vp.bool (Bt.bit d (f + row)) from HU.out)
   have HBT := Lib.hid (fun W => refBit_calls ⟨d.toArray⟩ ((f + row : Nat) : Int) W (by omega) (by omega) (by omega))
   rw [Int.toNat_natCast] at HBT
   have HBT := Lib.hid (show ∀ W, Calls Tryz.prog 66 #[.string ⟨d.toArray⟩, .int .i64 ((f + row : Nat) : Int)] W fun e w' => e = .returned (.bool (Bt.bit d (f + row))) ∧ W = w' from HBT.out)
   rw [show ((f + row : Nat) : Int) = (row : Int) + (f : Int) by omega] at HBT
   have HFIN := Lib.hid (show Vp.rowA ns (.mk 0 f n v e d ks) i row = Vp.bool (Bt.bit d (f + row)) from HRW.out.trans HUU.out)
   generalize Bt.bit d (f + row) = on at HBT HFIN
   clear HRW HUU HU
   go_wp2_with (fail)
   refine (HBT.out _).mono ?_; rintro x w' ⟨rfl, rfl⟩
   go_wp2_with (fail)
   refine (refBool_calls on _).mono ?_; rintro x w' ⟨rfl, rfl⟩
   go_wp2
   go_ret
   exact ⟨by rw [HFIN.out]; rfl, HB4⟩
  obtain rfl : kd = 2 := by omega
  have heo : Vp.endsOk e (f + n) d.length f 16 = true := by
   unfold plainK at hpo
   rw [if_neg (by decide), if_neg (by decide), if_pos rfl, show ((f : Int) + (n : Int)).toNat = f + n by omega, Int.toNat_natCast] at hpo
   exact hpo
  obtain ⟨R, hR⟩ : ∃ R : Nat, f + row = R := ⟨_, rfl⟩
  have hRi : (row : Int) + (f : Int) = (R : Int) := by omega
  obtain ⟨z1, z2, z3, z4, z5⟩ := ends_at heo (row := R) (by omega)
  have HUU := Lib.hid (show Vp.textA ns (.mk 0 f n v e d ks) i (f + row) = Vp.str ((d.drop (Vp.num4 e (f + row)).1.toNat).take ((Vp.num4 e (f + row + 1)).1.toNat - (Vp.num4 e (f + row)).1.toNat)) from HU.out)
  have HFIN := Lib.hid (show Vp.rowA ns (.mk 0 f n v e d ks) i row = Vp.str ((d.drop (Vp.cut4 e R)).take (Vp.cut4 e (R + 1) - Vp.cut4 e R)) by
   rw [HRW.out.trans HUU.out, hR, z1, z2, Int.toNat_natCast, Int.toNat_natCast])
  have HEN := Lib.hid (fun W => refends_calls 0 (f : Int) (n : Int) v e d (.slice ka ks.length kc) R W z5 (by omega) ⟨_, _, _, rfl⟩)
  generalize Vp.cut4 e R = A at HFIN HEN z3
  generalize Vp.cut4 e (R + 1) = B at HFIN HEN z3 z4
  have hAB : (A : Int) ≤ (B : Int) := by omega
  have hBd : (B : Int) ≤ (d.length : Int) := by omega
  have hex := mk_extract d A B
  rw [← List.take_drop_sub d A B (by omega)] at hex
  have HEX := Lib.hid hex
  clear HRW HUU HU hR z1 z2 z3 z4 z5 heo hpo hex
  go_wp2_with (fail)
  refine (HEN.out _).mono ?_; rintro x w5 ⟨rfl, hb5⟩
  have C6_5 := (hb5.block _ (lt_of_block C6'')).trans C6''
  have HB5 := HB4.trans (hb5.mono HB4.size)
  clear x0 x1 x2 x3 x4 x5 x6
  obtain ⟨x0, x1, x2, x3, x4, x5, x6, _⟩ := zero_cells C6_5
  go_wp2_with (fail)
  rw [HEX.out]
  refine (refStr_calls _ _ (by simp; omega)).mono ?_; rintro x w6 ⟨rfl, hb6⟩
  go_wp2
  go_ret
  exact ⟨by rw [HFIN.out]; rfl, HB5.trans (hb6.mono HB5.size)⟩
end Go.Proofs.YtobhjlchpnpleaaGreatDoor
