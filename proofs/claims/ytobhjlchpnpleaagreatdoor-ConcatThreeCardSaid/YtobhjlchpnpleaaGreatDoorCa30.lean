/- Several texts in one: MayF, MayG, RdA. -/
import Derived.Test.YtobhjlchpnpleaaGreatDoorCa29
/- Package array: run, walked. -/
namespace Go.Proofs.YtobhjlchpnpleaaGreatDoor
open Go.RowKit
set_option linter.unusedVariables false
set_option linter.unusedSimpArgs false

theorem run_no {f n : Int} {d : Vp.Txt} {K q : Nat} (h1 : q < K) (h : Vp.runAt d q = false) : Vp.runOk f n [] d (K : Int) = false := by
 unfold Vp.runOk
 rw [show (List.range (K : Int).toNat).all (Vp.runAt d) = false from List.all_eq_false.2 ⟨q, List.mem_range.2 (by omega), by rw [h]; decide⟩]
 simp
theorem run_all {f n : Int} {d : Vp.Txt} {K : Nat} (hd : (d.length : Int) = 4 * (K : Int)) (h : ∀ j, j < K → Vp.runAt d j = true) : Vp.runOk f n [] d (K : Int) = decide (f + n ≤ Vp.runEnd d K) := by
 unfold Vp.runOk
 rw [decide_eq_true hd, Int.toNat_natCast, show (List.range K).all (Vp.runAt d) = true from List.all_eq_true.2 fun j hj => h j (List.mem_range.1 hj)]
 simp
theorem may_len {ns : List Tp.Nd} {a : Arr} {i : Nat} (h : Vp.mayA ns a i = true) : 0 ≤ a.len ∧ a.len ≤ 64 := by
 have := Vp.may_bounds h
 omega
set_option maxRecDepth 100000 in
set_option maxHeartbeats 6400000 in
theorem arrRun_calls (ns : List Tp.Nd) (T g o : Nat) (l : Int) (f n : Nat) (v e d : Vp.Txt) (ks : List Arr) (k vv : Value) (i : Nat) (W : World) (ih : ∀ a ∈ ks, MayOK ns (SizeOf.sizeOf a + 1))
  (hm : Tp.may ns = true) (hi : i < ns.length) (hfn : f + n ≤ 64) (hd : d.length ≤ 4096) (hT : W.cell? ⟨T, 0, none⟩ = some vv) (hTl : T < W.heap.size)
  (ha : CellA W g o l f n v e d k) (hg : g < W.heap.size) (hk : KidsAt W ks k) (hn : NodesAt W vv ns) :
  Calls Tryz.prog 84 #[.pointer (some ⟨T, 0, none⟩), .int .i64 (i : Int), .pointer (some ⟨g, o, none⟩)] W fun x w' => x = .returned (.bool (Vp.oneOk ns i e ks && (Vp.mayAll ns ks [i] && Vp.runOk f n v d (Vp.kid0 ks).len))) ∧ Below W.heap.size W w' := by
 have HONE := Lib.hid (one_calls ns T g o l f n v e d ks k vv i W ih hm hi hT hTl ha hg hk hn)
 have HA := Lib.hid ha
 have HK := Lib.hid hk
 have HX := Lib.hid (show (Vp.oneOk ns i e ks && (Vp.mayAll ns ks [i] && Vp.runOk f n v d (Vp.kid0 ks).len)) = ((Vp.oneOk ns i e ks && Vp.mayAll ns ks [i]) && Vp.runOk f n v d (Vp.kid0 ks).len) from (Bool.and_assoc _ _ _).symm)
 have hz5 := mk_size d
 clear ih hT ha hk hn
 go_enter Tryz.func84, Tryz.ntmps84
 go_wp2_with (fail)
 refine HONE.out.mono ?_; rintro x w3 ⟨p, rfl, hp, hb3⟩
 obtain ⟨x0, x1, x2, x3, x4, x5, x6⟩ := HA.out.below hb3 hg
 simp only [tv] at x3 x4 x5
 cases hB : (Vp.oneOk ns i e ks && Vp.mayAll ns ks [i]) with
 | false =>
  rw [hB, Bool.false_and] at HX
  clear hp hB
  go_wp2
  go_quiet (fail)
  go_wp2
  go_ret
  exact ⟨ret_bool HX.out.symm, below_drewN hb3 _⟩
 | true =>
  rw [hB, Bool.true_and] at HX
  rw [hB] at hp
  obtain ⟨kb, ko, c, rfl, rfl⟩ := hp rfl
  have hkl : ks.length = 1 := by
   have h := HK.out
   rw [KidsAt] at h
   obtain ⟨a', c', hv', _⟩ := h
   exact (Value.slice.inj hv').2.1.symm
  obtain ⟨y, rfl⟩ := List.length_eq_one_iff.1 hkl
  obtain ⟨kb', ko', kx, he', hkb, hy, _⟩ := kid_open (KidsAt.below hb3 _ _ HK.out)
  obtain ⟨rfl, rfl, _⟩ := Addr.mk.inj (Option.some.inj he')
  have HY := Lib.hid hy
  obtain ⟨_, _, y2, _⟩ := hy
  have hym : Vp.mayA ns y i = true := by
   rw [Bool.and_eq_true] at hB
   have := hB.2
   rw [Vp.mayAll, Bool.and_eq_true] at this
   exact this.1
  have hyl := may_len hym
  have HX2 := Lib.hid (show (Vp.oneOk ns i e [y] && (Vp.mayAll ns [y] [i] && Vp.runOk f n v d (Vp.kid0 [y]).len)) = Vp.runOk f n v d y.len from HX.out)
  have HA3 := Lib.hid (HA.out.below hb3 hg)
  have hg3 := Nat.lt_of_lt_of_le hg hb3.size
  have HB3 := hb3
  clear hkl he' hB HONE HX HA HK hp hb3 hym
  obtain ⟨K, hK⟩ := Int.eq_ofNat_of_zero_le hyl.1
  rw [hK] at y2 HX2 hyl
  have hK64 : K ≤ 64 := by omega
  have HKY := Lib.hid hK
  clear hK hyl
  by_cases hv0 : v = []
  ·subst hv0
   by_cases h4 : (d.length : Int) = 4 * (K : Int)
   ·have d4 : ((d.length : Int) != 4 * (K : Int)) = false := by simp [h4]
    have d4' : decide ((d.length : Int) = 4 * (K : Int)) = true := decide_eq_true h4
    have H4 := Lib.hid h4
    obtain ⟨D, hD⟩ : ∃ D : Int, (d.length : Int) = D := ⟨_, rfl⟩
    clear d4 d4'
    go_upto_region 2 with (fail)
    go_quiet (fail)
    clear h4 hD
    go_wp2
    clear x0 x1 x2 x3 x4 x5 x6 y2
    go_loopw [9, 10, 11, 12, 46] (fun last _ _ _ ix wr => ∃ q : Nat, q ≤ K ∧ ix = .int .i64 (q : Int) ∧ last = .int .i64 (Vp.runEnd d q) ∧ (∀ j, j < q → Vp.runAt d j = true) ∧ Below w3.heap.size w3 wr) (fun _ _ _ _ ix _ => K - (intOf ix).toNat)
    case atStart => exact ⟨0, Nat.zero_le _, rfl, rfl, fun j h1 => absurd h1 (Nat.not_lt_zero _), below_drewN (Below.refl _ _) _⟩
    case round =>
     obtain ⟨q, hq, rfl, rfl, hall, hbr⟩ := hrel
     have HALL := Lib.hid hall
     clear hall
     obtain ⟨x0, x1, x2, x3, x4, x5, x6⟩ := HA3.out.below hbr hg3
     simp only [tv] at x3 x4 x5
     have hwr : 0 ≤ Vp.runEnd d q ∧ Vp.runEnd d q ≤ 2147483647 := by
      unfold Vp.runEnd
      split
      ·constructor <;> decide
      ·exact num4_rng _ _
     by_cases hlt : q < K
     ·have hlti : (q : Int) < (K : Int) := by omega
      have HNU := Lib.hid (fun W => number4_calls d q W (by omega) (by omega))
      have HAT := Lib.hid (show Vp.runAt d q = ((Vp.num4 d q).2 && decide (Vp.runEnd d q < (Vp.num4 d q).1)) from rfl)
      have HNX := Lib.hid (show Vp.runEnd d (q + 1) = (Vp.num4 d q).1 by unfold Vp.runEnd; rw [if_neg (by omega), Nat.add_sub_cancel])
      have HNO := Lib.hid (fun h => run_no (f := (f : Int)) (n := (n : Int)) (d := d) hlt h)
      obtain ⟨X, b, hXb⟩ : ∃ X b, Vp.num4 d q = (X, b) := ⟨_, _, rfl⟩
      rw [hXb] at HNU HAT HNX
      clear hXb
      generalize Vp.runEnd d q = L at HAT hwr
      cases b with
      | false =>
       rw [Bool.false_and] at HAT
       go_wp2_with (go_at_call 114; refine (HNU.out _).mono ?_; rintro x w' ⟨rfl, rfl⟩)
       go_ret
       exact ⟨ret_bool (by rw [HX2.out, HNO.out HAT.out]), HB3.trans (hbr.mono HB3.size)⟩
      | true =>
       rw [Bool.true_and] at HAT
       by_cases hge : L < X
       ·rw [decide_eq_true hge] at HAT
        go_wp2_with (go_at_call 114; refine (HNU.out _).mono ?_; rintro x w' ⟨rfl, rfl⟩)
        refine ⟨⟨q + 1, by omega, by go_num, by rw [HNX.out], fun j h1 => ?_, hbr⟩, by simp [intOf]; omega⟩
        by_cases hj : j = q
        ·rw [hj]; exact HAT.out
        ·exact HALL.out j (by omega)
       ·rw [decide_eq_false hge] at HAT
        have hle : X ≤ L := by omega
        go_wp2_with (go_at_call 114; refine (HNU.out _).mono ?_; rintro x w' ⟨rfl, rfl⟩)
        go_ret
        exact ⟨ret_bool (by rw [HX2.out, HNO.out HAT.out]), HB3.trans (hbr.mono HB3.size)⟩
     ·obtain rfl : q = K := by omega
      have HU := Lib.hid (run_all (f := (f : Int)) (n := (n : Int)) H4.out HALL.out)
      generalize Vp.runEnd d q = L at HU hwr
      by_cases hge : (f : Int) + (n : Int) ≤ L
      ·have dge : decide ((f : Int) + (n : Int) ≤ L) = true := decide_eq_true hge
       rw [dge] at HU
       go_wp2
       go_quiet (fail)
       go_wp2
       go_ret
       exact ⟨ret_bool (by rw [HX2.out, HU.out]), HB3.trans ((below_drewN hbr _).mono HB3.size)⟩
      ·have dge : decide ((f : Int) + (n : Int) ≤ L) = false := decide_eq_false hge
       rw [dge] at HU
       go_wp2
       go_quiet (fail)
       go_wp2
       go_ret
       exact ⟨ret_bool (by rw [HX2.out, HU.out]), HB3.trans ((below_drewN hbr _).mono HB3.size)⟩
   ·have d4 : ((d.length : Int) != 4 * (K : Int)) = true := by simp [h4]
    have d4' : decide ((d.length : Int) = 4 * (K : Int)) = false := decide_eq_false h4
    have HU := Lib.hid (show Vp.runOk f n [] d (K : Int) = false by
     unfold Vp.runOk
     rw [d4', Bool.false_and]
     simp)
    go_wp2
    go_quiet (fail)
    go_wp2
    go_ret
    exact ⟨ret_bool (by rw [HX2.out, HU.out]), below_drewN HB3 _⟩
  ·have hiv := no_empty hv0
   have HU := Lib.hid (show Vp.runOk f n v d (K : Int) = false by
    unfold Vp.runOk
    rw [decide_eq_false hv0, Bool.false_and])
   go_wp2
   go_quiet (fail)
   go_wp2
   go_ret
   exact ⟨ret_bool (by rw [HX2.out, HU.out]), below_drewN HB3 _⟩
end Go.Proofs.YtobhjlchpnpleaaGreatDoor

/- Package array: May, walked. -/
namespace Go.Proofs.YtobhjlchpnpleaaGreatDoor
open Go.RowKit
set_option linter.unusedVariables false
set_option linter.unusedSimpArgs false

set_option maxRecDepth 100000 in
set_option maxHeartbeats 6400000 in
theorem may_succ (ns : List Tp.Nd) (N : Nat) (ih : MayOK ns N) : MayOK ns (N + 1) := by
 intro a x u vv W hsz ha hn
 obtain ⟨l, f, n, v, e, d, ks⟩ := a
 obtain ⟨k, rfl, hk⟩ := ha
 have hih : ∀ a ∈ ks, MayOK ns (SizeOf.sizeOf a + 1) := fun a ha b y u' vv' W' hb => ih b y u' vv' W' (by have := List.sizeOf_lt_of_mem ha; simp only [Arr.mk.sizeOf_spec] at hsz; omega)
 have HX := Lib.hid (mayX_eq ns l f n v e d ks x)
 have HIH := Lib.hid hih
 have hbk := below_alloc (below_alloc (Below.refl W.heap.size W) (.cells #[vv] 24)) (.cells #[.int .i64 l, .int .i64 f, .int .i64 n, .string ⟨v.toArray⟩, .string ⟨e.toArray⟩, .string ⟨d.toArray⟩, k] 27)
 have hn2 := hn.below hbk
 have hk2 := KidsAt.below hbk _ _ hk
 have C4 := (Below.heap_alloc (W.alloc (.cells #[vv] 24)) (.cells #[.int .i64 l, .int .i64 f, .int .i64 n, .string ⟨v.toArray⟩, .string ⟨e.toArray⟩, .string ⟨d.toArray⟩, k] 27) W.heap.size (by simp)).trans (heap_alloc_new W (.cells #[vv] 24))
 have C6 := heap_alloc_new (W.alloc (.cells #[vv] 24)) (.cells #[.int .i64 l, .int .i64 f, .int .i64 n, .string ⟨v.toArray⟩, .string ⟨e.toArray⟩, .string ⟨d.toArray⟩, k] 27)
 rw [show (W.alloc (.cells #[vv] 24)).heap.size = W.heap.size + 1 by simp] at C6
 obtain ⟨W2, hW2⟩ : ∃ W2, (W.alloc (.cells #[vv] 24)).alloc (.cells #[.int .i64 l, .int .i64 f, .int .i64 n, .string ⟨v.toArray⟩, .string ⟨e.toArray⟩, .string ⟨d.toArray⟩, k] 27) = W2 := ⟨_, rfl⟩
 rw [hW2] at hbk hn2 hk2 C4 C6
 rw [KidsAt] at hk
 obtain ⟨ka, kc, rfl, hkc1, hkc2, _⟩ := hk
 have HN := Lib.hid hn2
 have HK := Lib.hid hk2
 have HB := Lib.hid hbk
 have HC4 := Lib.hid C4
 have HC6 := Lib.hid C6
 have q4 := cell_of_one C4
 obtain ⟨x0, x1, x2, x3, x4, x5, x6, _⟩ := zero_cells C6
 have HND := Lib.hid (node_calls vv ns x W2 hn2)
 clear hn hn2 hk2 hbk hih ih C4 C6 hsz
 cases hnd : Tp.node ns x with
 | false =>
  rw [hnd] at HND HX
  simp only [Bool.false_and] at HX
  go_enter Tryz.func56, Tryz.ntmps56
  go_wp2_with (fail)
  refine HND.out.mono ?_; rintro y w3 ⟨rfl, hb3⟩
  go_wp2
  go_ret
  exact ⟨ret_bool HX.out.symm, HB.out.trans (hb3.mono HB.out.size)⟩
 | true =>
  rw [hnd] at HND HX
  simp only [Bool.true_and] at HX
  have hx0 : 0 ≤ x := by
   unfold Tp.node at hnd
   simp only [Bool.and_eq_true, decide_eq_true_eq] at hnd
   omega
  obtain ⟨i, rfl⟩ := Int.eq_ofNat_of_zero_le hx0
  obtain ⟨hm, hi⟩ := (Vp.node_of ns i).1 hnd
  have hii : (i : Int) < (ns.length : Int) := by omega
  obtain ⟨bk, no, nc, rfl, hc1, hc2, hbk, g0, g2⟩ := nodes_open HN.out hi
  unfold maxLen at hc2 hkc2
  have HBF := Lib.hid (show bufB (Vp.isNull ns i) f n v e d = (numsOk f n v e d && validOk ns i f n v) from rfl)
  have HG2 := Lib.hid g2
  rw [Int.toNat_natCast] at HX
  clear hx0 hnd g0 g2
  go_enter Tryz.func56, Tryz.ntmps56
  go_wp2_with (fail)
  refine HND.out.mono ?_; rintro y w3 ⟨rfl, hb3⟩
  have C4' := (hb3.block _ (lt_of_block HC4.out)).trans HC4.out
  have C6' := (hb3.block _ (lt_of_block HC6.out)).trans HC6.out
  have HN3 := Lib.hid (HN.out.below hb3)
  have HK3 := Lib.hid (KidsAt.below hb3 _ _ HK.out)
  have HB3 := HB.out.trans (hb3.mono HB.out.size)
  have g3 := (hb3.cell (p := ⟨bk, no + i * 3 + 2, none⟩) hbk).trans HG2.out
  have HCA : CellA w3 (W.heap.size + 1) 0 l f n v e d (.slice ka ks.length kc) := by
   obtain ⟨z0, z1, z2, z3, z4, z5, z6, _⟩ := zero_cells C6'
   exact ⟨z0, z1, z2, z3, z4, z5, z6⟩
  have hl4 := lt_of_block C4'
  have hl6 := lt_of_block C6'
  have HBU := Lib.hid (buffers_calls bk (no + i * 3) (W.heap.size + 1) 0 (Vp.isNull ns i) l f n v e d _ w3 HCA g3)
  have HHC := Lib.hid HCA
  have HT := Lib.hid (cell_of_one C4')
  clear x0 x1 x2 x3 x4 x5 x6 q4 HC4 HC6 hb3 HND HG2 g3 HN HK HB hbk HCA hW2
  have q4 := HT.out
  obtain ⟨x0, x1, x2, x3, x4, x5, x6, _⟩ := zero_cells C6'
  have HC6 := Lib.hid C6'
  clear C4' C6'
  go_wp2_with (fail)
  refine HBU.out.mono ?_; rintro y w4 ⟨rfl, hb4⟩
  have HB4 := HB3.trans (hb4.mono HB3.size)
  have HN4 := Lib.hid (HN3.out.below hb4)
  have HK4 := Lib.hid (KidsAt.below hb4 _ _ HK3.out)
  have HCA := HHC.out.below hb4 hl6
  have HT4 := (hb4.cell (p := ⟨W.heap.size, 0, none⟩) hl4).trans HT.out
  have hl4' := Nat.lt_of_lt_of_le hl4 hb4.size
  have hl6' := Nat.lt_of_lt_of_le hl6 hb4.size
  have C6' := (hb4.block _ (lt_of_block HC6.out)).trans HC6.out
  clear x0 x1 x2 x3 x4 x5 x6 q4 HC6 hb4 HHC HT HBU HN3 HK3 HB3 hl4 hl6
  obtain ⟨x0, x1, x2, x3, x4, x5, x6, _⟩ := zero_cells C6'
  have HC := Lib.hid HCA
  have HT := Lib.hid HT4
  clear C6' HCA HT4
  cases hbf : bufB (Vp.isNull ns i) f n v e d with
  | false =>
   have HU := Lib.hid (show mayX ns (.mk l f n v e d ks) (i : Int) = false by
    rw [HX.out, ← Bool.and_assoc, ← HBF.out, hbf, Bool.false_and])
   clear hbf
   go_wp2
   go_ret
   exact ⟨ret_bool HU.out.symm, HB4⟩
  | true =>
   have hbf2 := hbf
   rw [HBF.out, Bool.and_eq_true] at hbf2
   obtain ⟨hno, hva⟩ := hbf2
   rw [hno, hva, Bool.true_and, Bool.true_and] at HX
   unfold numsOk at hno
   rw [decide_eq_true_eq] at hno
   obtain ⟨hf0, hn0, hf64, hn64, hv1, he1, hd1⟩ := hno
   obtain ⟨f, rfl⟩ := Int.eq_ofNat_of_zero_le hf0
   obtain ⟨n, rfl⟩ := Int.eq_ofNat_of_zero_le hn0
   have hfn : f + n ≤ 64 := by omega
   have hv2 : v ≠ [] → ((f : Int) + (n : Int) + 7) / 8 ≤ v.length := by
    intro hv
    unfold validOk at hva
    simp only [Bool.or_eq_true, Bool.and_eq_true, decide_eq_true_eq] at hva
    rcases hva with h | h
    ·exact absurd h hv
    ·exact h.2
   have HV2 := Lib.hid hv2
   clear hbf hva hf0 hn0 hv2
   by_cases l0 : l = 0
   ·subst l0
    rw [if_pos rfl] at HX
    have HP := Lib.hid (arrPlain_calls ns W.heap.size (W.heap.size + 1) 0 0 f n v e d ks _ _ i w4 HIH.out hm hi hfn he1 hd1 HT.out hl4' HC.out hl6' HK4.out HN4.out)
    go_wp2_with (fail)
    refine HP.out.mono ?_; rintro y w5 ⟨rfl, hb5⟩
    go_wp2
    go_ret
    exact ⟨ret_bool HX.out.symm, HB4.trans (hb5.mono HB4.size)⟩
   by_cases l1 : l = 1
   ·subst l1
    rw [if_neg (by decide), if_pos rfl] at HX
    have HP := Lib.hid (arrDict_calls ns W.heap.size (W.heap.size + 1) 0 1 f n v e d ks _ _ i w4 HIH.out hm hi hfn hv1 HV2.out hd1 HT.out hl4' HC.out hl6' HK4.out HN4.out)
    go_wp2_with (fail)
    refine HP.out.mono ?_; rintro y w5 ⟨rfl, hb5⟩
    go_wp2
    go_ret
    exact ⟨ret_bool HX.out.symm, HB4.trans (hb5.mono HB4.size)⟩
   by_cases l2 : l = 2
   ·subst l2
    rw [if_neg (by decide), if_neg (by decide), if_pos rfl] at HX
    have HP := Lib.hid (arrRun_calls ns W.heap.size (W.heap.size + 1) 0 2 f n v e d ks _ _ i w4 HIH.out hm hi hfn hd1 HT.out hl4' HC.out hl6' HK4.out HN4.out)
    go_wp2_with (fail)
    refine HP.out.mono ?_; rintro y w5 ⟨rfl, hb5⟩
    go_wp2
    go_ret
    exact ⟨ret_bool HX.out.symm, HB4.trans (hb5.mono HB4.size)⟩
   rw [if_neg l0, if_neg l1, if_neg l2] at HX
   go_wp2
   go_ret
   exact ⟨ret_bool HX.out.symm, HB4⟩
theorem may_all (ns : List Tp.Nd) : ∀ N, MayOK ns N
 | 0 => fun _ _ _ _ _ h => absurd h (Nat.not_lt_zero _)
 | N + 1 => may_succ ns N (may_all ns N)
theorem arrMay_calls (ns : List Tp.Nd) (a : Arr) (x : Int) (u vv : Value) (W : World) (ha : ArrAt W a u) (hn : NodesAt W vv ns) :
  Calls Tryz.prog 56 #[typeV vv, .int .i64 x, u] W fun e w' => e = .returned (.bool (mayX ns a x)) ∧ Below W.heap.size W w' :=
 may_all ns _ a x u vv W (Nat.lt_succ_self _) ha hn
end Go.Proofs.YtobhjlchpnpleaaGreatDoor

/- Package read: the first run above a row; rows of whole numbers, truths, bytes; walked. -/
namespace Go.Proofs.YtobhjlchpnpleaaGreatDoor
open Go.RowKit
set_option linter.unusedVariables false
set_option linter.unusedSimpArgs false

def RowOK (ns : List Tp.Nd) (N : Nat) : Prop := ∀ (a : Arr) (i r g o : Nat) (k vv : Value) (W : World), SizeOf.sizeOf a < N → Vp.mayA ns a i = true → r < a.len.toNat → CellA W g o a.lay a.off a.len a.valid a.ends a.data k → g < W.heap.size → KidsAt W a.kids k → NodesAt W vv ns → Vars W →
 Calls Tryz.prog 57 #[typeV vv, .int .i64 (i : Int), .pointer (some ⟨g, o, none⟩), .int .i64 (r : Int)] W fun e w' => e = .returned (tv (Vp.rowA ns a i r)) ∧ Below W.heap.size W w'
set_option maxHeartbeats 1600000 in
theorem readRun_calls (g o : Nat) (l f n : Int) (v e d : Vp.Txt) (k : Value) (K R : Nat) (W : World) (ha : CellA W g o l f n v e d k) (hd : d.length = 4 * K) (hK : K ≤ 64)
  (hn : ∀ j, j < K → Vp.num4 d j = (((Vp.cut4 d j : Nat) : Int), true)) (hR : R ≤ 65536) (hla : (R : Int) < Vp.runEnd d K) :
  Calls Tryz.prog 117 #[.pointer (some ⟨g, o, none⟩), .int .i64 (R : Int)] W fun x w' => x = .returned (.int .i64 (Vp.runOf d R : Nat)) ∧ W = w' := by
 obtain ⟨_, _, _, _, _, c5, _⟩ := ha
 simp only [tv] at c5
 have HN := Lib.hid hn
 have HD := Lib.hid hd
 have HLA := Lib.hid hla
 have hdl : d.length ≤ 65536 := by omega
 clear hn hd hla
 go_enter Tryz.func117, Tryz.ntmps117
 go_wp2
 go_loop [5, 6, 7, 8] (fun ix _ _ _ => ∃ q : Nat, q < K ∧ ix = .int .i64 (q : Int) ∧ (∀ j, j < q → Vp.cut4 d j ≤ R)) (fun ix _ _ _ => K - (intOf ix).toNat)
 case atStart =>
  refine ⟨0, ?_, rfl, fun j h => absurd h (Nat.not_lt_zero _)⟩
  rcases Nat.eq_zero_or_pos K with h | h
  ·have := HLA.out
   rw [h] at this
   have e0 : Vp.runEnd d 0 = 0 := rfl
   rw [e0] at this
   omega
  ·exact h
 case round =>
  obtain ⟨q, hq, rfl, hall⟩ := hrel
  have HALL := Lib.hid hall
  clear hall
  have HNU := Lib.hid (fun W => number4_calls d q W (by omega) (by omega))
  have hnq := HN.out q hq
  rw [hnq] at HNU
  have HRO := Lib.hid (fun h => runOf_at (R := R) HD.out HN.out hq HALL.out h)
  have HNX := Lib.hid (show Vp.runEnd d (q + 1) = (Vp.cut4 d q : Nat) by unfold Vp.runEnd; rw [if_neg (by omega), Nat.add_sub_cancel, hnq])
  clear hnq
  generalize hX : Vp.cut4 d q = X at HNU HRO HNX
  have HX := Lib.hid hX
  clear hX
  by_cases hlt : R < X
  ·have hlti : (R : Int) < (X : Int) := by omega
   have HFIN := Lib.hid (HRO.out hlt)
   go_wp2_with (go_at_call 114; refine (HNU.out _).mono ?_; rintro x w' ⟨rfl, rfl⟩)
   go_ret
   exact ⟨by rw [HFIN.out]; rfl, rfl⟩
  ·have hle : (X : Int) ≤ (R : Int) := by omega
   have hq2 : q + 1 < K := by
    rcases Nat.lt_or_ge (q + 1) K with h | h
    ·exact h
    ·have := HLA.out
     rw [show K = q + 1 by omega, HNX.out] at this
     omega
   go_wp2_with (go_at_call 114; refine (HNU.out _).mono ?_; rintro x w' ⟨rfl, rfl⟩)
   refine ⟨⟨q + 1, hq2, by go_num, fun j hj => ?_⟩, by simp [intOf]; omega⟩
   by_cases hjq : j = q
   ·rw [hjq, HX.out]; omega
   ·exact HALL.out j (by omega)
set_option maxRecDepth 100000 in
set_option maxHeartbeats 3200000 in
theorem rdLeaf_calls (ns : List Tp.Nd) (g o : Nat) (f n : Nat) (v e d : Vp.Txt) (ks : List Arr) (k vv : Value) (i r : Nat) (W : World) (hm : Vp.mayA ns (.mk 0 f n v e d ks) i = true) (hr : r < n)
  (hon : Vp.on v (f + r) = true) (ha : CellA W g o 0 (f : Int) (n : Int) v e d k) (hg : g < W.heap.size) (hn : NodesAt W vv ns) (hv : Vars W) (hkk : Tp.kindOf ns i ≤ 2) :
  Calls Tryz.prog 118 #[typeV vv, .int .i64 (i : Int), .pointer (some ⟨g, o, none⟩), .int .i64 ((f + r : Nat) : Int)] W fun x w' => x = .returned (tv (Vp.textA ns (.mk 0 f n v e d ks) i (f + r))) ∧ Below W.heap.size W w' := by
 have hbk := below_alloc (Below.refl W.heap.size W) (.cells #[vv] 82)
 obtain ⟨hmy, hi, _, _, hfn, hv1, he1, hd1, hvv⟩ := mayA_nums hm
 have hii : (i : Int) < (ns.length : Int) := by omega
 have hkr := Vp.may_kind ns hmy i hi
 have hnd : Tp.node ns (i : Int) = true := (Vp.node_of ns i).2 ⟨hmy, hi⟩
 have hpo := mayA_plain hm
 rw [plainK_eq] at hpo
 have HU := Lib.hid (text_plain ns f n v e d ks i (f + r) hon)
 obtain ⟨bk, no, nc, rfl, hc1, hc2, hbkn, g0, _⟩ := nodes_open (hn.below hbk) hi
 have HN := Lib.hid (hn.below hbk)
 have HA := Lib.hid (ha.below hbk hg)
 have HV := Lib.hid (hv.below hbk hv.six)
 have HSX := Lib.hid hv.six
 have q0 : (W.alloc (.cells #[.slice (some ⟨bk, no, none⟩) ns.length nc] 82)).cell? ⟨W.heap.size, 0, none⟩ = some (.slice (some ⟨bk, no, none⟩) ns.length nc) := by simp
 obtain ⟨x0, x1, x2, x3, x4, x5, x6⟩ := HA.out
 simp only [tv] at x3 x4 x5
 unfold maxLen at hc2
 have hz4 := mk_size e
 have hz5 := mk_size d
 obtain ⟨kd, hkd⟩ : ∃ kd, Tp.kindOf ns i = kd := ⟨_, rfl⟩
 rw [hkd] at hpo HU hkr hkk g0
 clear ha hn hv hm hkd
 obtain ⟨R, hR⟩ : ∃ R : Nat, f + r = R := ⟨_, rfl⟩
 have hRn : R < f + n := by omega
 have hfn' : f + n ≤ 64 := by omega
 rw [hR] at HU hon ⊢
 clear hR hfn hr hon hvv
 have hgl : g < (W.alloc (.cells #[.slice (some ⟨bk, no, none⟩) ns.length nc] 82)).heap.size := by simp; omega
 obtain ⟨W1, hW1⟩ : ∃ W1, W.alloc (.cells #[.slice (some ⟨bk, no, none⟩) ns.length nc] 82) = W1 := ⟨_, rfl⟩
 rw [hW1] at hbk hbkn g0 HN HA HV q0 x0 x1 x2 x3 x4 x5 x6 hgl
 have HB := Lib.hid hbk
 clear hbk
 by_cases k0 : kd = 0
 ·subst k0
  have h8 : 8 * R + 8 ≤ d.length := by
   unfold plainK at hpo
   rw [if_pos rfl] at hpo
   simp only [Bool.and_eq_true, decide_eq_true_eq] at hpo
   omega
  have hex := mk_extract d (8 * R) (8 * R + 8)
  rw [← List.take_drop] at hex
  have HI := Lib.hid (show ∀ W, Calls Tryz.prog 137 #[.string ((⟨d.toArray⟩ : ByteArray).extract (8 * R) (8 * (R + 1)))] W fun x w' => x = .returned (.int .i64 (Vp.int8 d R)) ∧ W = w' from fun W => by
   rw [show 8 * (R + 1) = 8 * R + 8 by omega, hex]
   exact numOf_calls ((d.drop (8 * R)).take 8) W (by rw [List.length_take]; omega))
  have hx8 := int8_rng d R
  have HII := Lib.hid (fun (w' : World) (h : Below W1.heap.size W1 w') => int_calls (Vp.int8 d R) w' (HV.out.below h (Nat.le_trans HSX.out HB.out.size)) hx8.1 hx8.2)
  have HUU := Lib.hid (show Vp.textA ns (.mk 0 f n v e d ks) i R = Vp.int (Vp.int8 d R) from HU.out)
  clear hex hx8
  generalize Vp.int8 d R = X at HI HII HUU
  go_enter Tryz.func118, Tryz.ntmps118
  go_wp2_with (first
   | (go_at_call 137; with_reducible refine (HI.out _).mono ?_; rintro x w' ⟨rfl, rfl⟩)
   | (go_at_call 136; refine (HII.out _ (Below.refl _ _)).mono ?_; rintro x w5 ⟨rfl, hb5⟩))
  go_ret
  exact ⟨by rw [HUU.out]; rfl, HB.out.trans (hb5.mono HB.out.size)⟩
 by_cases k1 : kd = 1
 ·subst k1
  have h8 : R < 8 * d.length := by
   unfold plainK at hpo
   rw [if_neg (by decide), if_pos rfl] at hpo
   simp only [Bool.and_eq_true, decide_eq_true_eq] at hpo
   omega
  have HBT := Lib.hid (fun W => bitsOn_calls ⟨d.toArray⟩ ((R : Nat) : Int) W (by omega) (by omega) (by omega))
  rw [Int.toNat_natCast] at HBT
  have HBT := Lib.hid (show ∀ W, Calls Tryz.prog 135 #[.string ⟨d.toArray⟩, .int .i64 (R : Int)] W fun e w' => e = .returned (.bool (Bt.bit d R)) ∧ W = w' from HBT.out)
  have HUU := Lib.hid (show Vp.textA ns (.mk 0 f n v e d ks) i R = Vp.bool (Bt.bit d R) from HU.out)
  generalize Bt.bit d R = on at HBT HUU
  go_enter Tryz.func118, Tryz.ntmps118
  go_wp2_with (first
   | (go_at_call 135; refine (HBT.out _).mono ?_; rintro x w' ⟨rfl, rfl⟩)
   | (go_at_call 96; refine (bool_calls on _).mono ?_; rintro x w' ⟨rfl, rfl⟩))
  go_ret
  exact ⟨by rw [HUU.out]; rfl, HB.out⟩
 obtain rfl : kd = 2 := by omega
 have heo : Vp.endsOk e (f + n) d.length f 16 = true := by
  unfold plainK at hpo
  rw [if_neg (by decide), if_neg (by decide), if_pos rfl, show ((f : Int) + (n : Int)).toNat = f + n by omega, Int.toNat_natCast] at hpo
  exact hpo
 obtain ⟨z1, z2, z3, z4, z5⟩ := ends_at heo (row := R) (by omega)
 have HNU := Lib.hid (fun W => number4_calls e R W (by omega) (by omega))
 have HNV := Lib.hid (fun W => number4_calls e (R + 1) W (by omega) (by omega))
 have HFIN := Lib.hid (show Vp.textA ns (.mk 0 f n v e d ks) i R = Vp.str ((d.drop (Vp.cut4 e R)).take (Vp.cut4 e (R + 1) - Vp.cut4 e R)) by
  have h := HU.out
  unfold plainT at h
  rw [if_neg (by decide), if_neg (by decide), if_pos rfl, z1, z2, Int.toNat_natCast, Int.toNat_natCast] at h
  exact h)
 rw [z1] at HNU
 rw [z2] at HNV
 rw [show ((R + 1 : Nat) : Int) = (R : Int) + 1 by omega] at HNV
 generalize Vp.cut4 e R = A at HFIN HNU z3
 generalize Vp.cut4 e (R + 1) = B at HFIN HNV z3 z4
 have hAB : (A : Int) ≤ (B : Int) := by omega
 have hBd : (B : Int) ≤ (d.length : Int) := by omega
 have hex := mk_extract d A B
 rw [← List.take_drop_sub d A B (by omega)] at hex
 have HST := Lib.hid (show ∀ (w' : World), Below W1.heap.size W1 w' → Calls Tryz.prog 138 #[.string ((⟨d.toArray⟩ : ByteArray).extract A B)] w' fun x w'' => x = .returned (tv (Vp.str ((d.drop A).take (B - A)))) ∧ Below w'.heap.size w' w'' from fun w' h => by
  rw [hex]
  exact str_calls _ w' (HV.out.below h (Nat.le_trans HSX.out HB.out.size)) (by rw [List.length_take]; omega))
 have HKD := Lib.hid (kidsOk_calls (.slice (some ⟨bk, no, none⟩) ns.length nc) ns i W1 HN.out hnd)
 have HG0 := Lib.hid g0
 have HQ0 := Lib.hid q0
 have HQL := Lib.hid (show W.heap.size < W1.heap.size by rw [← hW1]; simp)
 clear z1 z2 z3 z4 z5 heo hpo hex HU
 go_enter Tryz.func118, Tryz.ntmps118
 go_wp2_with (fail)
 refine HKD.out.mono ?_; rintro x w4 ⟨kr, rfl, hko, hb4⟩
 obtain ⟨kra, krc, rfl⟩ := own_slice hko
 have g4 := (hb4.cell (p := ⟨bk, no + i * 3, none⟩) hbkn).trans HG0.out
 have q5 := (hb4.cell (p := ⟨W.heap.size, 0, none⟩) HQL.out).trans HQ0.out
 have HB4 := hb4
 clear x0 x1 x2 x3 x4 x5 x6 q0 g0 hko hb4
 obtain ⟨x0, x1, x2, x3, x4, x5, x6⟩ := HA.out.below HB4 hgl
 simp only [tv] at x3 x4 x5
 go_wp2_with (first
  | (go_at_call 114; with_reducible refine (HNU.out _).mono ?_; rintro x w' ⟨rfl, rfl⟩)
  | (go_at_call 114; with_reducible refine (HNV.out _).mono ?_; rintro x w' ⟨rfl, rfl⟩)
  | (go_at_call 138; with_reducible refine (HST.out _ HB4).mono ?_; rintro x w5 ⟨rfl, hb5⟩))
 go_ret
 exact ⟨by rw [HFIN.out]; rfl, HB.out.trans ((below_then HB4 hb5).mono HB.out.size)⟩
end Go.Proofs.YtobhjlchpnpleaaGreatDoor
