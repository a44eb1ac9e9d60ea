/- The reference's ArrayMay, walked: the only kid is not plain. -/
import Derived.Test.YtobhjlchpnpleaaGreatDoorCa13
import Derived.Test.YtobhjlchpnpleaaGreatDoorCa37
namespace Go.Proofs.YtobhjlchpnpleaaGreatDoor
open Go.RowKit
set_option linter.unusedVariables false
set_option linter.unusedSimpArgs false

set_option maxRecDepth 100000 in
set_option maxHeartbeats 6400000 in
theorem refMay_noB (ns : List Tp.Nd) (l f n : Int) (v e d : Vp.Txt) (ks : List Arr) (x : Int) (k vv : Value) (W : World) (hih : ∀ a ∈ ks, RefMayOK ns (SizeOf.sizeOf a + 1)) (hk : KidsAt W ks k) (hn : NodesAt W vv ns)
  (hc : (Tp.node ns x && numsOk f n v e d) = true ∧ (validOk ns x.toNat f n v = true ∧ (l ≠ 0 ∧ (Vp.oneOk ns x.toNat e ks && Vp.mayAll ns ks [x.toNat]) = false)))
  (hq : (Tp.inner (Tp.kindOf ns x.toNat) = false ∧ ks.length = 1) ∧ ¬ (e = [] ∧ (Vp.kid0 ks).lay = 0)) :
  Calls Tryz.prog 26 #[typeV vv, .int .i64 x, arrV l f n v e d k] W fun e' w' => e' = .returned (.bool (mayX ns (.mk l f n v e d ks) x)) ∧ Below W.heap.size W w' := by
 have HX := Lib.hid (mayX_eq ns l f n v e d ks x)
 have HIH := Lib.hid hih
 clear hih
 have HC := Lib.hid hc
 clear hc
 have HQ := Lib.hid hq
 clear hq
 have hbk := below_alloc (below_alloc (Below.refl W.heap.size W) (.cells #[vv] 24)) (.cells #[.int .i64 l, .int .i64 f, .int .i64 n, .string ⟨v.toArray⟩, .string ⟨e.toArray⟩, .string ⟨d.toArray⟩, k] 27)
 have hn2 := hn.below hbk
 have hk2 := KidsAt.below hbk _ _ hk
 have C4 := (Below.heap_alloc (W.alloc (.cells #[vv] 24)) (.cells #[.int .i64 l, .int .i64 f, .int .i64 n, .string ⟨v.toArray⟩, .string ⟨e.toArray⟩, .string ⟨d.toArray⟩, k] 27) W.heap.size (by simp)).trans (heap_alloc_new W (.cells #[vv] 24))
 have C6 := heap_alloc_new (W.alloc (.cells #[vv] 24)) (.cells #[.int .i64 l, .int .i64 f, .int .i64 n, .string ⟨v.toArray⟩, .string ⟨e.toArray⟩, .string ⟨d.toArray⟩, k] 27)
 rw [show (W.alloc (.cells #[vv] 24)).heap.size = W.heap.size + 1 by simp] at C6
 obtain ⟨W2, hW2⟩ : ∃ W2, (W.alloc (.cells #[vv] 24)).alloc (.cells #[.int .i64 l, .int .i64 f, .int .i64 n, .string ⟨v.toArray⟩, .string ⟨e.toArray⟩, .string ⟨d.toArray⟩, k] 27) = W2 := ⟨_, rfl⟩
 rw [hW2] at hbk hn2 hk2 C4 C6
 rw [KidsAt] at hk
 obtain ⟨ka, kc, rfl, hkc1, hkc2, _⟩ := hk
 have q4 := cell_of_one C4
 have HN := Lib.hid hn2
 have HK := Lib.hid hk2
 have HB := Lib.hid hbk
 have hzv := mk_size v
 have hze := mk_size e
 have hzd := mk_size d
 unfold maxLen at hkc2
 have HNM := Lib.hid (nodeMay_calls vv ns x W2 hn2)
 clear hn hn2 hk2 hbk
 go_enter Tryz.func26, Tryz.ntmps26
 go_upto_region 1 with (fail)
 clear hW2
 go_cut [60] (fun s wx => s = .bool (!(Tp.node ns x && numsOk f n v e d)) ∧ Below W2.heap.size W2 wx)
 case first =>
  have hnn := HC.out.1
  have HNN := Lib.hid hnn
  rw [Bool.and_eq_true] at hnn
  obtain ⟨hnd, hnm⟩ := hnn
  unfold numsOk at hnm
  have hnm := of_decide_eq_true hnm
  rw [hnd] at HNM
  have c0 : ¬ (f < 0) := by omega
  have g0 : decide (f < 0) = false := decide_eq_false c0
  have c1 : ¬ (n < 0) := by omega
  have g1 : decide (n < 0) = false := decide_eq_false c1
  have c2 : ¬ (64 < f) := by omega
  have g2 : decide (64 < f) = false := decide_eq_false c2
  have c3 : ¬ (64 - f < n) := by omega
  have g3 : decide (64 - f < n) = false := decide_eq_false c3
  have c4 : ¬ ((4096 : Int) < (v.length : Int)) := by omega
  have g4 : decide ((4096 : Int) < (v.length : Int)) = false := decide_eq_false c4
  have c5 : ¬ ((4096 : Int) < (e.length : Int)) := by omega
  have g5 : decide ((4096 : Int) < (e.length : Int)) = false := decide_eq_false c5
  have c6 : ¬ ((4096 : Int) < (d.length : Int)) := by omega
  have g6 : decide ((4096 : Int) < (d.length : Int)) = false := decide_eq_false c6
  clear hnm
  go_wp2_with (go_at_call 42; refine HNM.out.mono ?_; rintro e w3 ⟨rfl, hb3⟩; obtain ⟨⟨y0, y1, y2, y3, y4, y5, y6⟩, _⟩ := box7 C6 hb3)
  go_meet
  exact ⟨by rw [HNN.out]; rfl, hb3⟩
 case rest =>
  obtain ⟨rfl, hb3⟩ := hcut
  rename World => w3
  have C4' := (hb3.block _ (lt_of_block C4)).trans C4
  have C6' := (hb3.block _ (lt_of_block C6)).trans C6
  have HN3 := Lib.hid (HN.out.below hb3)
  have HK3 := Lib.hid (KidsAt.below hb3 _ _ HK.out)
  have HB3 := HB.out.trans (hb3.mono HB.out.size)
  clear q4 hb3 HN HK HB C4 C6 HNM
  cases hnn : (Tp.node ns x && numsOk f n v e d) with
  | false => exact absurd (hnn.symm.trans HC.out.1) (by decide)
  | true =>
   have HC2 := Lib.hid HC.out.2
   clear HC
   rw [hnn] at HX
   rw [Bool.and_eq_true] at hnn
   obtain ⟨hnd, hnm⟩ := hnn
   unfold numsOk at hnm
   obtain ⟨f0, n0, f1, n1, v1, e1, d1⟩ := of_decide_eq_true hnm
   have hx0 : 0 ≤ x ∧ x < ns.length := by
    unfold Tp.node at hnd
    simp only [Bool.and_eq_true, decide_eq_true_eq] at hnd
    exact hnd.2
   obtain ⟨i, rfl⟩ := Int.eq_ofNat_of_zero_le hx0.1
   obtain ⟨fn, rfl⟩ := Int.eq_ofNat_of_zero_le f0
   obtain ⟨nn, rfl⟩ := Int.eq_ofNat_of_zero_le n0
   obtain ⟨hm, hi⟩ := (Vp.node_of ns i).1 hnd
   rw [Int.toNat_natCast] at HX HC2 HQ
   have hfn : fn + nn ≤ 64 := by omega
   clear hnm f0 n0 f1 n1 hx0
   have hp4 := cell_of_one C4'
   obtain ⟨x0, x1, x2, x3, x4, x5, x6, _⟩ := zero_cells C6'
   obtain ⟨bk, o, c, rfl, hc1, hc2, hbk, g0, g2⟩ := nodes_open HN3.out hi
   have hii : (i : Int) < (ns.length : Int) := by omega
   unfold maxLen at hc2
   go_upto_region 4 with (fail)
   go_cut [85] (fun s wx => s = .bool (!validOk ns i fn nn v) ∧ Below w3.heap.size w3 wx)
   case first =>
    have hbb := Lib.hid (fun W => refBytes_calls ((fn : Int) + (nn : Int)) W (by omega) (by omega))
    by_cases hv0 : v = []
    ·subst hv0
     go_quiet (fail)
     go_wp2
     go_meet
     exact ⟨rfl, below_drewN (Below.refl _ _) _⟩
    ·have hi0 := no_empty hv0
     have hvo : validOk ns i fn nn v = (Vp.isNull ns i && decide (((fn : Int) + (nn : Int) + 7) / 8 ≤ (v.length : Int))) := by unfold validOk; rw [decide_eq_false hv0, Bool.false_or]
     replace hvo := Lib.hid hvo
     generalize Vp.isNull ns i = nu at g2 hvo
     cases nu with
     | false => exact absurd (HC2.out.1.symm.trans hvo.out) (by simp)
     | true =>
      by_cases hlv : ((fn : Int) + (nn : Int) + 7) / 8 ≤ (v.length : Int)
      ·have hd2 : decide ((v.length : Int) < ((fn : Int) + (nn : Int) + 7) / 8) = false := decide_eq_false (by omega)
       go_quiet (first | (go_at_call 47; refine Calls.quiet_of_same ((hbb.out _).mono fun _ _ h => ⟨h.1, h.2.symm⟩)))
       go_wp2
       go_meet
       exact ⟨by rw [hvo.out, decide_eq_true hlv]; rfl, below_drewN (Below.refl _ _) _⟩
      ·exact absurd (HC2.out.1.symm.trans hvo.out) (by rw [decide_eq_false hlv]; decide)
   case rest =>
    obtain ⟨rfl, hb4⟩ := hcut
    rename World => w4
    have C4'' := (hb4.block _ (lt_of_block C4')).trans C4'
    have C6'' := (hb4.block _ (lt_of_block C6')).trans C6'
    have HN4 := Lib.hid (HN3.out.below hb4)
    have HK4 := Lib.hid (KidsAt.below hb4 _ _ HK3.out)
    have HB4 := HB3.trans (hb4.mono HB3.size)
    have g4 := (hb4.cell (p := ⟨bk, o + i * 3, none⟩) hbk).trans g0
    have hbk4 := Nat.lt_of_lt_of_le hbk hb4.size
    clear hp4 x0 x1 x2 x3 x4 x5 x6 g0 g2 HN3 HK3 HB3 C4' C6'
    have hp4 := cell_of_one C4''
    obtain ⟨x0, x1, x2, x3, x4, x5, x6, _⟩ := zero_cells C6''
    cases hvo : validOk ns i fn nn v with
    | false => exact absurd (hvo.symm.trans HC2.out.1) (by decide)
    | true =>
     rw [hvo] at HX
     by_cases hl0 : l = 0
     ·exact absurd hl0 HC2.out.2.1
     ·have hl0' : (l == 0) = false := beq_eq_false_iff_ne.2 hl0
      rw [if_neg hl0] at HX
      go_upto_region 8 with (fail)
      go_cut [130] (fun s wx => s = .bool (!(Vp.oneOk ns i e ks && Vp.mayAll ns ks [i])) ∧ Below w4.heap.size w4 wx)
      case first =>
       have hkdx : ∃ kd, Tp.kindOf ns i = kd := ⟨_, rfl⟩
       obtain ⟨kd, hkd⟩ := hkdx
       rw [hkd] at g4
       have HKD := Lib.hid hkd
       have HLF := Lib.hid (fun W => isLeaf_calls kd W)
       have HBR := Below.refl w4.heap.size w4
       clear hkd
       cases hin : Tp.inner kd with
       | true => exact absurd (HQ.out.1.1) (by rw [HKD.out, hin]; decide)
       | false =>
        rw [hin] at HLF
        have HIN := Lib.hid hin
        by_cases hk1 : ks.length = 1
        ·obtain ⟨y, rfl⟩ := List.length_eq_one_iff.1 hk1
         have hkk := HK4.out
         rw [KidsAt] at hkk
         obtain ⟨ka', kc', hsl, _, _, hkk⟩ := hkk
         obtain ⟨rfl, _, rfl⟩ := Value.slice.inj hsl
         obtain ⟨kb, ko, rfl, hkb, hkk⟩ := hkk (by simp)
         obtain ⟨xl, xf, xn, xv, xe, xd, xs⟩ := y
         rw [CellsAt] at hkk
         obtain ⟨⟨q0, q1, q2, q3, q4, q5, kx, q6, hkx⟩, _⟩ := hkk
         obtain ⟨kxa, kxc, rfl, _⟩ := (by rw [KidsAt] at hkx; exact hkx : ∃ a c, kx = .slice a xs.length c ∧ _)
         simp only [tv] at q3 q4 q5
         by_cases he0 : e = []
         ·subst he0
          have HS := Lib.hid (show ∀ w', Below w4.heap.size w4 w' → (fun w' => (w'.cell? ⟨W.heap.size + 1, 0, none⟩ = some (.int .i64 l) ∧ w'.cell? ⟨W.heap.size + 1, 1, none⟩ = some (.int .i64 (fn : Int)) ∧ w'.cell? ⟨W.heap.size + 1, 2, none⟩ = some (.int .i64 (nn : Int)) ∧ w'.cell? ⟨W.heap.size + 1, 3, none⟩ = some (.string ⟨v.toArray⟩) ∧ w'.cell? ⟨W.heap.size + 1, 4, none⟩ = some (.string ⟨#[]⟩) ∧ w'.cell? ⟨W.heap.size + 1, 5, none⟩ = some (.string ⟨d.toArray⟩) ∧ w'.cell? ⟨W.heap.size + 1, 6, none⟩ = some (.slice (some ⟨kb, ko, none⟩) 1 kc)) ∧ (w'.cell? ⟨W.heap.size, 0, none⟩ = some (.slice (some ⟨bk, o, none⟩) ns.length c) ∧ w'.cell? ⟨bk, o + i * 3, none⟩ = some (.int .i64 kd)) ∧ (w'.cell? ⟨kb, ko, none⟩ = some (.int .i64 xl) ∧ w'.cell? ⟨kb, ko + 1, none⟩ = some (.int .i64 xf) ∧ w'.cell? ⟨kb, ko + 2, none⟩ = some (.int .i64 xn) ∧ w'.cell? ⟨kb, ko + 3, none⟩ = some (.string ⟨xv.toArray⟩) ∧ w'.cell? ⟨kb, ko + 4, none⟩ = some (.string ⟨xe.toArray⟩) ∧ w'.cell? ⟨kb, ko + 5, none⟩ = some (.string ⟨xd.toArray⟩) ∧ w'.cell? ⟨kb, ko + 6, none⟩ = some (.slice kxa xs.length kxc)) ∧ Below w4.heap.size w4 w') w' from fun w' h => ⟨(box7 C6'' h).1, ⟨(h.cell (p := ⟨W.heap.size, 0, none⟩) (lt_of_block C4'')).trans hp4, (h.cell (p := ⟨bk, _, none⟩) hbk4).trans g4⟩,
           ⟨(h.cell (p := ⟨kb, _, none⟩) hkb).trans q0, (h.cell (p := ⟨kb, _, none⟩) hkb).trans q1, (h.cell (p := ⟨kb, _, none⟩) hkb).trans q2, (h.cell (p := ⟨kb, _, none⟩) hkb).trans q3, (h.cell (p := ⟨kb, _, none⟩) hkb).trans q4, (h.cell (p := ⟨kb, _, none⟩) hkb).trans q5, (h.cell (p := ⟨kb, _, none⟩) hkb).trans q6⟩, h⟩)
          by_cases hxl : xl = 0
          ·subst hxl
           exact absurd ⟨rfl, rfl⟩ HQ.out.2
          ·have hxl' : (xl != 0) = true := bne_iff_ne.2 hxl
           have HRES := Lib.hid (show (Vp.oneOk ns i [] [.mk xl xf xn xv xe xd xs] && Vp.mayAll ns [.mk xl xf xn xv xe xd xs] [i]) = false by
            unfold Vp.oneOk; rw [show (Vp.kid0 [Arr.mk xl xf xn xv xe xd xs]).lay = xl from rfl, decide_eq_false hxl]; simp)
           clear x0 x1 x2 x3 x4 x5 x6 hp4 q0 q1 q2 q3 q4 q5 q6 hsl hin
           refine wp_region_held_drew (S := (fun w' => (w'.cell? ⟨W.heap.size + 1, 0, none⟩ = some (.int .i64 l) ∧ w'.cell? ⟨W.heap.size + 1, 1, none⟩ = some (.int .i64 (fn : Int)) ∧ w'.cell? ⟨W.heap.size + 1, 2, none⟩ = some (.int .i64 (nn : Int)) ∧ w'.cell? ⟨W.heap.size + 1, 3, none⟩ = some (.string ⟨v.toArray⟩) ∧ w'.cell? ⟨W.heap.size + 1, 4, none⟩ = some (.string ⟨#[]⟩) ∧ w'.cell? ⟨W.heap.size + 1, 5, none⟩ = some (.string ⟨d.toArray⟩) ∧ w'.cell? ⟨W.heap.size + 1, 6, none⟩ = some (.slice (some ⟨kb, ko, none⟩) 1 kc)) ∧ (w'.cell? ⟨W.heap.size, 0, none⟩ = some (.slice (some ⟨bk, o, none⟩) ns.length c) ∧ w'.cell? ⟨bk, o + i * 3, none⟩ = some (.int .i64 kd)) ∧ (w'.cell? ⟨kb, ko, none⟩ = some (.int .i64 xl) ∧ w'.cell? ⟨kb, ko + 1, none⟩ = some (.int .i64 xf) ∧ w'.cell? ⟨kb, ko + 2, none⟩ = some (.int .i64 xn) ∧ w'.cell? ⟨kb, ko + 3, none⟩ = some (.string ⟨xv.toArray⟩) ∧ w'.cell? ⟨kb, ko + 4, none⟩ = some (.string ⟨xe.toArray⟩) ∧ w'.cell? ⟨kb, ko + 5, none⟩ = some (.string ⟨xd.toArray⟩) ∧ w'.cell? ⟨kb, ko + 6, none⟩ = some (.slice kxa xs.length kxc)) ∧ Below w4.heap.size w4 w')) (by kernel_rfl) (HS.out _ (below_drew HBR)) (fun hHeld => ?_)
           refine tk 0 (v := ?_) rfl (fun _ _ _ h => h) (Or.inl ⟨by rfl, ?_⟩) (by assumption) ?_; rotate_left; focus (intro w hSw; (try dsimp only at hSw); go_simp; try with_reducible rfl)
           (try simp only [sx])
           refine tk 1 (v := ?_) rfl (fun _ _ _ h => h) (Or.inl ⟨by rfl, ?_⟩) (by assumption) ?_; rotate_left; focus (intro w hSw; (try dsimp only at hSw); go_simp; try with_reducible rfl)
           (try simp only [sx])
           refine tk 2 (v := ?_) rfl (fun _ _ _ h => h) (Or.inl ⟨by rfl, ?_⟩) (by assumption) ?_; rotate_left; focus (intro w hSw; (try dsimp only at hSw); go_simp; try with_reducible rfl)
           (try simp only [sx])
           refine tk 3 (v := ?_) rfl (fun _ _ _ h => h) (Or.inl ⟨by rfl, ?_⟩) (by assumption) ?_; rotate_left; focus (intro w hSw; (try dsimp only at hSw); go_simp; try with_reducible rfl)
           (try simp only [sx])
           refine tk 4 (v := ?_) rfl (fun _ _ _ h => h) (Or.inl ⟨by rfl, ?_⟩) (by assumption) ?_; rotate_left; focus (intro w hSw; (try dsimp only at hSw); go_simp; try with_reducible rfl)
           (try simp only [sx])
           refine tk 5 (v := ?_) rfl (fun _ _ _ h => h) (Or.inl ⟨by rfl, ?_⟩) (by assumption) ?_; rotate_left; focus (intro w hSw; (try dsimp only at hSw); go_simp; try with_reducible rfl)
           (try simp only [sx])
           refine wpAnyH_ready (rs := [6]) (by kernel_rfl) (by simp) ?_
           refine AllReadyH.cons rfl (fun K hK => ?_) AllReadyH.nil
           go_simp
           go_at_call 49; refine (HLF.out _).mono ?_; rintro e' w' ⟨rfl, rfl⟩; have HX4 := hHeld.2.2.2
           clear hHeld
           refine hK.out _ _ (HS.out _ HX4) (fun hHeld => ?_)
           clear hK K
           (try simp only [sx])
           refine tk 7 (v := ?_) rfl (fun _ _ _ h => h) (Or.inl ⟨by rfl, ?_⟩) (by assumption) ?_; rotate_left; focus (intro w hSw; (try dsimp only at hSw); go_simp; try with_reducible rfl)
           (try simp only [sx])
           refine tk 8 (v := ?_) rfl (fun _ _ _ h => h) (Or.inl ⟨by rfl, ?_⟩) (by assumption) ?_; rotate_left; focus (intro w hSw; (try dsimp only at hSw); go_simp; try with_reducible rfl)
           (try simp only [sx])
           refine tk 9 (v := ?_) rfl (fun _ _ _ h => h) (Or.inl ⟨by rfl, ?_⟩) (by assumption) ?_; rotate_left; focus (intro w hSw; (try dsimp only at hSw); go_simp; try with_reducible rfl)
           (try simp only [sx])
           refine tk 10 (v := ?_) rfl (fun _ _ _ h => h) (Or.inl ⟨by rfl, ?_⟩) (by assumption) ?_; rotate_left; focus (intro w hSw; (try dsimp only at hSw); go_simp; try with_reducible rfl)
           (try simp only [sx])
           refine tk 11 (v := ?_) rfl (fun _ _ _ h => h) (Or.inl ⟨by rfl, ?_⟩) (by assumption) ?_; rotate_left; focus (intro w hSw; (try dsimp only at hSw); go_simp; try with_reducible rfl)
           (try simp only [sx])
           refine tk 12 (v := ?_) rfl (fun _ _ _ h => h) (Or.inl ⟨by rfl, ?_⟩) (by assumption) ?_; rotate_left; focus (intro w hSw; (try dsimp only at hSw); go_simp; try with_reducible rfl)
           (try simp only [sx])
           refine tk 13 (v := ?_) rfl (fun _ _ _ h => h) (Or.inl ⟨by rfl, ?_⟩) (by assumption) ?_; rotate_left; focus (intro w hSw; (try dsimp only at hSw); go_simp; try with_reducible rfl)
           (try simp only [sx])
           refine tk 14 (v := ?_) rfl (fun _ _ _ h => h) (Or.inl ⟨by rfl, ?_⟩) (by assumption) ?_; rotate_left; focus (intro w hSw; (try dsimp only at hSw); go_simp; try with_reducible rfl)
           (try simp only [sx])
           refine tk 15 (v := ?_) rfl (fun _ _ _ h => h) (Or.inl ⟨by rfl, ?_⟩) (by assumption) ?_; rotate_left; focus (intro w hSw; (try dsimp only at hSw); go_simp; try with_reducible rfl)
           (try simp only [sx])
           refine tk 16 (v := ?_) rfl (fun _ _ _ h => h) (Or.inl ⟨by rfl, ?_⟩) (by assumption) ?_; rotate_left; focus (intro w hSw; (try dsimp only at hSw); go_simp; try with_reducible rfl)
           (try simp only [sx])
           refine tk 17 (v := ?_) rfl (fun _ _ _ h => h) (Or.inl ⟨by rfl, ?_⟩) (by assumption) ?_; rotate_left; focus (intro w hSw; (try dsimp only at hSw); go_simp; try with_reducible rfl)
           (try simp only [sx])
           refine tk 18 (v := ?_) rfl (fun _ _ _ h => h) (Or.inl ⟨by rfl, ?_⟩) (by assumption) ?_; rotate_left; focus (intro w hSw; (try dsimp only at hSw); go_simp; try with_reducible rfl)
           (try simp only [sx])
           refine tk 19 (v := ?_) rfl (fun _ _ _ h => h) (Or.inl ⟨by rfl, ?_⟩) (by assumption) ?_; rotate_left; focus (intro w hSw; (try dsimp only at hSw); go_simp; try with_reducible rfl)
           (try simp only [sx])
           refine tk 20 (v := ?_) rfl (fun _ _ _ h => h) (Or.inl ⟨by rfl, ?_⟩) (by assumption) ?_; rotate_left; focus (intro w hSw; (try dsimp only at hSw); go_simp; try with_reducible rfl)
           (try simp only [sx])
           refine tk 21 (v := ?_) rfl (fun _ _ _ h => h) (Or.inl ⟨by rfl, ?_⟩) (by assumption) ?_; rotate_left; focus (intro w hSw; (try dsimp only at hSw); go_simp; try with_reducible rfl)
           (try simp only [sx])
           refine tk 22 (v := ?_) rfl (fun _ _ _ h => h) (Or.inl ⟨by rfl, ?_⟩) (by assumption) ?_; rotate_left; focus (intro w hSw; (try dsimp only at hSw); go_simp; try with_reducible rfl)
           (try simp only [sx])
           refine tk 23 (v := ?_) rfl (fun _ _ _ h => h) (Or.inl ⟨by rfl, ?_⟩) (by assumption) ?_; rotate_left; focus (intro w hSw; (try dsimp only at hSw); go_simp; try with_reducible rfl)
           (try simp only [sx])
           refine tk 24 (v := ?_) rfl (fun _ _ _ h => h) (Or.inl ⟨by rfl, ?_⟩) (by assumption) ?_; rotate_left; focus (intro w hSw; (try dsimp only at hSw); go_simp; try with_reducible rfl)
           (try simp only [sx])
           refine tk 25 (v := ?_) rfl (fun _ _ _ h => h) (Or.inl ⟨by rfl, ?_⟩) (by assumption) ?_; rotate_left; focus (intro w hSw; (try dsimp only at hSw); go_simp; try with_reducible rfl)
           (try simp only [sx])
           refine tk 26 (v := ?_) rfl (fun _ _ _ h => h) (Or.inl ⟨by rfl, ?_⟩) (by assumption) ?_; rotate_left; focus (intro w hSw; (try dsimp only at hSw); go_simp; try with_reducible rfl)
           (try simp only [sx])
           refine tk 27 (v := ?_) rfl (fun _ _ _ h => h) (Or.inl ⟨by rfl, ?_⟩) (by assumption) ?_; rotate_left; focus (intro w hSw; (try dsimp only at hSw); go_simp; try with_reducible rfl)
           (try simp only [sx])
           refine tk 28 (v := undef) rfl (fun _ _ _ h => h) (Or.inr ⟨by rfl, rfl⟩) (by assumption) ?_
           (try simp only [sx])
           refine tk 29 (v := undef) rfl (fun _ _ _ h => h) (Or.inr ⟨by rfl, rfl⟩) (by assumption) ?_
           (try simp only [sx])
           refine tk 30 (v := undef) rfl (fun _ _ _ h => h) (Or.inr ⟨by rfl, rfl⟩) (by assumption) ?_
           (try simp only [sx])
           refine tk 31 (v := undef) rfl (fun _ _ _ h => h) (Or.inr ⟨by rfl, rfl⟩) (by assumption) ?_
           (try simp only [sx])
           refine tk 32 (v := undef) rfl (fun _ _ _ h => h) (Or.inr ⟨by rfl, rfl⟩) (by assumption) ?_
           (try simp only [sx])
           refine tk 33 (v := undef) rfl (fun _ _ _ h => h) (Or.inr ⟨by rfl, rfl⟩) (by assumption) ?_
           (try simp only [sx])
           refine tk 34 (v := undef) rfl (fun _ _ _ h => h) (Or.inr ⟨by rfl, rfl⟩) (by assumption) ?_
           (try simp only [sx])
           refine tk 35 (v := undef) rfl (fun _ _ _ h => h) (Or.inr ⟨by rfl, rfl⟩) (by assumption) ?_
           (try simp only [sx])
           refine tk 36 (v := ?_) rfl (fun _ _ _ h => h) (Or.inl ⟨by rfl, ?_⟩) (by assumption) ?_; rotate_left; focus (intro w hSw; (try dsimp only at hSw); go_simp; try with_reducible rfl)
           (try simp only [sx])
           refine wpAnyH_done (by kernel_rfl) ?_ _
           go_wp2
           go_meet
           exact ⟨by rw [HRES.out]; rfl, hHeld.2.2.2⟩
         ·have hi0 := no_empty he0
          have HRES := Lib.hid (show (Vp.oneOk ns i e [.mk xl xf xn xv xe xd xs] && Vp.mayAll ns [.mk xl xf xn xv xe xd xs] [i]) = false by
           unfold Vp.oneOk; rw [decide_eq_false he0]; simp)
          have HS := Lib.hid (show ∀ w', Below w4.heap.size w4 w' → (fun w' => (w'.cell? ⟨W.heap.size + 1, 0, none⟩ = some (.int .i64 l) ∧ w'.cell? ⟨W.heap.size + 1, 1, none⟩ = some (.int .i64 (fn : Int)) ∧ w'.cell? ⟨W.heap.size + 1, 2, none⟩ = some (.int .i64 (nn : Int)) ∧ w'.cell? ⟨W.heap.size + 1, 3, none⟩ = some (.string ⟨v.toArray⟩) ∧ w'.cell? ⟨W.heap.size + 1, 4, none⟩ = some (.string ⟨e.toArray⟩) ∧ w'.cell? ⟨W.heap.size + 1, 5, none⟩ = some (.string ⟨d.toArray⟩) ∧ w'.cell? ⟨W.heap.size + 1, 6, none⟩ = some (.slice (some ⟨kb, ko, none⟩) 1 kc)) ∧ (w'.cell? ⟨W.heap.size, 0, none⟩ = some (.slice (some ⟨bk, o, none⟩) ns.length c) ∧ w'.cell? ⟨bk, o + i * 3, none⟩ = some (.int .i64 kd)) ∧ Below w4.heap.size w4 w') w' from fun w' h => ⟨(box7 C6'' h).1, ⟨(h.cell (p := ⟨W.heap.size, 0, none⟩) (lt_of_block C4'')).trans hp4, (h.cell (p := ⟨bk, _, none⟩) hbk4).trans g4⟩, h⟩)
          clear x0 x1 x2 x3 x4 x5 x6 hp4 q0 q1 q2 q3 q4 q5 q6 hsl hin
          refine wp_region_held_drew (S := (fun w' => (w'.cell? ⟨W.heap.size + 1, 0, none⟩ = some (.int .i64 l) ∧ w'.cell? ⟨W.heap.size + 1, 1, none⟩ = some (.int .i64 (fn : Int)) ∧ w'.cell? ⟨W.heap.size + 1, 2, none⟩ = some (.int .i64 (nn : Int)) ∧ w'.cell? ⟨W.heap.size + 1, 3, none⟩ = some (.string ⟨v.toArray⟩) ∧ w'.cell? ⟨W.heap.size + 1, 4, none⟩ = some (.string ⟨e.toArray⟩) ∧ w'.cell? ⟨W.heap.size + 1, 5, none⟩ = some (.string ⟨d.toArray⟩) ∧ w'.cell? ⟨W.heap.size + 1, 6, none⟩ = some (.slice (some ⟨kb, ko, none⟩) 1 kc)) ∧ (w'.cell? ⟨W.heap.size, 0, none⟩ = some (.slice (some ⟨bk, o, none⟩) ns.length c) ∧ w'.cell? ⟨bk, o + i * 3, none⟩ = some (.int .i64 kd)) ∧ Below w4.heap.size w4 w')) (by kernel_rfl) (HS.out _ (below_drew HBR)) (fun hHeld => ?_)
          refine tk 0 (v := ?_) rfl (fun _ _ _ h => h) (Or.inl ⟨by rfl, ?_⟩) (by assumption) ?_; rotate_left; focus (intro w hSw; (try dsimp only at hSw); go_simp; try with_reducible rfl)
          (try simp only [sx])
          refine tk 1 (v := ?_) rfl (fun _ _ _ h => h) (Or.inl ⟨by rfl, ?_⟩) (by assumption) ?_; rotate_left; focus (intro w hSw; (try dsimp only at hSw); go_simp; try with_reducible rfl)
          (try simp only [sx])
          refine tk 2 (v := ?_) rfl (fun _ _ _ h => h) (Or.inl ⟨by rfl, ?_⟩) (by assumption) ?_; rotate_left; focus (intro w hSw; (try dsimp only at hSw); go_simp; try with_reducible rfl)
          (try simp only [sx])
          refine tk 3 (v := ?_) rfl (fun _ _ _ h => h) (Or.inl ⟨by rfl, ?_⟩) (by assumption) ?_; rotate_left; focus (intro w hSw; (try dsimp only at hSw); go_simp; try with_reducible rfl)
          (try simp only [sx])
          refine tk 4 (v := ?_) rfl (fun _ _ _ h => h) (Or.inl ⟨by rfl, ?_⟩) (by assumption) ?_; rotate_left; focus (intro w hSw; (try dsimp only at hSw); go_simp; try with_reducible rfl)
          (try simp only [sx])
          refine tk 5 (v := ?_) rfl (fun _ _ _ h => h) (Or.inl ⟨by rfl, ?_⟩) (by assumption) ?_; rotate_left; focus (intro w hSw; (try dsimp only at hSw); go_simp; try with_reducible rfl)
          (try simp only [sx])
          refine wpAnyH_ready (rs := [6]) (by kernel_rfl) (by simp) ?_
          refine AllReadyH.cons rfl (fun K hK => ?_) AllReadyH.nil
          go_simp
          go_at_call 49; refine (HLF.out _).mono ?_; rintro e' w' ⟨rfl, rfl⟩; have HX4 := hHeld.2.2
          clear hHeld
          refine hK.out _ _ (HS.out _ HX4) (fun hHeld => ?_)
          clear hK K
          (try simp only [sx])
          refine tk 7 (v := ?_) rfl (fun _ _ _ h => h) (Or.inl ⟨by rfl, ?_⟩) (by assumption) ?_; rotate_left; focus (intro w hSw; (try dsimp only at hSw); go_simp; try with_reducible rfl)
          (try simp only [sx])
          refine tk 8 (v := ?_) rfl (fun _ _ _ h => h) (Or.inl ⟨by rfl, ?_⟩) (by assumption) ?_; rotate_left; focus (intro w hSw; (try dsimp only at hSw); go_simp; try with_reducible rfl)
          (try simp only [sx])
          refine tk 9 (v := ?_) rfl (fun _ _ _ h => h) (Or.inl ⟨by rfl, ?_⟩) (by assumption) ?_; rotate_left; focus (intro w hSw; (try dsimp only at hSw); go_simp; try with_reducible rfl)
          (try simp only [sx])
          refine tk 10 (v := ?_) rfl (fun _ _ _ h => h) (Or.inl ⟨by rfl, ?_⟩) (by assumption) ?_; rotate_left; focus (intro w hSw; (try dsimp only at hSw); go_simp; try with_reducible rfl)
          (try simp only [sx])
          refine tk 11 (v := ?_) rfl (fun _ _ _ h => h) (Or.inl ⟨by rfl, ?_⟩) (by assumption) ?_; rotate_left; focus (intro w hSw; (try dsimp only at hSw); go_simp; try with_reducible rfl)
          (try simp only [sx])
          refine tk 12 (v := ?_) rfl (fun _ _ _ h => h) (Or.inl ⟨by rfl, ?_⟩) (by assumption) ?_; rotate_left; focus (intro w hSw; (try dsimp only at hSw); go_simp; try with_reducible rfl)
          (try simp only [sx])
          refine tk 13 (v := ?_) rfl (fun _ _ _ h => h) (Or.inl ⟨by rfl, ?_⟩) (by assumption) ?_; rotate_left; focus (intro w hSw; (try dsimp only at hSw); go_simp; try with_reducible rfl)
          (try simp only [sx])
          refine tk 14 (v := ?_) rfl (fun _ _ _ h => h) (Or.inl ⟨by rfl, ?_⟩) (by assumption) ?_; rotate_left; focus (intro w hSw; (try dsimp only at hSw); go_simp; try with_reducible rfl)
          (try simp only [sx])
          refine tk 15 (v := ?_) rfl (fun _ _ _ h => h) (Or.inl ⟨by rfl, ?_⟩) (by assumption) ?_; rotate_left; focus (intro w hSw; (try dsimp only at hSw); go_simp; try with_reducible rfl)
          (try simp only [sx])
          refine tk 16 (v := ?_) rfl (fun _ _ _ h => h) (Or.inl ⟨by rfl, ?_⟩) (by assumption) ?_; rotate_left; focus (intro w hSw; (try dsimp only at hSw); go_simp; try with_reducible rfl)
          (try simp only [sx])
          refine tk 17 (v := ?_) rfl (fun _ _ _ h => h) (Or.inl ⟨by rfl, ?_⟩) (by assumption) ?_; rotate_left; focus (intro w hSw; (try dsimp only at hSw); go_simp; try with_reducible rfl)
          (try simp only [sx])
          refine tk 18 (v := ?_) rfl (fun _ _ _ h => h) (Or.inl ⟨by rfl, ?_⟩) (by assumption) ?_; rotate_left; focus (intro w hSw; (try dsimp only at hSw); go_simp; try with_reducible rfl)
          (try simp only [sx])
          refine tk 19 (v := ?_) rfl (fun _ _ _ h => h) (Or.inl ⟨by rfl, ?_⟩) (by assumption) ?_; rotate_left; focus (intro w hSw; (try dsimp only at hSw); go_simp; try with_reducible rfl)
          (try simp only [sx])
          refine tk 20 (v := undef) rfl (fun _ _ _ h => h) (Or.inr ⟨by rfl, rfl⟩) (by assumption) ?_
          (try simp only [sx])
          refine tk 21 (v := undef) rfl (fun _ _ _ h => h) (Or.inr ⟨by rfl, rfl⟩) (by assumption) ?_
          (try simp only [sx])
          refine tk 22 (v := undef) rfl (fun _ _ _ h => h) (Or.inr ⟨by rfl, rfl⟩) (by assumption) ?_
          (try simp only [sx])
          refine tk 23 (v := undef) rfl (fun _ _ _ h => h) (Or.inr ⟨by rfl, rfl⟩) (by assumption) ?_
          (try simp only [sx])
          refine tk 24 (v := undef) rfl (fun _ _ _ h => h) (Or.inr ⟨by rfl, rfl⟩) (by assumption) ?_
          (try simp only [sx])
          refine tk 25 (v := undef) rfl (fun _ _ _ h => h) (Or.inr ⟨by rfl, rfl⟩) (by assumption) ?_
          (try simp only [sx])
          refine tk 26 (v := ?_) rfl (fun _ _ _ h => h) (Or.inl ⟨by rfl, ?_⟩) (by assumption) ?_; rotate_left; focus (intro w hSw; (try dsimp only at hSw); go_simp; try with_reducible rfl)
          (try simp only [sx])
          refine tk 27 (v := ?_) rfl (fun _ _ _ h => h) (Or.inl ⟨by rfl, ?_⟩) (by assumption) ?_; rotate_left; focus (intro w hSw; (try dsimp only at hSw); go_simp; try with_reducible rfl)
          (try simp only [sx])
          refine tk 28 (v := undef) rfl (fun _ _ _ h => h) (Or.inr ⟨by rfl, rfl⟩) (by assumption) ?_
          (try simp only [sx])
          refine tk 29 (v := undef) rfl (fun _ _ _ h => h) (Or.inr ⟨by rfl, rfl⟩) (by assumption) ?_
          (try simp only [sx])
          refine tk 30 (v := undef) rfl (fun _ _ _ h => h) (Or.inr ⟨by rfl, rfl⟩) (by assumption) ?_
          (try simp only [sx])
          refine tk 31 (v := undef) rfl (fun _ _ _ h => h) (Or.inr ⟨by rfl, rfl⟩) (by assumption) ?_
          (try simp only [sx])
          refine tk 32 (v := undef) rfl (fun _ _ _ h => h) (Or.inr ⟨by rfl, rfl⟩) (by assumption) ?_
          (try simp only [sx])
          refine tk 33 (v := undef) rfl (fun _ _ _ h => h) (Or.inr ⟨by rfl, rfl⟩) (by assumption) ?_
          (try simp only [sx])
          refine tk 34 (v := undef) rfl (fun _ _ _ h => h) (Or.inr ⟨by rfl, rfl⟩) (by assumption) ?_
          (try simp only [sx])
          refine tk 35 (v := undef) rfl (fun _ _ _ h => h) (Or.inr ⟨by rfl, rfl⟩) (by assumption) ?_
          (try simp only [sx])
          refine tk 36 (v := ?_) rfl (fun _ _ _ h => h) (Or.inl ⟨by rfl, ?_⟩) (by assumption) ?_; rotate_left; focus (intro w hSw; (try dsimp only at hSw); go_simp; try with_reducible rfl)
          (try simp only [sx])
          refine wpAnyH_done (by kernel_rfl) ?_ _
          go_wp2
          go_meet
          exact ⟨by rw [HRES.out]; rfl, hHeld.2.2⟩
        ·exact absurd HQ.out.1.2 hk1
      case rest =>
       obtain ⟨rfl, hb5⟩ := hcut
       rename World => w5
       have C4_5 := (hb5.block _ (lt_of_block C4'')).trans C4''
       have C6_5 := (hb5.block _ (lt_of_block C6'')).trans C6''
       have HK5 := Lib.hid (KidsAt.below hb5 _ _ HK4.out)
       have HB5 := HB4.trans (hb5.mono HB4.size)
       clear hp4 x0 x1 x2 x3 x4 x5 x6 g4 HN4 HK4 HB4 C4'' C6'' hb5
       obtain ⟨x0, x1, x2, x3, x4, x5, x6, _⟩ := zero_cells C6_5
       cases hon : (Vp.oneOk ns i e ks && Vp.mayAll ns ks [i]) with
       | false =>
        have HNO := Lib.hid (show mayX ns (.mk l fn nn v e d ks) i = false by
         rw [HX.out]
         rcases Bool.and_eq_false_iff.1 hon with h | h
         ·rw [h]; simp
         ·rw [h]; simp)
        clear HX
        go_wp2_with (fail)
        go_ret
        exact ⟨ret_bool HNO.out.symm, HB5⟩
       | true => exact absurd (hon.symm.trans HC2.out.2.2) (by decide)
end Go.Proofs.YtobhjlchpnpleaaGreatDoor
