/- The reference's ArrayMay, walked: its numbers. -/
import Derived.Test.YtlllflacnlgigaaGreatDoorMb41
import Derived.Test.YtlllflacnlgigaaGreatDoorMb42
namespace Go.Proofs.YtlllflacnlgigaaGreatDoor
open Go.RowKit
set_option linter.unusedVariables false
set_option linter.unusedSimpArgs false

theorem plainMay_calls (ns : List Tp.Nd) (l : Int) (f n : Nat) (v e d : Vp.Txt) (ks : List Arr) (k vv : Value) (i : Nat) (W : World) (ih : ∀ a ∈ ks, RefMayOK ns (SizeOf.sizeOf a + 1))
    (hm : Tp.may ns = true) (hi : i < ns.length) (hfn : f + n ≤ 64) (he : e.length ≤ 4096) (hd : d.length ≤ 4096) (hk : KidsAt W ks k) (hn : NodesAt W vv ns) :
    Calls Tryz.prog 89 #[typeV vv, .int .i64 (i : Int), arrV l (f : Int) (n : Int) v e d k, .int .i64 ((f : Int) + (n : Int))] W fun x w' => x = .returned (.bool (plainX ns i f n e d ks)) ∧ Below W.heap.size W w' := by
  have hkr := Vp.may_kind ns hm i hi
  by_cases h3 : Tp.kindOf ns i = 3
  · exact plainMay_list ns l f n v e d ks k vv i W ih hm hi hfn he hd hk hn h3
  by_cases h4 : Tp.kindOf ns i = 4
  · exact plainMay_struct ns l f n v e d ks k vv i W ih hm hi hfn he hd hk hn h4
  exact plainMay_leaf ns l f n v e d ks k vv i W ih hm hi hfn he hd hk hn (by omega)
def numsOk (f n : Int) (v e d : Vp.Txt) : Bool := decide (0 ≤ f ∧ 0 ≤ n ∧ f ≤ 64 ∧ n ≤ 64 - f ∧ v.length ≤ 4096 ∧ e.length ≤ 4096 ∧ d.length ≤ 4096)
def validOk (ns : List Tp.Nd) (i : Nat) (f n : Int) (v : Vp.Txt) : Bool := decide (v = []) || (Vp.isNull ns i && decide ((f + n + 7) / 8 ≤ v.length))
theorem mayX_eq (ns : List Tp.Nd) (l f n : Int) (v e d : Vp.Txt) (ks : List Arr) (x : Int) : mayX ns (.mk l f n v e d ks) x = (Tp.node ns x && numsOk f n v e d && (validOk ns x.toNat f n v &&
    (if l = 0 then plainX ns x.toNat f n e d ks
     else if l = 1 then Vp.oneOk ns x.toNat e ks && (Vp.mayAll ns ks [x.toNat] && Vp.dictOk f n v d (Vp.kid0 ks))
     else if l = 2 then Vp.oneOk ns x.toNat e ks && (Vp.mayAll ns ks [x.toNat] && Vp.runOk f n v d (Vp.kid0 ks).len)
     else false))) := by
  unfold mayX plainX numsOk validOk
  cases h : Tp.node ns x with
  | false => rfl
  | true =>
    have hx : (x.toNat : Int) = x := by
      unfold Tp.node at h
      simp only [Bool.and_eq_true, decide_eq_true_eq] at h
      omega
    rw [Vp.mayA, hx, h]
    unfold Vp.bufOk
    simp only [Bool.true_and, Bool.and_assoc]
theorem mayA_rng {ns : List Tp.Nd} {l f n : Int} {v e d : Vp.Txt} {ks : List Arr} {i : Nat} (h : Vp.mayA ns (.mk l f n v e d ks) i = true) : 0 ≤ n ∧ n ≤ 64 := by
  rw [Vp.mayA] at h
  simp only [Bool.and_eq_true] at h
  have h2 := h.1.2
  unfold Vp.bufOk at h2
  simp only [Bool.and_eq_true, decide_eq_true_eq] at h2
  omega
set_option maxRecDepth 100000 in
set_option maxHeartbeats 6400000 in
theorem refMay_early (ns : List Tp.Nd) (l f n : Int) (v e d : Vp.Txt) (ks : List Arr) (x : Int) (k vv : Value) (W : World) (hih : ∀ a ∈ ks, RefMayOK ns (SizeOf.sizeOf a + 1)) (hk : KidsAt W ks k) (hn : NodesAt W vv ns)
    (hc : ¬ ((Tp.node ns x && numsOk f n v e d) = true ∧ (validOk ns x.toNat f n v = true ∧ l ≠ 0))) :
    Calls Tryz.prog 57 #[typeV vv, .int .i64 x, arrV l f n v e d k] W fun e' w' => e' = .returned (.bool (mayX ns (.mk l f n v e d ks) x)) ∧ Below W.heap.size W w' := by
  have HX := Lib.hid (mayX_eq ns l f n v e d ks x)
  have HIH := Lib.hid hih
  clear hih
  have HC := Lib.hid hc
  clear hc
  have hbk := below_alloc (below_alloc (Below.refl W.heap.size W) (.cells #[vv] 25)) (.cells #[.int .i64 l, .int .i64 f, .int .i64 n, .string ⟨v.toArray⟩, .string ⟨e.toArray⟩, .string ⟨d.toArray⟩, k] 47)
  have hn2 := hn.below hbk
  have hk2 := KidsAt.below hbk _ _ hk
  have C4 := (Below.heap_alloc (W.alloc (.cells #[vv] 25)) (.cells #[.int .i64 l, .int .i64 f, .int .i64 n, .string ⟨v.toArray⟩, .string ⟨e.toArray⟩, .string ⟨d.toArray⟩, k] 47) W.heap.size (by simp)).trans (heap_alloc_new W (.cells #[vv] 25))
  have C6 := heap_alloc_new (W.alloc (.cells #[vv] 25)) (.cells #[.int .i64 l, .int .i64 f, .int .i64 n, .string ⟨v.toArray⟩, .string ⟨e.toArray⟩, .string ⟨d.toArray⟩, k] 47)
  rw [show (W.alloc (.cells #[vv] 25)).heap.size = W.heap.size + 1 by simp] at C6
  obtain ⟨W2, hW2⟩ : ∃ W2, (W.alloc (.cells #[vv] 25)).alloc (.cells #[.int .i64 l, .int .i64 f, .int .i64 n, .string ⟨v.toArray⟩, .string ⟨e.toArray⟩, .string ⟨d.toArray⟩, k] 47) = W2 := ⟨_, rfl⟩
  rw [hW2] at hbk hn2 hk2 C4 C6
  rw [KidsAt] at hk
  obtain ⟨ka, kc, rfl, hkc1, hkc2, _⟩ := hk
  have q4 := cell_of_one C4
  have HN := Lib.hid hn2
  have HK := Lib.hid hk2
  have HB := Lib.hid hbk
  have hzv := mk_size v
  have hze := mk_size e
  have hzd := mk_size d
  unfold maxLen at hkc2
  have HNM := Lib.hid (nodeMay_calls vv ns x W2 hn2)
  clear hn hn2 hk2 hbk
  go_enter Tryz.func57, Tryz.ntmps57
  go_upto_region 1 with (fail)
  clear hW2
  go_cut [60] (fun s wx => s = .bool (!(Tp.node ns x && numsOk f n v e d)) ∧ Below W2.heap.size W2 wx)
  case first =>
    cases hnd : Tp.node ns x with
    | false =>
      rw [hnd] at HNM
      go_wp2_with (go_at_call 48; refine HNM.out.mono ?_; rintro e w3 ⟨rfl, hb3⟩)
      go_meet
      exact ⟨by rw [hnd]; rfl, hb3⟩
    | true =>
      rw [hnd] at HNM
      by_cases c0 : f < 0
      · have g0 : decide (f < 0) = true := decide_eq_true c0
        have hno := Lib.hid (show numsOk f n v e d = false from decide_eq_false (by omega))
        go_wp2_with (go_at_call 48; refine HNM.out.mono ?_; rintro e w3 ⟨rfl, hb3⟩; obtain ⟨⟨y0, y1, y2, y3, y4, y5, y6⟩, _⟩ := box7 C6 hb3)
        go_meet
        exact ⟨by rw [hnd, hno.out]; rfl, hb3⟩
      have g0 : decide (f < 0) = false := decide_eq_false c0
      by_cases c1 : n < 0
      · have g1 : decide (n < 0) = true := decide_eq_true c1
        have hno := Lib.hid (show numsOk f n v e d = false from decide_eq_false (by omega))
        go_wp2_with (go_at_call 48; refine HNM.out.mono ?_; rintro e w3 ⟨rfl, hb3⟩; obtain ⟨⟨y0, y1, y2, y3, y4, y5, y6⟩, _⟩ := box7 C6 hb3)
        go_meet
        exact ⟨by rw [hnd, hno.out]; rfl, hb3⟩
      have g1 : decide (n < 0) = false := decide_eq_false c1
      by_cases c2 : 64 < f
      · have g2 : decide (64 < f) = true := decide_eq_true c2
        have hno := Lib.hid (show numsOk f n v e d = false from decide_eq_false (by omega))
        go_wp2_with (go_at_call 48; refine HNM.out.mono ?_; rintro e w3 ⟨rfl, hb3⟩; obtain ⟨⟨y0, y1, y2, y3, y4, y5, y6⟩, _⟩ := box7 C6 hb3)
        go_meet
        exact ⟨by rw [hnd, hno.out]; rfl, hb3⟩
      have g2 : decide (64 < f) = false := decide_eq_false c2
      by_cases c3 : 64 - f < n
      · have g3 : decide (64 - f < n) = true := decide_eq_true c3
        have hno := Lib.hid (show numsOk f n v e d = false from decide_eq_false (by omega))
        go_wp2_with (go_at_call 48; refine HNM.out.mono ?_; rintro e w3 ⟨rfl, hb3⟩; obtain ⟨⟨y0, y1, y2, y3, y4, y5, y6⟩, _⟩ := box7 C6 hb3)
        go_meet
        exact ⟨by rw [hnd, hno.out]; rfl, hb3⟩
      have g3 : decide (64 - f < n) = false := decide_eq_false c3
      by_cases c4 : (4096 : Int) < (v.length : Int)
      · have g4 : decide ((4096 : Int) < (v.length : Int)) = true := decide_eq_true c4
        have hno := Lib.hid (show numsOk f n v e d = false from decide_eq_false (by omega))
        go_wp2_with (go_at_call 48; refine HNM.out.mono ?_; rintro e w3 ⟨rfl, hb3⟩; obtain ⟨⟨y0, y1, y2, y3, y4, y5, y6⟩, _⟩ := box7 C6 hb3)
        go_meet
        exact ⟨by rw [hnd, hno.out]; rfl, hb3⟩
      have g4 : decide ((4096 : Int) < (v.length : Int)) = false := decide_eq_false c4
      by_cases c5 : (4096 : Int) < (e.length : Int)
      · have g5 : decide ((4096 : Int) < (e.length : Int)) = true := decide_eq_true c5
        have hno := Lib.hid (show numsOk f n v e d = false from decide_eq_false (by omega))
        go_wp2_with (go_at_call 48; refine HNM.out.mono ?_; rintro e w3 ⟨rfl, hb3⟩; obtain ⟨⟨y0, y1, y2, y3, y4, y5, y6⟩, _⟩ := box7 C6 hb3)
        go_meet
        exact ⟨by rw [hnd, hno.out]; rfl, hb3⟩
      have g5 : decide ((4096 : Int) < (e.length : Int)) = false := decide_eq_false c5
      by_cases c6 : (4096 : Int) < (d.length : Int)
      · have g6 : decide ((4096 : Int) < (d.length : Int)) = true := decide_eq_true c6
        have hno := Lib.hid (show numsOk f n v e d = false from decide_eq_false (by omega))
        go_wp2_with (go_at_call 48; refine HNM.out.mono ?_; rintro e w3 ⟨rfl, hb3⟩; obtain ⟨⟨y0, y1, y2, y3, y4, y5, y6⟩, _⟩ := box7 C6 hb3)
        go_meet
        exact ⟨by rw [hnd, hno.out]; rfl, hb3⟩
      have g6 : decide ((4096 : Int) < (d.length : Int)) = false := decide_eq_false c6
      have hno := Lib.hid (show numsOk f n v e d = true from decide_eq_true (by omega))
      go_wp2_with (go_at_call 48; refine HNM.out.mono ?_; rintro e w3 ⟨rfl, hb3⟩; obtain ⟨⟨y0, y1, y2, y3, y4, y5, y6⟩, _⟩ := box7 C6 hb3)
      go_meet
      exact ⟨by rw [hnd, hno.out]; rfl, hb3⟩
  case rest =>
    obtain ⟨rfl, hb3⟩ := hcut
    rename World => w3
    have C4' := (hb3.block _ (lt_of_block C4)).trans C4
    have C6' := (hb3.block _ (lt_of_block C6)).trans C6
    have HN3 := Lib.hid (HN.out.below hb3)
    have HK3 := Lib.hid (KidsAt.below hb3 _ _ HK.out)
    have HB3 := HB.out.trans (hb3.mono HB.out.size)
    clear q4 hb3 HN HK HB C4 C6 HNM
    cases hnn : (Tp.node ns x && numsOk f n v e d) with
    | false =>
      rw [hnn] at HX
      go_wp2_with (fail)
      go_ret
      exact ⟨ret_bool (by rw [HX.out]; rfl), HB3⟩
    | true =>
      have HC2 := Lib.hid (fun h => HC.out ⟨hnn, h⟩)
      clear HC
      rw [hnn] at HX
      rw [Bool.and_eq_true] at hnn
      obtain ⟨hnd, hnm⟩ := hnn
      unfold numsOk at hnm
      obtain ⟨f0, n0, f1, n1, v1, e1, d1⟩ := of_decide_eq_true hnm
      have hx0 : 0 ≤ x ∧ x < ns.length := by
        unfold Tp.node at hnd
        simp only [Bool.and_eq_true, decide_eq_true_eq] at hnd
        exact hnd.2
      obtain ⟨i, rfl⟩ := Int.eq_ofNat_of_zero_le hx0.1
      obtain ⟨fn, rfl⟩ := Int.eq_ofNat_of_zero_le f0
      obtain ⟨nn, rfl⟩ := Int.eq_ofNat_of_zero_le n0
      obtain ⟨hm, hi⟩ := (Vp.node_of ns i).1 hnd
      rw [Int.toNat_natCast] at HX HC2
      have hfn : fn + nn ≤ 64 := by omega
      clear hnm f0 n0 f1 n1 hx0
      have hp4 := cell_of_one C4'
      obtain ⟨x0, x1, x2, x3, x4, x5, x6, _⟩ := zero_cells C6'
      obtain ⟨bk, o, c, rfl, hc1, hc2, hbk, g0, g2⟩ := nodes_open HN3.out hi
      have hii : (i : Int) < (ns.length : Int) := by omega
      unfold maxLen at hc2
      go_upto_region 4 with (fail)
      go_cut [85] (fun s wx => s = .bool (!validOk ns i fn nn v) ∧ Below w3.heap.size w3 wx)
      case first =>
        have hbb := Lib.hid (fun W => refBytes_calls ((fn : Int) + (nn : Int)) W (by omega) (by omega))
        by_cases hv0 : v = []
        · subst hv0
          go_quiet (fail)
          go_wp2
          go_meet
          exact ⟨rfl, below_drewN (Below.refl _ _) _⟩
        · have hi0 := no_empty hv0
          have hvo : validOk ns i fn nn v = (Vp.isNull ns i && decide (((fn : Int) + (nn : Int) + 7) / 8 ≤ (v.length : Int))) := by unfold validOk; rw [decide_eq_false hv0, Bool.false_or]
          replace hvo := Lib.hid hvo
          generalize Vp.isNull ns i = nu at g2 hvo
          cases nu with
          | false =>
            go_quiet (fail)
            go_wp2
            go_meet
            exact ⟨by rw [hvo.out]; rfl, below_drewN (Below.refl _ _) _⟩
          | true =>
            by_cases hlv : ((fn : Int) + (nn : Int) + 7) / 8 ≤ (v.length : Int)
            · have hd2 : decide ((v.length : Int) < ((fn : Int) + (nn : Int) + 7) / 8) = false := decide_eq_false (by omega)
              go_quiet (first | (go_at_call 88; refine Calls.quiet_of_same ((hbb.out _).mono fun _ _ h => ⟨h.1, h.2.symm⟩)))
              go_wp2
              go_meet
              exact ⟨by rw [hvo.out, decide_eq_true hlv]; rfl, below_drewN (Below.refl _ _) _⟩
            · have hd2 : decide ((v.length : Int) < ((fn : Int) + (nn : Int) + 7) / 8) = true := decide_eq_true (by omega)
              go_quiet (first | (go_at_call 88; refine Calls.quiet_of_same ((hbb.out _).mono fun _ _ h => ⟨h.1, h.2.symm⟩)))
              go_wp2
              go_meet
              exact ⟨by rw [hvo.out, decide_eq_false (by omega)]; rfl, below_drewN (Below.refl _ _) _⟩
      case rest =>
        obtain ⟨rfl, hb4⟩ := hcut
        rename World => w4
        have C4'' := (hb4.block _ (lt_of_block C4')).trans C4'
        have C6'' := (hb4.block _ (lt_of_block C6')).trans C6'
        have HN4 := Lib.hid (HN3.out.below hb4)
        have HK4 := Lib.hid (KidsAt.below hb4 _ _ HK3.out)
        have HB4 := HB3.trans (hb4.mono HB3.size)
        have g4 := (hb4.cell (p := ⟨bk, o + i * 3, none⟩) hbk).trans g0
        have hbk4 := Nat.lt_of_lt_of_le hbk hb4.size
        clear hp4 x0 x1 x2 x3 x4 x5 x6 g0 g2 HN3 HK3 HB3 C4' C6'
        have hp4 := cell_of_one C4''
        obtain ⟨x0, x1, x2, x3, x4, x5, x6, _⟩ := zero_cells C6''
        cases hvo : validOk ns i fn nn v with
        | false =>
          rw [hvo] at HX
          go_wp2_with (fail)
          go_ret
          exact ⟨ret_bool (by rw [HX.out]; rfl), HB4⟩
        | true =>
          rw [hvo] at HX
          by_cases hl0 : l = 0
          · subst hl0
            go_wp2_with (fail)
            refine (plainMay_calls ns 0 fn nn v e d ks _ _ i w4 HIH.out hm hi hfn e1 d1 HK4.out HN4.out).mono ?_; rintro y w5 ⟨rfl, hb5⟩
            go_wp2
            go_ret
            exact ⟨ret_bool (by rw [HX.out]; rfl), HB4.trans (hb5.mono HB4.size)⟩
          · exact absurd ⟨hvo, hl0⟩ HC2.out
end Go.Proofs.YtlllflacnlgigaaGreatDoor
