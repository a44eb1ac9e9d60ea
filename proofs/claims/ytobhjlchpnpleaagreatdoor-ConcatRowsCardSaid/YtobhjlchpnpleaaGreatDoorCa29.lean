/- Several texts in one: MayC, MayD, MayE. -/
import Derived.Test.YtobhjlchpnpleaaGreatDoorCa28
import Derived.Deep.DeepCutAuto
import Derived.Deep.RegionHeld3
import Derived.Deep.CutBlock
/- Package array: plain, walked. -/
namespace Go.Proofs.YtobhjlchpnpleaaGreatDoor
open Go.RowKit
set_option linter.unusedVariables false
set_option linter.unusedSimpArgs false

def MayOK (ns : List Tp.Nd) (N : Nat) : Prop := ∀ (a : Arr) (x : Int) (u vv : Value) (W : World), SizeOf.sizeOf a < N → ArrAt W a u → NodesAt W vv ns →
 Calls Tryz.prog 56 #[typeV vv, .int .i64 x, u] W fun e w' => e = .returned (.bool (mayX ns a x)) ∧ Below W.heap.size W w'
theorem CellA.set {W : World} {g o : Nat} {l f n : Int} {v e d : Vp.Txt} {k : Value} (h : CellA W g o l f n v e d k) {b : Nat} (hb : g ≠ b) (u : Value) : CellA (W.setCell ⟨b, 0, none⟩ u) g o l f n v e d k := by
 have hk : (W.setCell ⟨b, 0, none⟩ u).heap[g]? = W.heap[g]? := Below.heap_setCell W ⟨b, 0, none⟩ u g hb
 have cc := fun j => World.cell?_of_block (w := W) (a := ⟨g, j, none⟩) hk
 exact ⟨(cc _).trans h.1, (cc _).trans h.2.1, (cc _).trans h.2.2.1, (cc _).trans h.2.2.2.1, (cc _).trans h.2.2.2.2.1, (cc _).trans h.2.2.2.2.2.1, (cc _).trans h.2.2.2.2.2.2⟩
set_option maxRecDepth 100000 in
set_option maxHeartbeats 6400000 in
theorem arrPlain_calls (ns : List Tp.Nd) (T g o : Nat) (l : Int) (f n : Nat) (v e d : Vp.Txt) (ks : List Arr) (k vv : Value) (i : Nat) (W : World) (ih : ∀ a ∈ ks, MayOK ns (SizeOf.sizeOf a + 1))
  (hm : Tp.may ns = true) (hi : i < ns.length) (hfn : f + n ≤ 64) (he : e.length ≤ 4096) (hd : d.length ≤ 4096) (hT : W.cell? ⟨T, 0, none⟩ = some vv) (hTl : T < W.heap.size)
  (ha : CellA W g o l f n v e d k) (hg : g < W.heap.size) (hk : KidsAt W ks k) (hn : NodesAt W vv ns) :
  Calls Tryz.prog 82 #[.pointer (some ⟨T, 0, none⟩), .int .i64 (i : Int), .pointer (some ⟨g, o, none⟩)] W fun x w' => x = .returned (.bool (plainX ns i f n e d ks)) ∧ Below W.heap.size W w' := by
 have hnd : Tp.node ns (i : Int) = true := (Vp.node_of ns i).2 ⟨hm, hi⟩
 have HA := Lib.hid ha
 have HT := Lib.hid hT
 have HN := Lib.hid hn
 have HK := Lib.hid hk
 have HIH := Lib.hid ih
 have HX := Lib.hid (show plainX ns i f n e d ks = (decide (ks.length = (Tp.kids ns i).length) && (Vp.mayAll ns ks (Tp.kids ns i) && plainK (Tp.kindOf ns i) f n e d ks)) from rfl)
 rw [KidsAt] at hk
 obtain ⟨ka, kc, rfl, hkc1, hkc2, _⟩ := hk
 obtain ⟨a0, a1, a2, a3, a4, a5, a6⟩ := ha
 have hz4 := mk_size e
 have hz5 := mk_size d
 clear hn ih
 go_enter Tryz.func82, Tryz.ntmps82
 go_wp2_with (fail)
 go_cut [7] (fun s7 wx => s7 = .pointer (some ⟨W.heap.size, 0, none⟩) ∧ wx.cell? ⟨W.heap.size, 0, none⟩ = some (.int .i64 ((f : Int) + (n : Int))) ∧ W.heap.size < wx.heap.size ∧ Below W.heap.size W wx)
 case first =>
  have b0 := a0; have b1 := a1; have b2 := a2
  go_region
  all_goals go_wp2
  all_goals go_meet
  all_goals exact ⟨rfl, by simp, by simp, by first | exact (below_alloc (Below.refl _ _) _).drew | exact below_alloc (Below.refl _ _) _⟩
 case rest =>
  obtain ⟨rfl, P7, hlt7, HB⟩ := hcut
  rename World => w1
  obtain ⟨x0, x1, x2, x3, x4, x5, x6⟩ := HA.out.below HB hg
  simp only [tv] at x3 x4 x5
  have q4 := (HB.cell (p := ⟨T, 0, none⟩) hTl).trans HT.out
  have HN1 := Lib.hid (HN.out.below HB)
  have HZ := HB.size
  clear a0 a1 a2 a3 a4 a5 a6 hT
  go_wp2_with (fail)
  refine (kidsOk_calls vv ns i _ HN1.out hnd).mono ?_; rintro x w3 ⟨kr, rfl, hko, hb3⟩
  have HB3 := HB.trans (hb3.mono HB.size)
  have P7' := Lib.hid ((hb3.cell (p := ⟨W.heap.size, 0, none⟩) hlt7).trans P7)
  have HLT := Lib.hid (Nat.lt_of_lt_of_le hlt7 hb3.size)
  have HN3 := Lib.hid (HN.out.below HB3)
  have HK3 := Lib.hid (KidsAt.below HB3 _ _ HK.out)
  have HA3 := Lib.hid (HA.out.below HB3 hg)
  have HT3 := Lib.hid ((HB3.cell (p := ⟨T, 0, none⟩) hTl).trans HT.out)
  have hg3 := Nat.lt_of_lt_of_le hg HB3.size
  have hT3 := Nat.lt_of_lt_of_le hTl HB3.size
  have HNA := Lib.hid (own_nats hko)
  obtain ⟨kra, krc, rfl⟩ := own_slice hko
  have hkm := own_max hko
  unfold maxLen at hkm
  clear x0 x1 x2 x3 x4 x5 x6 q4 P7 hlt7 hb3 HB HN1 hko HZ HA HT HN HK
  obtain ⟨x0, x1, x2, x3, x4, x5, x6⟩ := HA3.out
  simp only [tv] at x3 x4 x5
  by_cases hl : ks.length = (Tp.kids ns (i : Int)).length
  ·have hli : ((ks.length : Int) != ((Tp.kids ns (i : Int)).length : Int)) = false := by simp; omega
   have hli2 : (ks.length : Int) = ((Tp.kids ns (i : Int)).length : Int) := by omega
   have HL := Lib.hid hl
   obtain ⟨kks, hkks⟩ : ∃ kks, Tp.kids ns (i : Int) = kks := ⟨_, rfl⟩
   have HKK := Lib.hid hkks
   rw [hkks] at hli hli2 HL HNA HX hkm ⊢
   have HX2 := Lib.hid (show plainX ns i f n e d ks = (Vp.mayAll ns ks kks && plainK (Tp.kindOf ns i) f n e d ks) by rw [HX.out, decide_eq_true HL.out, Bool.true_and])
   have HMA := Lib.hid (Vp.mayAll_iff ns ks kks HL.out)
   obtain ⟨bkn, non, ncn, rfl, hnc1, hnc2, hbkn, g0, _⟩ := nodes_open HN3.out hi
   have HG0 := Lib.hid g0
   have hii : (i : Int) < (ns.length : Int) := by omega
   unfold maxLen at hnc2 hkc2
   clear hl HX hkks g0
   go_wp2
   clear hli2 hli
   go_loopw [10, 11, 40] (fun _ _ ix wr => ∃ q : Nat, q ≤ kks.length ∧ ix = .int .i64 (q : Int) ∧ (∀ j, j < q → Vp.mayA ns (ks.getD j Arr.none) (kks.getD j 0) = true) ∧ Below w3.heap.size w3 wr) (fun _ _ ix _ => kks.length - (intOf ix).toNat)
   case atStart => exact ⟨0, Nat.zero_le _, rfl, fun j h => absurd h (Nat.not_lt_zero _), Below.refl _ _⟩
   case round =>
    obtain ⟨q, hq, rfl, hall, hbr⟩ := hrel
    have HALL := Lib.hid hall
    clear hall x0 x1 x2 x3 x4 x5 x6
    obtain ⟨x0, x1, x2, x3, x4, x5, x6⟩ := HA3.out.below hbr hg3
    simp only [tv] at x3 x4 x5
    have q4 := (hbr.cell (p := ⟨T, 0, none⟩) hT3).trans HT3.out
    have HBR := Lib.hid hbr
    by_cases hlt : q < kks.length
    ·have hlti : (q : Int) < (kks.length : Int) := by omega
     have hltk : q < ks.length := by have := HL.out; omega
     have hltki : (q : Int) < (ks.length : Int) := by omega
     obtain ⟨kna, knc, hkv, _, _, hkcell⟩ := HNA.out
     obtain ⟨rfl, _, rfl⟩ := Value.slice.inj hkv
     obtain ⟨kbk, kno, rfl, hkbk, hkc⟩ := hkcell (by intro e; rw [e] at hlt; exact Nat.not_lt_zero _ hlt)
     have k1 := (hbr.cell (p := ⟨kbk, kno + q, none⟩) hkbk).trans (hkc q _ (List.getElem?_eq_getElem hlt))
     obtain ⟨bk, ok, rfl, hbk, hc⟩ := kids_open HK3.out (by intro e; rw [e] at hltk; exact Nat.not_lt_zero _ hltk)
     have hx := List.getElem?_eq_getElem hltk
     have hmem := List.getElem_mem hltk
     have HGK := Lib.hid (show kks.getD q 0 = kks[q] by rw [List.getD_eq_getElem?_getD, List.getElem?_eq_getElem hlt]; rfl)
     have HGY := Lib.hid (show ks.getD q Arr.none = ks[q] by rw [List.getD_eq_getElem?_getD, List.getElem?_eq_getElem hltk]; rfl)
     generalize kks[q] = kd at k1 HGK
     generalize ks[q] = y at hx hmem HGY
     obtain ⟨yl, yf, yn, yv, ye, yd, ys⟩ := y
     obtain ⟨y0, y1, y2, y3, y4, y5, ky, y6, hky⟩ := CellsAt.at ks ok q _ _ _ _ _ _ _ hc hx
     have HKY := Lib.hid hky
     have HM := Lib.hid (fun (w' : World) (h : Below w3.heap.size w3 w') => HIH.out (.mk yl yf yn yv ye yd ys) hmem (.mk yl yf yn yv ye yd ys) (kd : Int) (arrV yl yf yn yv ye yd ky) (.slice (some ⟨bkn, non, none⟩) ns.length ncn) w' (Nat.lt_succ_self _) ⟨ky, rfl, KidsAt.below h _ _ HKY.out⟩ (HN3.out.below h))
     rw [mayX_nat] at HM
     have cc := fun j => hbr.cell (p := ⟨bk, j, none⟩) hbk
     replace y0 := (cc _).trans y0
     replace y1 := (cc _).trans y1
     replace y2 := (cc _).trans y2
     replace y3 := (cc _).trans y3
     replace y4 := (cc _).trans y4
     replace y5 := (cc _).trans y5
     replace y6 := (cc _).trans y6
     simp only [tv] at y3 y4 y5
     simp only [arrV, tv] at HM
     obtain ⟨B, hB⟩ : ∃ B, Vp.mayA ns (.mk yl yf yn yv ye yd ys) kd = B := ⟨_, rfl⟩
     rw [hB] at HM
     have HB := Lib.hid hB
     clear hB hc hx hmem hky cc hkc hkcell hkv HMA
     cases B with
     | true =>
      go_upto_region 8 with (fail)
      go_region_with (go_at_call 56; refine (HM.out _ (by repeat (first | exact hbr | apply below_drewN | apply below_drew))).mono ?_; rintro x w4 ⟨rfl, hb4⟩; have HB4 := below_then (by repeat (first | exact hbr | apply below_drewN | apply below_drew) : Below w3.heap.size w3 _) hb4)
      all_goals
       go_wp2
       refine ⟨⟨q + 1, by omega, by go_num, fun j hj => ?_, by repeat (first | exact HB4 | apply below_drewN | apply below_drew)⟩, by simp [intOf]; omega⟩
       rcases Nat.lt_or_ge j q with h | h
       ·exact HALL.out j h
       ·obtain rfl : j = q := by omega
        rw [HGK.out, HGY.out]
        exact HB.out
     | false =>
      have HU := Lib.hid (show plainX ns i f n e d ks = false by
       rw [HX2.out]
       have : Vp.mayAll ns ks kks = false := by
        rw [Bool.eq_false_iff]
        intro hm2
        have := (Vp.mayAll_iff ns ks kks HL.out).1 hm2 q hlt
        rw [HGK.out, HGY.out, HB.out] at this
        cases this
       rw [this, Bool.false_and])
      go_upto_region 8 with (fail)
      go_region_with (go_at_call 56; refine (HM.out _ (by repeat (first | exact hbr | apply below_drewN | apply below_drew))).mono ?_; rintro x w4 ⟨rfl, hb4⟩; have HB4 := below_then (by repeat (first | exact hbr | apply below_drewN | apply below_drew) : Below w3.heap.size w3 _) hb4)
      all_goals
       go_wp2
       go_ret
       exact ⟨ret_bool HU.out.symm, HB3.trans ((by repeat (first | exact HB4 | apply below_drewN | apply below_drew) : Below w3.heap.size w3 _).mono HB3.size)⟩
    ·obtain rfl : q = kks.length := by omega
     have HU := Lib.hid (show plainX ns i f n e d ks = plainK (Tp.kindOf ns i) f n e d ks by rw [HX2.out, HMA.out.2 HALL.out, Bool.true_and])
     have g0 := (hbr.cell (p := ⟨bkn, non + i * 3, none⟩) hbkn).trans HG0.out
     have P8 := (hbr.cell (p := ⟨W.heap.size, 0, none⟩) HLT.out).trans P7'.out
     have HK4 := Lib.hid (KidsAt.below hbr _ _ HK3.out)
     have HB4 := HB3.trans (hbr.mono HB3.size)
     have hP8 := Nat.lt_of_lt_of_le HLT.out hbr.size
     have hkr := Vp.may_kind ns hm i hi
     have HK1 := Lib.hid (fun (hk : Tp.kindOf ns i = 3) => (Vp.kids_one' hm hi hk))
     obtain ⟨kd, hkd⟩ : ∃ kd, Tp.kindOf ns i = kd := ⟨_, rfl⟩
     rw [hkd] at HU g0 hkr HK1
     clear hkd HMA HALL HX2 HG0 P7' HLT HBR hbr
     obtain ⟨R, hR⟩ : ∃ R : Nat, f + n = R := ⟨_, rfl⟩
     have hRi : (f : Int) + (n : Int) = (R : Int) := by omega
     have hR64 : R ≤ 64 := by omega
     have HRI := Lib.hid hRi
     rw [hRi] at P8
     clear hR hRi hfn
     by_cases k0 : kd = 0
     ·subst k0
      have HV := Lib.hid (show plainK 0 f n e d ks = (decide (e = []) && decide (8 * (R : Int) ≤ d.length)) by unfold plainK; rw [if_pos rfl, HRI.out])
      by_cases he0 : e = []
      ·subst he0
       by_cases h8 : 8 * (R : Int) ≤ d.length
       ·have d8 : decide (8 * (R : Int) ≤ (d.length : Int)) = true := decide_eq_true h8
        rw [d8] at HV
        go_wp2
        go_quiet (fail)
        go_wp2
        go_ret
        exact ⟨ret_bool (by rw [HU.out, HV.out]; rfl), below_drewN HB4 _⟩
       ·have d8 : decide (8 * (R : Int) ≤ (d.length : Int)) = false := decide_eq_false h8
        rw [d8] at HV
        go_wp2
        go_quiet (fail)
        go_wp2
        go_ret
        exact ⟨ret_bool (by rw [HU.out, HV.out]; rfl), below_drewN HB4 _⟩
      ·have hie := no_empty he0
       rw [decide_eq_false he0, Bool.false_and] at HV
       go_wp2
       go_quiet (fail)
       go_wp2
       go_ret
       exact ⟨ret_bool (by rw [HU.out, HV.out]), below_drewN HB4 _⟩
     by_cases k1 : kd = 1
     ·subst k1
      have HV := Lib.hid (show plainK 1 f n e d ks = (decide (e = []) && decide (((R : Int) + 7) / 8 ≤ d.length)) by unfold plainK; rw [if_neg (by decide), if_pos rfl, HRI.out])
      have HBY := Lib.hid (fun W => (bitsBytes_calls (R : Int) W (by omega) (by omega)).mono fun _ w' h => show _ ∧ w' = _ from ⟨h.1, h.2.symm⟩)
      by_cases he0 : e = []
      ·subst he0
       by_cases h8 : ((R : Int) + 7) / 8 ≤ d.length
       ·have d8 : decide (((R : Int) + 7) / 8 ≤ (d.length : Int)) = true := decide_eq_true h8
        rw [d8] at HV
        go_wp2
        go_quiet (first | (go_at_call 109; refine Calls.quiet_of_same (HBY.out _)))
        go_wp2
        go_ret
        exact ⟨ret_bool (by rw [HU.out, HV.out]; rfl), below_drewN HB4 _⟩
       ·have d8 : decide (((R : Int) + 7) / 8 ≤ (d.length : Int)) = false := decide_eq_false h8
        rw [d8] at HV
        go_wp2
        go_quiet (first | (go_at_call 109; refine Calls.quiet_of_same (HBY.out _)))
        go_wp2
        go_ret
        exact ⟨ret_bool (by rw [HU.out, HV.out]; rfl), below_drewN HB4 _⟩
      ·have hie := no_empty he0
       rw [decide_eq_false he0, Bool.false_and] at HV
       go_wp2
       go_quiet (fail)
       go_wp2
       go_ret
       exact ⟨ret_bool (by rw [HU.out, HV.out]), below_drewN HB4 _⟩
     by_cases k2 : kd = 2
     ·subst k2
      have HV := Lib.hid (show plainK 2 f n e d ks = Vp.endsOk e R d.length f 16 by
       unfold plainK
       rw [if_neg (by decide), if_neg (by decide), if_pos rfl, HRI.out, Int.toNat_natCast, Int.toNat_natCast])
      have HEN := Lib.hid (fun W => (arrEnds_calls e R f 16 (d.length : Int) W (by omega) (by omega) (by have := HRI.out; omega) (by decide)).mono fun _ w' h => show _ ∧ w' = _ from ⟨h.1, h.2.symm⟩)
      generalize Vp.endsOk e R d.length f 16 = B at HV HEN
      go_wp2
      go_quiet (first | (go_at_call 110; refine Calls.quiet_of_same (HEN.out _)))
      go_wp2
      go_ret
      exact ⟨ret_bool (by rw [HU.out, HV.out]), below_drewN HB4 _⟩
     by_cases k3 : kd = 3
     ·subst k3
      have h1 : ks.length = 1 := by rw [HL.out, ← HKK.out, HK1.out rfl]; rfl
      obtain ⟨y, rfl⟩ := List.length_eq_one_iff.1 h1
      have HV := Lib.hid (show plainK 3 f n e d [y] = (decide (d = []) && Vp.endsOk e R y.len 0 64) by
       unfold plainK
       rw [if_neg (by decide), if_neg (by decide), if_neg (by decide), if_pos rfl, HRI.out, Int.toNat_natCast]; rfl)
      have HEN := Lib.hid (show ∀ W, Calls Tryz.prog 110 #[.string ⟨e.toArray⟩, .int .i64 (R : Int), .int .i64 y.len, .int .i64 0, .int .i64 64] W fun x w' => x = .returned (.bool (Vp.endsOk e R y.len 0 64)) ∧ w' = W from
       fun W => (arrEnds_calls e R 0 64 y.len W (by omega) (by omega) (by decide) (by decide)).mono fun _ w' h => ⟨h.1, h.2.symm⟩)
      obtain ⟨bk, ok, rfl, hbk, hc⟩ := kids_open (ks := [y]) HK4.out (by simp)
      obtain ⟨yl, yf, yn, yv, ye, yd, ys⟩ := y
      obtain ⟨_, _, y2, _⟩ := CellsAt.at [.mk yl yf yn yv ye yd ys] ok 0 _ _ _ _ _ _ _ hc rfl
      simp only [Nat.zero_mul, Nat.add_zero, Arr.len] at y2 HEN HV
      generalize Vp.endsOk e R yn 0 64 = B at HV HEN
      clear hc h1
      by_cases hd0 : d = []
      ·subst hd0
       go_wp2
       go_quiet (first | (go_at_call 110; refine Calls.quiet_of_same (HEN.out _)))
       go_wp2
       go_ret
       exact ⟨ret_bool (by rw [HU.out, HV.out]; rfl), below_drewN HB4 _⟩
      ·have hid := no_empty hd0
       rw [decide_eq_false hd0, Bool.false_and] at HV
       go_wp2
       go_quiet (fail)
       go_wp2
       go_ret
       exact ⟨ret_bool (by rw [HU.out, HV.out]), below_drewN HB4 _⟩
     obtain rfl : kd = 4 := by omega
     have HV := Lib.hid (show plainK 4 f n e d ks = (decide (e = []) && (decide (d = []) && !(ks.any fun a => decide (a.len < (R : Int))))) by
      unfold plainK
      rw [if_neg (by decide), if_neg (by decide), if_neg (by decide), if_neg (by decide), HRI.out, List.not_any_eq_all_not]
      congr 2
      refine congrArg (List.all ks) (funext fun k => ?_)
      rw [← decide_not]
      exact decide_eq_decide.2 (by omega))
     have HCK := Lib.hid (fun (w' : World) (h : Below wr.heap.size wr w') => containsK_calls ks (.slice ka ks.length kc) W.heap.size (R : Int) w' (KidsAt.below h _ _ HK4.out) ((h.cell (p := ⟨W.heap.size, 0, none⟩) hP8).trans P8) (Nat.lt_of_lt_of_le hP8 h.size))
     generalize (ks.any fun a => decide (a.len < (R : Int))) = B at HV HCK
     by_cases he0 : e = []
     ·subst he0
      by_cases hd0 : d = []
      ·subst hd0
       go_wp2_with (go_at_call 112; refine (HCK.out _ (by repeat (first | exact Below.refl _ _ | apply below_drewN | apply below_drew))).mono ?_; rintro x w5 ⟨rfl, hb5⟩; have HB5 := HB4.trans ((below_then (by repeat (first | exact Below.refl _ _ | apply below_drewN | apply below_drew) : Below wr.heap.size wr _) hb5).mono HB4.size))
       go_ret
       exact ⟨ret_bool (by rw [HU.out, HV.out]; simp), HB5⟩
      ·have hid := no_empty hd0
       rw [decide_eq_false hd0, Bool.false_and, Bool.and_false] at HV
       go_wp2
       go_ret
       exact ⟨ret_bool (by rw [HU.out, HV.out]), HB4⟩
     ·have hie := no_empty he0
      rw [decide_eq_false he0, Bool.false_and] at HV
      go_wp2
      go_ret
      exact ⟨ret_bool (by rw [HU.out, HV.out]), HB4⟩
  ·have hli : ((ks.length : Int) != ((Tp.kids ns (i : Int)).length : Int)) = true := by simp; omega
   have hli2 : ¬ (ks.length : Int) = ((Tp.kids ns (i : Int)).length : Int) := by omega
   have HU := Lib.hid (show plainX ns i f n e d ks = false by rw [HX.out, decide_eq_false hl, Bool.false_and])
   clear hl
   go_wp2
   go_ret
   exact ⟨ret_bool HU.out.symm, HB3⟩
end Go.Proofs.YtobhjlchpnpleaaGreatDoor

/- Package array: one, dict, run, walked. -/
namespace Go.Proofs.YtobhjlchpnpleaaGreatDoor
open Go.RowKit
set_option linter.unusedVariables false
set_option linter.unusedSimpArgs false

theorem kid_open {W : World} {y : Arr} {ka : Option Addr} {kc : Nat} (h : KidsAt W [y] (.slice ka 1 kc)) :
  ∃ kb ko kx, ka = some ⟨kb, ko, none⟩ ∧ kb < W.heap.size ∧ CellA W kb ko y.lay y.off y.len y.valid y.ends y.data kx ∧ KidsAt W y.kids kx := by
 obtain ⟨kb, ko, rfl, hkb, hc⟩ := kids_open (ks := [y]) h (by simp)
 obtain ⟨l, f, n, v, e, d, ks⟩ := y
 rw [CellsAt] at hc
 obtain ⟨⟨c0, c1, c2, c3, c4, c5, k, c6, hks⟩, _⟩ := hc
 exact ⟨kb, ko, k, rfl, hkb, ⟨c0, c1, c2, c3, c4, c5, c6⟩, hks⟩
/-- What 'one' answers. -/
def OneP (k p : Value) (b : Bool) : Prop := b = true → ∃ kb ko c, k = .slice (some ⟨kb, ko, none⟩) 1 c ∧ p = .pointer (some ⟨kb, ko, none⟩)
set_option maxRecDepth 100000 in
set_option maxHeartbeats 6400000 in
theorem one_calls (ns : List Tp.Nd) (T g o : Nat) (l f n : Int) (v e d : Vp.Txt) (ks : List Arr) (k vv : Value) (i : Nat) (W : World) (ih : ∀ a ∈ ks, MayOK ns (SizeOf.sizeOf a + 1))
  (hm : Tp.may ns = true) (hi : i < ns.length) (hT : W.cell? ⟨T, 0, none⟩ = some vv) (hTl : T < W.heap.size)
  (ha : CellA W g o l f n v e d k) (hg : g < W.heap.size) (hk : KidsAt W ks k) (hn : NodesAt W vv ns) :
  Calls Tryz.prog 113 #[.pointer (some ⟨T, 0, none⟩), .int .i64 (i : Int), .pointer (some ⟨g, o, none⟩)] W fun x w' => ∃ p, x = .returned (.tuple #[p, .bool (Vp.oneOk ns i e ks && Vp.mayAll ns ks [i])]) ∧ OneP k p (Vp.oneOk ns i e ks && Vp.mayAll ns ks [i]) ∧ Below W.heap.size W w' := by
 have HN := Lib.hid hn
 have HK := Lib.hid hk
 have HIH := Lib.hid ih
 have HB := Below.refl W.heap.size W
 have HX := Lib.hid (show (Vp.oneOk ns i e ks && Vp.mayAll ns ks [i]) = ((!Tp.inner (Tp.kindOf ns i) && (decide (e = []) && (decide (ks.length = 1) && decide ((Vp.kid0 ks).lay = 0)))) && Vp.mayAll ns ks [i]) from rfl)
 rw [KidsAt] at hk
 obtain ⟨ka, kc, rfl, hkc1, hkc2, _⟩ := hk
 obtain ⟨a0, a1, a2, a3, a4, a5, a6⟩ := ha
 obtain ⟨bk, no, nc, rfl, hc1, hc2, hbk, g0, _⟩ := nodes_open HN.out hi
 have hii : (i : Int) < (ns.length : Int) := by omega
 unfold maxLen at hc2 hkc2
 simp only [tv] at a3 a4 a5
 clear hn ih
 obtain ⟨kd, hkd⟩ : ∃ kd, Tp.kindOf ns i = kd := ⟨_, rfl⟩
 rw [hkd] at g0 HX
 clear hkd
 have HIN := Lib.hid (fun W => inner_calls kd W)
 obtain ⟨R, hR⟩ : ∃ R, (Vp.oneOk ns i e ks && Vp.mayAll ns ks [i]) = R := ⟨_, rfl⟩
 rw [hR] at HX ⊢
 clear hR
 cases hin : Tp.inner kd with
 | true =>
  rw [hin] at HX HIN
  obtain rfl : R = false := by rw [HX.out]; rfl
  go_enter Tryz.func113, Tryz.ntmps113
  go_wp2_with (go_at_call 133; refine (HIN.out _).mono ?_; rintro x w' ⟨rfl, rfl⟩)
  go_ret2
  exact ⟨_, rfl, fun h => (by cases h), HB⟩
 | false =>
  rw [hin] at HX HIN
  by_cases he : e = []
  ·subst he
   by_cases hl : ks.length = 1
   ·obtain ⟨y, rfl⟩ := List.length_eq_one_iff.1 hl
    obtain ⟨kb, ko, kx, rfl, hkb, hy, hkx⟩ := kid_open HK.out
    have HCY := Lib.hid hy
    have HKX := Lib.hid hkx
    obtain ⟨y0, y1, y2, y3, y4, y5, y6⟩ := hy
    simp only [tv] at y3 y4 y5
    clear hl hkx
    by_cases hl0 : y.lay = 0
    ·have HM := Lib.hid (fun (w' : World) (h : Below W.heap.size W w') => HIH.out y (by simp) y (i : Int) (arrV y.lay y.off y.len y.valid y.ends y.data kx) (.slice (some ⟨bk, no, none⟩) ns.length nc) w' (Nat.lt_succ_self _) (by obtain ⟨l', f', n', v', e', d', ks'⟩ := y; exact ⟨kx, rfl, KidsAt.below h _ _ HKX.out⟩) (HN.out.below h))
     rw [mayX_nat] at HM
     obtain ⟨B, hB⟩ : ∃ B, Vp.mayA ns y i = B := ⟨_, rfl⟩
     have HX2 := Lib.hid (show R = B by rw [HX.out, ← hB]; simp [hl0, Vp.kid0, Vp.mayAll])
     rw [hB] at HM
     simp only [arrV, tv] at HM
     rw [hl0] at y0 HM
     generalize y.off = yf at y1 HM
     generalize y.len = yn at y2 HM
     generalize y.valid = yv at y3 HM
     generalize y.ends = ye at y4 HM
     generalize y.data = yd at y5 HM
     clear HCY hB
     go_enter Tryz.func113, Tryz.ntmps113
     go_upto_region 4 with (go_at_call 133; refine (HIN.out _).mono ?_; rintro x w' ⟨rfl, rfl⟩)
     go_region_with (go_at_call 56; refine (HM.out _ (by repeat (first | exact HB | apply below_drewN | apply below_drew))).mono ?_; rintro x w4 ⟨rfl, hb4⟩; have HB4 := below_then (by repeat (first | exact HB | apply below_drewN | apply below_drew) : Below W.heap.size W _) hb4)
     all_goals
      go_wp2
      go_ret2
      refine ⟨_, by rw [HX2.out]; rfl, fun _ => ⟨kb, ko, kc, rfl, rfl⟩, ?_⟩
      repeat (first | exact HB4 | apply below_drewN | apply below_drew)
    ·have hl0' : (y.lay == 0) = false := by simp [hl0]
     have hl0d : decide (y.lay = 0) = false := decide_eq_false hl0
     obtain rfl : R = false := by rw [HX.out]; simp [hl0, Vp.kid0]
     generalize y.lay = yl at y0 hl0' hl0d hl0
     go_enter Tryz.func113, Tryz.ntmps113
     go_upto_region 4 with (go_at_call 133; refine (HIN.out _).mono ?_; rintro x w' ⟨rfl, rfl⟩)
     go_quiet (fail)
     go_wp2
     go_ret2
     exact ⟨_, rfl, fun h => (by cases h), below_drewN HB _⟩
   ·have hl' : ((ks.length : Int) != 1) = true := by simp; omega
    have hl2 : ¬ (ks.length : Int) = 1 := by omega
    obtain rfl : R = false := by rw [HX.out]; simp [hl]
    go_enter Tryz.func113, Tryz.ntmps113
    go_wp2_with (go_at_call 133; refine (HIN.out _).mono ?_; rintro x w' ⟨rfl, rfl⟩)
    go_ret2
    exact ⟨_, rfl, fun h => (by cases h), HB⟩
  ·have hi2 := no_empty he
   obtain rfl : R = false := by rw [HX.out]; simp [he]
   go_enter Tryz.func113, Tryz.ntmps113
   go_wp2_with (go_at_call 133; refine (HIN.out _).mono ?_; rintro x w' ⟨rfl, rfl⟩)
   go_ret2
   exact ⟨_, rfl, fun h => (by cases h), HB⟩
end Go.Proofs.YtobhjlchpnpleaaGreatDoor

/- Package array: dict, run, walked. -/
namespace Go.Proofs.YtobhjlchpnpleaaGreatDoor
open Go.RowKit
set_option linter.unusedVariables false
set_option linter.unusedSimpArgs false

theorem dict_no {f n : Nat} {v d : Vp.Txt} {y : Arr} {r : Nat} (h0 : f ≤ r) (h1 : r < f + n) (h : Vp.dictAt v d y.len r = false) : Vp.dictOk f n v d y = false := by
 unfold Vp.dictOk
 rw [show ((List.range (n : Int).toNat).all fun j => Vp.dictAt v d y.len ((f : Int).toNat + j)) = false from List.all_eq_false.2 ⟨r - f, List.mem_range.2 (by omega), by
  rw [show (f : Int).toNat + (r - f) = r by omega, h]; decide⟩]
 simp
theorem dict_yes {f n : Nat} {v d : Vp.Txt} {y : Arr} (hv : y.valid = []) (hd : 4 * ((f : Int) + (n : Int)) ≤ d.length) (h : ∀ j, f ≤ j → j < f + n → Vp.dictAt v d y.len j = true) : Vp.dictOk f n v d y = true := by
 unfold Vp.dictOk
 rw [decide_eq_true hv, decide_eq_true hd, Bool.true_and, Bool.true_and, List.all_eq_true]
 intro j hj
 rw [List.mem_range] at hj
 exact h _ (by omega) (by omega)
set_option maxRecDepth 100000 in
set_option maxHeartbeats 6400000 in
theorem arrDict_calls (ns : List Tp.Nd) (T g o : Nat) (l : Int) (f n : Nat) (v e d : Vp.Txt) (ks : List Arr) (k vv : Value) (i : Nat) (W : World) (ih : ∀ a ∈ ks, MayOK ns (SizeOf.sizeOf a + 1))
  (hm : Tp.may ns = true) (hi : i < ns.length) (hfn : f + n ≤ 64) (hv1 : v.length ≤ 4096) (hv2 : v ≠ [] → ((f : Int) + (n : Int) + 7) / 8 ≤ v.length) (hd : d.length ≤ 4096) (hT : W.cell? ⟨T, 0, none⟩ = some vv) (hTl : T < W.heap.size)
  (ha : CellA W g o l f n v e d k) (hg : g < W.heap.size) (hk : KidsAt W ks k) (hn : NodesAt W vv ns) :
  Calls Tryz.prog 83 #[.pointer (some ⟨T, 0, none⟩), .int .i64 (i : Int), .pointer (some ⟨g, o, none⟩)] W fun x w' => x = .returned (.bool (Vp.oneOk ns i e ks && (Vp.mayAll ns ks [i] && Vp.dictOk f n v d (Vp.kid0 ks)))) ∧ Below W.heap.size W w' := by
 have HONE := Lib.hid (one_calls ns T g o l f n v e d ks k vv i W ih hm hi hT hTl ha hg hk hn)
 have HA := Lib.hid ha
 have HK := Lib.hid hk
 have HX := Lib.hid (show (Vp.oneOk ns i e ks && (Vp.mayAll ns ks [i] && Vp.dictOk f n v d (Vp.kid0 ks))) = ((Vp.oneOk ns i e ks && Vp.mayAll ns ks [i]) && Vp.dictOk f n v d (Vp.kid0 ks)) from (Bool.and_assoc _ _ _).symm)
 have hz5 := mk_size d
 clear ih hT ha hk hn
 go_enter Tryz.func83, Tryz.ntmps83
 go_wp2_with (fail)
 refine HONE.out.mono ?_; rintro x w3 ⟨p, rfl, hp, hb3⟩
 obtain ⟨x0, x1, x2, x3, x4, x5, x6⟩ := HA.out.below hb3 hg
 simp only [tv] at x3 x4 x5
 cases hB : (Vp.oneOk ns i e ks && Vp.mayAll ns ks [i]) with
 | false =>
  rw [hB, Bool.false_and] at HX
  clear hp hB
  go_wp2
  go_quiet (fail)
  go_wp2
  go_ret
  exact ⟨ret_bool HX.out.symm, below_drewN hb3 _⟩
 | true =>
  rw [hB, Bool.true_and] at HX
  rw [hB] at hp
  obtain ⟨kb, ko, c, rfl, rfl⟩ := hp rfl
  have hkl : ks.length = 1 := by
   have h := HK.out
   rw [KidsAt] at h
   obtain ⟨a', c', hv', _⟩ := h
   exact (Value.slice.inj hv').2.1.symm
  obtain ⟨y, rfl⟩ := List.length_eq_one_iff.1 hkl
  obtain ⟨kb', ko', kx, he', hkb, hy, _⟩ := kid_open (KidsAt.below hb3 _ _ HK.out)
  obtain ⟨rfl, rfl, _⟩ := Addr.mk.inj (Option.some.inj he')
  have HY := Lib.hid hy
  obtain ⟨_, _, y2, y3, _⟩ := hy
  simp only [tv] at y3
  have HX2 := Lib.hid (show (Vp.oneOk ns i e [y] && (Vp.mayAll ns [y] [i] && Vp.dictOk f n v d (Vp.kid0 [y]))) = Vp.dictOk f n v d y from HX.out)
  have HA3 := Lib.hid (HA.out.below hb3 hg)
  have hg3 := Nat.lt_of_lt_of_le hg hb3.size
  have HB3 := hb3
  clear hkl he' hB HONE HX HA HK hp hb3
  generalize hyv : y.valid = yv at y3
  generalize hyn : y.len = yn at y2
  have HYV := Lib.hid hyv
  have HYN := Lib.hid hyn
  clear hyv hyn
  by_cases hv0 : yv = []
  ·subst hv0
   by_cases h4 : (d.length : Int) < 4 * ((f : Int) + (n : Int))
   ·have d4 : decide ((d.length : Int) < 4 * ((f : Int) + (n : Int))) = true := decide_eq_true h4
    have HU := Lib.hid (show Vp.dictOk f n v d y = false by
     unfold Vp.dictOk
     rw [decide_eq_false (show ¬ (4 * ((f : Int) + (n : Int)) ≤ (d.length : Int)) by omega)]
     simp)
    go_wp2
    go_quiet (fail)
    go_wp2
    go_ret
    exact ⟨ret_bool (by rw [HX2.out, HU.out]), below_drewN HB3 _⟩
   ·have d4 : decide ((d.length : Int) < 4 * ((f : Int) + (n : Int))) = false := decide_eq_false h4
    go_wp2
    go_quiet (fail)
    go_wp2
    clear x0 x1 x2 x3 x4 x5 x6 y2 y3
    go_loopw [9, 10, 11] (fun ix _ _ wr => ∃ r : Nat, f ≤ r ∧ r ≤ f + n ∧ ix = .int .i64 (r : Int) ∧ (∀ j, f ≤ j → j < r → Vp.dictAt v d yn j = true) ∧ Below w3.heap.size w3 wr) (fun ix _ _ _ => f + n - (intOf ix).toNat)
    case atStart => exact ⟨f, Nat.le_refl _, by omega, rfl, fun j h1 h2 => absurd h1 (by omega), below_drewN (Below.refl _ _) _⟩
    case round =>
     obtain ⟨r, hr0, hr1, rfl, hall, hbr⟩ := hrel
     have HALL := Lib.hid hall
     clear hall
     obtain ⟨x0, x1, x2, x3, x4, x5, x6⟩ := HA3.out.below hbr hg3
     simp only [tv] at x3 x4 x5
     have y2 := (HY.out.below hbr hkb).2.2.1
     rw [HYN.out] at y2
     by_cases hlt : r < f + n
     ·have hlti : (r : Int) < (f : Int) + (n : Int) := by omega
      have dlt : decide ((r : Int) < (f : Int) + (n : Int)) = true := decide_eq_true hlti
      have HNU := Lib.hid (fun W => number4_calls d r W (by omega) (by omega))
      have HTH := Lib.hid (fun (w' : World) (h : Below wr.heap.size wr w') => There_calls g o l (f : Int) (n : Int) v e d _ r w' (HA3.out.below (below_then hbr h) hg3) (fun hv => by have := hv2 hv; omega) (by omega))
      have HAT := Lib.hid (show Vp.dictAt v d yn r = !(Vp.on v r && (!(Vp.num4 d r).2 || decide (yn ≤ (Vp.num4 d r).1))) from rfl)
      have HNO := Lib.hid (fun h => dict_no (v := v) (d := d) (y := y) hr0 hlt (by rw [HYN.out]; exact h))
      obtain ⟨X, b, hXb⟩ : ∃ X b, Vp.num4 d r = (X, b) := ⟨_, _, rfl⟩
      rw [hXb] at HNU HAT
      clear hXb
      obtain ⟨on, hon⟩ : ∃ on, Vp.on v r = on := ⟨_, rfl⟩
      rw [hon] at HTH HAT
      clear hon
      cases on with
      | false =>
       rw [Bool.false_and, Bool.not_false] at HAT
       go_upto_region 5 with (fail)
       go_quiet (fail)
       go_wp2_with (first
        | (go_at_call 114; refine (HNU.out _).mono ?_; rintro x w' ⟨rfl, rfl⟩)
        | (go_at_call 115; refine (HTH.out _ (below_drewN (Below.refl _ _) _)).mono ?_; rintro x w' ⟨rfl, rfl⟩))
       refine ⟨⟨r + 1, by omega, by omega, by go_num, fun j h0 h1 => ?_, below_drewN hbr _⟩, by simp [intOf]; omega⟩
       by_cases hj : j = r
       ·rw [hj]; exact HAT.out
       ·exact HALL.out j h0 (by omega)
      | true =>
       rw [Bool.true_and] at HAT
       cases b with
       | false =>
        rw [Bool.not_false, Bool.true_or, Bool.not_true] at HAT
        go_upto_region 5 with (fail)
        go_quiet (fail)
        go_wp2_with (first
         | (go_at_call 114; refine (HNU.out _).mono ?_; rintro x w' ⟨rfl, rfl⟩)
         | (go_at_call 115; refine (HTH.out _ (below_drewN (Below.refl _ _) _)).mono ?_; rintro x w' ⟨rfl, rfl⟩))
        go_ret
        exact ⟨ret_bool (by rw [HX2.out, HNO.out HAT.out]), HB3.trans ((below_drewN hbr _).mono HB3.size)⟩
       | true =>
        rw [Bool.not_true, Bool.false_or] at HAT
        by_cases hge : yn ≤ X
        ·rw [decide_eq_true hge, Bool.not_true] at HAT
         go_upto_region 5 with (fail)
         go_quiet (fail)
         go_wp2_with (first
          | (go_at_call 114; refine (HNU.out _).mono ?_; rintro x w' ⟨rfl, rfl⟩)
          | (go_at_call 115; refine (HTH.out _ (below_drewN (Below.refl _ _) _)).mono ?_; rintro x w' ⟨rfl, rfl⟩))
         go_ret
         exact ⟨ret_bool (by rw [HX2.out, HNO.out HAT.out]), HB3.trans ((below_drewN hbr _).mono HB3.size)⟩
        ·rw [decide_eq_false hge, Bool.not_false] at HAT
         have hlt2 : X < yn := by omega
         go_upto_region 5 with (fail)
         go_quiet (fail)
         go_wp2_with (first
          | (go_at_call 114; refine (HNU.out _).mono ?_; rintro x w' ⟨rfl, rfl⟩)
          | (go_at_call 115; refine (HTH.out _ (below_drewN (Below.refl _ _) _)).mono ?_; rintro x w' ⟨rfl, rfl⟩))
         refine ⟨⟨r + 1, by omega, by omega, by go_num, fun j h0 h1 => ?_, below_drewN hbr _⟩, by simp [intOf]; omega⟩
         by_cases hj : j = r
         ·rw [hj]; exact HAT.out
         ·exact HALL.out j h0 (by omega)
     ·obtain rfl : r = f + n := by omega
      have hnlt : ¬ ((f + n : Nat) : Int) < (f : Int) + (n : Int) := by omega
      have dlt : decide (((f + n : Nat) : Int) < (f : Int) + (n : Int)) = false := decide_eq_false hnlt
      have HU := Lib.hid (dict_yes (v := v) (d := d) HYV.out (by omega) (by rw [HYN.out]; exact HALL.out))
      go_upto_region 5 with (fail)
      go_quiet (fail)
      go_wp2
      go_ret
      exact ⟨ret_bool (by rw [HX2.out, HU.out]), HB3.trans ((below_drewN hbr _).mono HB3.size)⟩
  ·have hiv := no_empty hv0
   have HU := Lib.hid (show Vp.dictOk f n v d y = false by
    unfold Vp.dictOk
    rw [HYV.out, decide_eq_false hv0, Bool.false_and])
   go_wp2
   go_quiet (fail)
   go_wp2
   go_ret
   exact ⟨ret_bool (by rw [HX2.out, HU.out]), below_drewN HB3 _⟩
end Go.Proofs.YtobhjlchpnpleaaGreatDoor
