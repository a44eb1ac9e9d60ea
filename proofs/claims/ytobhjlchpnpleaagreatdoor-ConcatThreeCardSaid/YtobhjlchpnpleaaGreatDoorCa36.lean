/- The reference's ArrayMay, walked: arrays of a struct. -/
import Derived.Test.YtobhjlchpnpleaaGreatDoorCa13
import Derived.Test.YtobhjlchpnpleaaGreatDoorCa19
import Derived.Test.YtobhjlchpnpleaaGreatDoorCa2
namespace Go.Proofs.YtobhjlchpnpleaaGreatDoor
open Go.RowKit
set_option linter.unusedVariables false
set_option linter.unusedSimpArgs false

set_option maxRecDepth 100000 in
set_option maxHeartbeats 6400000 in
theorem plainMay_struct (ns : List Tp.Nd) (l : Int) (f n : Nat) (v e d : Vp.Txt) (ks : List Arr) (k vv : Value) (i : Nat) (W : World) (ih : ∀ a ∈ ks, RefMayOK ns (SizeOf.sizeOf a + 1))
  (hm : Tp.may ns = true) (hi : i < ns.length) (hfn : f + n ≤ 64) (he : e.length ≤ 4096) (hd : d.length ≤ 4096) (hk : KidsAt W ks k) (hn : NodesAt W vv ns) (hkk : Tp.kindOf ns i = 4) :
  Calls Tryz.prog 48 #[typeV vv, .int .i64 (i : Int), arrV l (f : Int) (n : Int) v e d k, .int .i64 ((f : Int) + (n : Int))] W fun x w' => x = .returned (.bool (plainX ns i f n e d ks)) ∧ Below W.heap.size W w' := by
 have hbk := below_alloc (below_alloc (Below.refl W.heap.size W) (.cells #[vv] 24)) (.cells #[.int .i64 l, .int .i64 (f : Int), .int .i64 (n : Int), .string ⟨v.toArray⟩, .string ⟨e.toArray⟩, .string ⟨d.toArray⟩, k] 27)
 have hnd : Tp.node ns (i : Int) = true := (Vp.node_of ns i).2 ⟨hm, hi⟩
 have hn2 := hn.below hbk
 have hk2 := KidsAt.below hbk _ _ hk
 have C4 := (Below.heap_alloc (W.alloc (.cells #[vv] 24)) (.cells #[.int .i64 l, .int .i64 (f : Int), .int .i64 (n : Int), .string ⟨v.toArray⟩, .string ⟨e.toArray⟩, .string ⟨d.toArray⟩, k] 27) W.heap.size (by simp)).trans (heap_alloc_new W (.cells #[vv] 24))
 have C6 := heap_alloc_new (W.alloc (.cells #[vv] 24)) (.cells #[.int .i64 l, .int .i64 (f : Int), .int .i64 (n : Int), .string ⟨v.toArray⟩, .string ⟨e.toArray⟩, .string ⟨d.toArray⟩, k] 27)
 rw [show (W.alloc (.cells #[vv] 24)).heap.size = W.heap.size + 1 by simp] at C6
 obtain ⟨W2, hW2⟩ : ∃ W2, (W.alloc (.cells #[vv] 24)).alloc (.cells #[.int .i64 l, .int .i64 (f : Int), .int .i64 (n : Int), .string ⟨v.toArray⟩, .string ⟨e.toArray⟩, .string ⟨d.toArray⟩, k] 27) = W2 := ⟨_, rfl⟩
 rw [hW2] at hbk hn2 hk2 C4 C6
 rw [KidsAt] at hk
 obtain ⟨ka, kc, rfl, hkc1, hkc2, _⟩ := hk
 have q4 := cell_of_one C4
 have HN := Lib.hid hn2
 have HK := Lib.hid hk2
 have HB := Lib.hid hbk
 clear hn hn2 hk2 hbk
 go_enter Tryz.func48, Tryz.ntmps48
 go_wp2_with (fail)
 refine (refKids_calls _ ns i _ HN.out hnd).mono ?_; rintro x w3 ⟨kr, rfl, hko, hb3⟩
 have C4' := (hb3.block _ (lt_of_block C4)).trans C4
 have C6' := (hb3.block _ (lt_of_block C6)).trans C6
 have HN3 := Lib.hid (HN.out.below hb3)
 have HK3 := Lib.hid (KidsAt.below hb3 _ _ HK.out)
 have HB3 := HB.out.trans (hb3.mono HB.out.size)
 obtain ⟨kra, krc, rfl⟩ := own_slice hko
 have HKO := Lib.hid hko
 clear q4 hko hb3 HN HK HB C4 C6 hW2
 have hp4 := cell_of_one C4'
 obtain ⟨x0, x1, x2, x3, x4, x5, x6, _⟩ := zero_cells C6'
 obtain ⟨bk, o, c, rfl, hc1, hc2, hbk, g0, g2⟩ := nodes_open HN3.out hi
 have hkr := Vp.may_kind ns hm i hi
 have hii : (i : Int) < (ns.length : Int) := by omega
 have HL := Lib.hid (fun h => Vp.leaf_kids hm hi h)
 have HX := Lib.hid (show plainX ns i f n e d ks = (decide (ks.length = (Tp.kids ns i).length) && (Vp.mayAll ns ks (Tp.kids ns i) && Vp.plainOk ns i f n e d ks)) from rfl)
 rw [plainK_eq] at HX
 clear g2
 have hkd : ∃ kd, Tp.kindOf ns i = kd := ⟨_, rfl⟩
 obtain ⟨kd, hkd⟩ := hkd
 rw [hkd] at g0 hkr HL HX
 unfold maxLen at hc2 hkc2
 have hz := mk_size d
 obtain rfl : kd = 4 := hkd.symm.trans hkk
 obtain ⟨zs, hzs⟩ : ∃ zs, Tp.kids ns (i : Int) = zs := ⟨_, rfl⟩
 have hzlt : ∀ z ∈ zs, i < z ∧ z < ns.length := fun z hz => Vp.kids_gt ns hm i z (by rw [hzs]; exact hz)
 rw [hzs] at HX HKO
 rw [hzs]
 clear hzs HL
 have HX3 := Below.refl w3.heap.size w3
 by_cases hd0 : d = []
 ·subst hd0
  by_cases he0 : e = []
  ·subst he0
   by_cases hl1 : ks.length = zs.length
   ·have hln : ((ks.length : Int) != (zs.length : Int)) = false := by rw [hl1]; simp
    have HLEN := Lib.hid hl1
    obtain ⟨kra', krc', hslr, hkcap, hmr, hkr⟩ := own_nats HKO.out
    obtain ⟨rfl, _, rfl⟩ := Value.slice.inj hslr
    unfold maxLen at hmr
    have HKR := Lib.hid hkr
    have HKQ := Lib.hid (kids_open HK3.out)
    clear hkr hslr hl1
    go_upto_region 13 with (fail)
    go_wp2_with (fail)
    go_loopw [11] (fun ix wr => ∃ q : Nat, q ≤ zs.length ∧ ix = .int .i64 (q : Int) ∧ (∀ j, j < q → Vp.mayA ns (ks.getD j Arr.none) (zs.getD j 0) = true ∧ (f : Int) + (n : Int) ≤ (ks.getD j Arr.none).len) ∧ Below w3.heap.size w3 wr) (fun ix _ => zs.length - (intOf ix).toNat)
    case atStart => exact ⟨0, Nat.zero_le _, rfl, fun j h => absurd h (Nat.not_lt_zero _), Below.refl _ _⟩
    case round =>
     obtain ⟨q, hq, rfl, hall, HX3⟩ := hrel
     have HA := Lib.hid hall
     clear hall x0 x1 x2 x3 x4 x5 x6 hp4 g0
     by_cases hlt : q < zs.length
     ·have hqi : (q : Int) < (zs.length : Int) := by omega
      have hlk : q < ks.length := by have := HLEN.out; omega
      have hlki : (q : Int) < (ks.length : Int) := by omega
      obtain ⟨krb, kro, rfl, hkrb, hkr⟩ := HKR.out (by intro h; rw [h] at hlt; exact Nat.not_lt_zero _ hlt)
      obtain ⟨kb, ko, rfl, hkb, hkc⟩ := HKQ.out (by intro h; rw [h] at hlk; exact Nat.not_lt_zero _ hlk)
      have hz := List.getElem?_eq_getElem hlt
      have hx := List.getElem?_eq_getElem hlk
      have hzd : zs.getD q 0 = zs[q] := by rw [List.getD_eq_getElem?_getD, hz]; rfl
      have hxd : ks.getD q Arr.none = ks[q] := by rw [List.getD_eq_getElem?_getD, hx]; rfl
      have hxm : ks[q] ∈ ks := List.getElem_mem hlk
      have p0 := hkr q _ hz
      generalize zs[q] = z0 at hz hzd p0
      generalize ks[q] = x at hx hxd hxm
      obtain ⟨xl, xf, xn, xv, xe, xd, xs⟩ := x
      obtain ⟨q0, q1, q2, q3, q4, q5, kx, q6, hkx⟩ := CellsAt.at ks ko q _ _ _ _ _ _ _ hkc hx
      obtain ⟨kxa, kxc, rfl, _⟩ := (by rw [KidsAt] at hkx; exact hkx : ∃ a c, kx = .slice a xs.length c ∧ _)
      simp only [tv] at q3 q4 q5
      have HS := Lib.hid (show ∀ w', Below w3.heap.size w3 w' → (fun w' => (w'.cell? ⟨W.heap.size + 1, 0, none⟩ = some (.int .i64 l) ∧ w'.cell? ⟨W.heap.size + 1, 1, none⟩ = some (.int .i64 (f : Int)) ∧ w'.cell? ⟨W.heap.size + 1, 2, none⟩ = some (.int .i64 (n : Int)) ∧ w'.cell? ⟨W.heap.size + 1, 3, none⟩ = some (.string ⟨v.toArray⟩) ∧ w'.cell? ⟨W.heap.size + 1, 4, none⟩ = some (.string ⟨#[]⟩) ∧ w'.cell? ⟨W.heap.size + 1, 5, none⟩ = some (.string ⟨#[]⟩) ∧ w'.cell? ⟨W.heap.size + 1, 6, none⟩ = some (.slice (some ⟨kb, ko, none⟩) ks.length kc)) ∧ w'.cell? ⟨W.heap.size, 0, none⟩ = some (.slice (some ⟨bk, o, none⟩) ns.length c) ∧ w'.cell? ⟨krb, kro + q, none⟩ = some (.int .i64 (z0 : Int)) ∧ (w'.cell? ⟨kb, ko + q * 7, none⟩ = some (.int .i64 xl) ∧ w'.cell? ⟨kb, ko + q * 7 + 1, none⟩ = some (.int .i64 xf) ∧ w'.cell? ⟨kb, ko + q * 7 + 2, none⟩ = some (.int .i64 xn) ∧ w'.cell? ⟨kb, ko + q * 7 + 3, none⟩ = some (.string ⟨xv.toArray⟩) ∧ w'.cell? ⟨kb, ko + q * 7 + 4, none⟩ = some (.string ⟨xe.toArray⟩) ∧ w'.cell? ⟨kb, ko + q * 7 + 5, none⟩ = some (.string ⟨xd.toArray⟩) ∧ w'.cell? ⟨kb, ko + q * 7 + 6, none⟩ = some (.slice kxa xs.length kxc)) ∧ Below w3.heap.size w3 w') w' from fun w' h => ⟨(box7 C6' h).1, (h.cell (p := ⟨W.heap.size, 0, none⟩) (lt_of_block C4')).trans (cell_of_one C4'), (h.cell (p := ⟨krb, _, none⟩) hkrb).trans p0,
       ⟨(h.cell (p := ⟨kb, _, none⟩) hkb).trans q0, (h.cell (p := ⟨kb, _, none⟩) hkb).trans q1, (h.cell (p := ⟨kb, _, none⟩) hkb).trans q2, (h.cell (p := ⟨kb, _, none⟩) hkb).trans q3, (h.cell (p := ⟨kb, _, none⟩) hkb).trans q4, (h.cell (p := ⟨kb, _, none⟩) hkb).trans q5, (h.cell (p := ⟨kb, _, none⟩) hkb).trans q6⟩, h⟩)
      have HIH := Lib.hid (fun w' (h : Below w3.heap.size w3 w') => ih (.mk xl xf xn xv xe xd xs) hxm (.mk xl xf xn xv xe xd xs) (z0 : Int) (arrV xl xf xn xv xe xd (.slice kxa xs.length kxc)) (.slice (some ⟨bk, o, none⟩) ns.length c) w' (Nat.lt_succ_self _) ⟨_, rfl, KidsAt.below h _ _ hkx⟩ (HN3.out.below h))
      have HMX := Lib.hid (mayX_nat ns (.mk xl xf xn xv xe xd xs) z0)
      have HZD := Lib.hid hzd
      have HXD := Lib.hid hxd
      clear hkr hkc hz hx hzd hxd hxm p0 q0 q1 q2 q3 q4 q5 q6 hkx
      cases hmx : mayX ns (.mk xl xf xn xv xe xd xs) (z0 : Int) with
      | false =>
       rw [hmx] at HIH HMX
       clear hmx
       have HNO := Lib.hid (show plainX ns i (f : Int) (n : Int) [] [] ks = false by
        rw [HX.out]
        have : Vp.mayAll ns ks zs = false := by
         rw [Bool.eq_false_iff]
         intro h
         have := (Vp.mayAll_iff ns ks zs HLEN.out).1 h q hlt
         rw [HZD.out, HXD.out, ← HMX.out] at this
         exact absurd this (by decide)
        rw [this]
        simp)
       go_upto_region 16 with (fail)
       refine wp_region_held_drew (S := (fun w' => (w'.cell? ⟨W.heap.size + 1, 0, none⟩ = some (.int .i64 l) ∧ w'.cell? ⟨W.heap.size + 1, 1, none⟩ = some (.int .i64 (f : Int)) ∧ w'.cell? ⟨W.heap.size + 1, 2, none⟩ = some (.int .i64 (n : Int)) ∧ w'.cell? ⟨W.heap.size + 1, 3, none⟩ = some (.string ⟨v.toArray⟩) ∧ w'.cell? ⟨W.heap.size + 1, 4, none⟩ = some (.string ⟨#[]⟩) ∧ w'.cell? ⟨W.heap.size + 1, 5, none⟩ = some (.string ⟨#[]⟩) ∧ w'.cell? ⟨W.heap.size + 1, 6, none⟩ = some (.slice (some ⟨kb, ko, none⟩) ks.length kc)) ∧ w'.cell? ⟨W.heap.size, 0, none⟩ = some (.slice (some ⟨bk, o, none⟩) ns.length c) ∧ w'.cell? ⟨krb, kro + q, none⟩ = some (.int .i64 (z0 : Int)) ∧ (w'.cell? ⟨kb, ko + q * 7, none⟩ = some (.int .i64 xl) ∧ w'.cell? ⟨kb, ko + q * 7 + 1, none⟩ = some (.int .i64 xf) ∧ w'.cell? ⟨kb, ko + q * 7 + 2, none⟩ = some (.int .i64 xn) ∧ w'.cell? ⟨kb, ko + q * 7 + 3, none⟩ = some (.string ⟨xv.toArray⟩) ∧ w'.cell? ⟨kb, ko + q * 7 + 4, none⟩ = some (.string ⟨xe.toArray⟩) ∧ w'.cell? ⟨kb, ko + q * 7 + 5, none⟩ = some (.string ⟨xd.toArray⟩) ∧ w'.cell? ⟨kb, ko + q * 7 + 6, none⟩ = some (.slice kxa xs.length kxc)) ∧ Below w3.heap.size w3 w')) (by kernel_rfl) (HS.out _ (below_drew HX3)) (fun hHeld => ?_)
       refine tk 0 (v := ?_) rfl (fun _ _ _ h => h) (Or.inl ⟨by rfl, ?_⟩) (by assumption) ?_; rotate_left; focus (intro w hSw; (try dsimp only at hSw); go_simp; try with_reducible rfl)
       (try simp only [sx])
       refine tk 1 (v := ?_) rfl (fun _ _ _ h => h) (Or.inl ⟨by rfl, ?_⟩) (by assumption) ?_; rotate_left; focus (intro w hSw; (try dsimp only at hSw); go_simp; try with_reducible rfl)
       (try simp only [sx])
       refine tk 2 (v := ?_) rfl (fun _ _ _ h => h) (Or.inl ⟨by rfl, ?_⟩) (by assumption) ?_; rotate_left; focus (intro w hSw; (try dsimp only at hSw); go_simp; try with_reducible rfl)
       (try simp only [sx])
       refine tk 3 (v := ?_) rfl (fun _ _ _ h => h) (Or.inl ⟨by rfl, ?_⟩) (by assumption) ?_; rotate_left; focus (intro w hSw; (try dsimp only at hSw); go_simp; try with_reducible rfl)
       (try simp only [sx])
       refine tk 4 (v := ?_) rfl (fun _ _ _ h => h) (Or.inl ⟨by rfl, ?_⟩) (by assumption) ?_; rotate_left; focus (intro w hSw; (try dsimp only at hSw); go_simp; try with_reducible rfl)
       (try simp only [sx])
       refine tk 5 (v := ?_) rfl (fun _ _ _ h => h) (Or.inl ⟨by rfl, ?_⟩) (by assumption) ?_; rotate_left; focus (intro w hSw; (try dsimp only at hSw); go_simp; try with_reducible rfl)
       (try simp only [sx])
       refine tk 6 (v := ?_) rfl (fun _ _ _ h => h) (Or.inl ⟨by rfl, ?_⟩) (by assumption) ?_; rotate_left; focus (intro w hSw; (try dsimp only at hSw); go_simp; try with_reducible rfl)
       (try simp only [sx])
       refine tk 7 (v := ?_) rfl (fun _ _ _ h => h) (Or.inl ⟨by rfl, ?_⟩) (by assumption) ?_; rotate_left; focus (intro w hSw; (try dsimp only at hSw); go_simp; try with_reducible rfl)
       (try simp only [sx])
       refine tk 8 (v := ?_) rfl (fun _ _ _ h => h) (Or.inl ⟨by rfl, ?_⟩) (by assumption) ?_; rotate_left; focus (intro w hSw; (try dsimp only at hSw); go_simp; try with_reducible rfl)
       (try simp only [sx])
       refine tk 9 (v := ?_) rfl (fun _ _ _ h => h) (Or.inl ⟨by rfl, ?_⟩) (by assumption) ?_; rotate_left; focus (intro w hSw; (try dsimp only at hSw); go_simp; try with_reducible rfl)
       (try simp only [sx])
       refine wpAnyH_ready (rs := [10]) (by kernel_rfl) (by simp) ?_
       refine AllReadyH.cons rfl (fun K hK => ?_) AllReadyH.nil
       go_simp
       go_at_call 26; refine (HIH.out _ hHeld.2.2.2.2).mono ?_; rintro e w4 ⟨rfl, hb4⟩; have HX4 := below_then hHeld.2.2.2.2 hb4
       clear hHeld
       refine hK.out _ _ (HS.out _ HX4) (fun hHeld => ?_)
       clear hK K
       (try simp only [sx])
       refine tk 11 (v := ?_) rfl (fun _ _ _ h => h) (Or.inl ⟨by rfl, ?_⟩) (by assumption) ?_; rotate_left; focus (intro w hSw; (try dsimp only at hSw); go_simp; try with_reducible rfl)
       (try simp only [sx])
       refine tk 12 (v := ?_) rfl (fun _ _ _ h => h) (Or.inl ⟨by rfl, ?_⟩) (by assumption) ?_; rotate_left; focus (intro w hSw; (try dsimp only at hSw); go_simp; try with_reducible rfl)
       (try simp only [sx])
       refine tk 13 (v := undef) rfl (fun _ _ _ h => h) (Or.inr ⟨by rfl, rfl⟩) (by assumption) ?_
       (try simp only [sx])
       refine tk 14 (v := undef) rfl (fun _ _ _ h => h) (Or.inr ⟨by rfl, rfl⟩) (by assumption) ?_
       (try simp only [sx])
       refine tk 15 (v := undef) rfl (fun _ _ _ h => h) (Or.inr ⟨by rfl, rfl⟩) (by assumption) ?_
       (try simp only [sx])
       refine tk 16 (v := undef) rfl (fun _ _ _ h => h) (Or.inr ⟨by rfl, rfl⟩) (by assumption) ?_
       (try simp only [sx])
       refine tk 17 (v := undef) rfl (fun _ _ _ h => h) (Or.inr ⟨by rfl, rfl⟩) (by assumption) ?_
       (try simp only [sx])
       refine tk 18 (v := undef) rfl (fun _ _ _ h => h) (Or.inr ⟨by rfl, rfl⟩) (by assumption) ?_
       (try simp only [sx])
       refine tk 19 (v := undef) rfl (fun _ _ _ h => h) (Or.inr ⟨by rfl, rfl⟩) (by assumption) ?_
       (try simp only [sx])
       refine tk 20 (v := undef) rfl (fun _ _ _ h => h) (Or.inr ⟨by rfl, rfl⟩) (by assumption) ?_
       (try simp only [sx])
       refine tk 21 (v := ?_) rfl (fun _ _ _ h => h) (Or.inl ⟨by rfl, ?_⟩) (by assumption) ?_; rotate_left; focus (intro w hSw; (try dsimp only at hSw); go_simp; try with_reducible rfl)
       (try simp only [sx])
       refine wpAnyH_done (by kernel_rfl) ?_ _
       go_wp2
       go_ret
       exact ⟨ret_bool HNO.out.symm, HB3.trans (HX4.mono HB3.size)⟩
      | true =>
       rw [hmx] at HIH HMX
       clear hmx
       by_cases hxn : xn < (f : Int) + (n : Int)
       ·have hxd : decide (xn < (f : Int) + (n : Int)) = true := decide_eq_true hxn
        have HNO := Lib.hid (show plainX ns i (f : Int) (n : Int) [] [] ks = false by
         rw [HX.out]
         have : plainK 4 (f : Int) (n : Int) [] [] ks = false := by
          show (true && (true && ks.all fun k => decide ((f : Int) + (n : Int) ≤ k.len))) = false
          rw [Bool.true_and, Bool.true_and, Bool.eq_false_iff]
          intro h
          have hm2 : Arr.mk xl xf xn xv xe xd xs ∈ ks := by rw [← HXD.out, List.getD_eq_getElem?_getD, List.getElem?_eq_getElem hlk]; exact List.getElem_mem hlk
          have := of_decide_eq_true ((List.all_eq_true.1 h) _ hm2)
          have e : (Arr.mk xl xf xn xv xe xd xs).len = xn := rfl
          omega
         rw [this]
         simp)
        go_upto_region 16 with (fail)
        refine wp_region_held_drew (S := (fun w' => (w'.cell? ⟨W.heap.size + 1, 0, none⟩ = some (.int .i64 l) ∧ w'.cell? ⟨W.heap.size + 1, 1, none⟩ = some (.int .i64 (f : Int)) ∧ w'.cell? ⟨W.heap.size + 1, 2, none⟩ = some (.int .i64 (n : Int)) ∧ w'.cell? ⟨W.heap.size + 1, 3, none⟩ = some (.string ⟨v.toArray⟩) ∧ w'.cell? ⟨W.heap.size + 1, 4, none⟩ = some (.string ⟨#[]⟩) ∧ w'.cell? ⟨W.heap.size + 1, 5, none⟩ = some (.string ⟨#[]⟩) ∧ w'.cell? ⟨W.heap.size + 1, 6, none⟩ = some (.slice (some ⟨kb, ko, none⟩) ks.length kc)) ∧ w'.cell? ⟨W.heap.size, 0, none⟩ = some (.slice (some ⟨bk, o, none⟩) ns.length c) ∧ w'.cell? ⟨krb, kro + q, none⟩ = some (.int .i64 (z0 : Int)) ∧ (w'.cell? ⟨kb, ko + q * 7, none⟩ = some (.int .i64 xl) ∧ w'.cell? ⟨kb, ko + q * 7 + 1, none⟩ = some (.int .i64 xf) ∧ w'.cell? ⟨kb, ko + q * 7 + 2, none⟩ = some (.int .i64 xn) ∧ w'.cell? ⟨kb, ko + q * 7 + 3, none⟩ = some (.string ⟨xv.toArray⟩) ∧ w'.cell? ⟨kb, ko + q * 7 + 4, none⟩ = some (.string ⟨xe.toArray⟩) ∧ w'.cell? ⟨kb, ko + q * 7 + 5, none⟩ = some (.string ⟨xd.toArray⟩) ∧ w'.cell? ⟨kb, ko + q * 7 + 6, none⟩ = some (.slice kxa xs.length kxc)) ∧ Below w3.heap.size w3 w')) (by kernel_rfl) (HS.out _ (below_drew HX3)) (fun hHeld => ?_)
        refine tk 0 (v := ?_) rfl (fun _ _ _ h => h) (Or.inl ⟨by rfl, ?_⟩) (by assumption) ?_; rotate_left; focus (intro w hSw; (try dsimp only at hSw); go_simp; try with_reducible rfl)
        (try simp only [sx])
        refine tk 1 (v := ?_) rfl (fun _ _ _ h => h) (Or.inl ⟨by rfl, ?_⟩) (by assumption) ?_; rotate_left; focus (intro w hSw; (try dsimp only at hSw); go_simp; try with_reducible rfl)
        (try simp only [sx])
        refine tk 2 (v := ?_) rfl (fun _ _ _ h => h) (Or.inl ⟨by rfl, ?_⟩) (by assumption) ?_; rotate_left; focus (intro w hSw; (try dsimp only at hSw); go_simp; try with_reducible rfl)
        (try simp only [sx])
        refine tk 3 (v := ?_) rfl (fun _ _ _ h => h) (Or.inl ⟨by rfl, ?_⟩) (by assumption) ?_; rotate_left; focus (intro w hSw; (try dsimp only at hSw); go_simp; try with_reducible rfl)
        (try simp only [sx])
        refine tk 4 (v := ?_) rfl (fun _ _ _ h => h) (Or.inl ⟨by rfl, ?_⟩) (by assumption) ?_; rotate_left; focus (intro w hSw; (try dsimp only at hSw); go_simp; try with_reducible rfl)
        (try simp only [sx])
        refine tk 5 (v := ?_) rfl (fun _ _ _ h => h) (Or.inl ⟨by rfl, ?_⟩) (by assumption) ?_; rotate_left; focus (intro w hSw; (try dsimp only at hSw); go_simp; try with_reducible rfl)
        (try simp only [sx])
        refine tk 6 (v := ?_) rfl (fun _ _ _ h => h) (Or.inl ⟨by rfl, ?_⟩) (by assumption) ?_; rotate_left; focus (intro w hSw; (try dsimp only at hSw); go_simp; try with_reducible rfl)
        (try simp only [sx])
        refine tk 7 (v := ?_) rfl (fun _ _ _ h => h) (Or.inl ⟨by rfl, ?_⟩) (by assumption) ?_; rotate_left; focus (intro w hSw; (try dsimp only at hSw); go_simp; try with_reducible rfl)
        (try simp only [sx])
        refine tk 8 (v := ?_) rfl (fun _ _ _ h => h) (Or.inl ⟨by rfl, ?_⟩) (by assumption) ?_; rotate_left; focus (intro w hSw; (try dsimp only at hSw); go_simp; try with_reducible rfl)
        (try simp only [sx])
        refine tk 9 (v := ?_) rfl (fun _ _ _ h => h) (Or.inl ⟨by rfl, ?_⟩) (by assumption) ?_; rotate_left; focus (intro w hSw; (try dsimp only at hSw); go_simp; try with_reducible rfl)
        (try simp only [sx])
        refine wpAnyH_ready (rs := [10]) (by kernel_rfl) (by simp) ?_
        refine AllReadyH.cons rfl (fun K hK => ?_) AllReadyH.nil
        go_simp
        go_at_call 26; refine (HIH.out _ hHeld.2.2.2.2).mono ?_; rintro e w4 ⟨rfl, hb4⟩; have HX4 := below_then hHeld.2.2.2.2 hb4
        clear hHeld
        refine hK.out _ _ (HS.out _ HX4) (fun hHeld => ?_)
        clear hK K
        (try simp only [sx])
        refine tk 11 (v := ?_) rfl (fun _ _ _ h => h) (Or.inl ⟨by rfl, ?_⟩) (by assumption) ?_; rotate_left; focus (intro w hSw; (try dsimp only at hSw); go_simp; try with_reducible rfl)
        (try simp only [sx])
        refine tk 12 (v := ?_) rfl (fun _ _ _ h => h) (Or.inl ⟨by rfl, ?_⟩) (by assumption) ?_; rotate_left; focus (intro w hSw; (try dsimp only at hSw); go_simp; try with_reducible rfl)
        (try simp only [sx])
        refine tk 13 (v := ?_) rfl (fun _ _ _ h => h) (Or.inl ⟨by rfl, ?_⟩) (by assumption) ?_; rotate_left; focus (intro w hSw; (try dsimp only at hSw); go_simp; try with_reducible rfl)
        (try simp only [sx])
        refine tk 14 (v := ?_) rfl (fun _ _ _ h => h) (Or.inl ⟨by rfl, ?_⟩) (by assumption) ?_; rotate_left; focus (intro w hSw; (try dsimp only at hSw); go_simp; try with_reducible rfl)
        (try simp only [sx])
        refine tk 15 (v := ?_) rfl (fun _ _ _ h => h) (Or.inl ⟨by rfl, ?_⟩) (by assumption) ?_; rotate_left; focus (intro w hSw; (try dsimp only at hSw); go_simp; try with_reducible rfl)
        (try simp only [sx])
        refine tk 16 (v := ?_) rfl (fun _ _ _ h => h) (Or.inl ⟨by rfl, ?_⟩) (by assumption) ?_; rotate_left; focus (intro w hSw; (try dsimp only at hSw); go_simp; try with_reducible rfl)
        (try simp only [sx])
        refine tk 17 (v := ?_) rfl (fun _ _ _ h => h) (Or.inl ⟨by rfl, ?_⟩) (by assumption) ?_; rotate_left; focus (intro w hSw; (try dsimp only at hSw); go_simp; try with_reducible rfl)
        (try simp only [sx])
        refine tk 18 (v := ?_) rfl (fun _ _ _ h => h) (Or.inl ⟨by rfl, ?_⟩) (by assumption) ?_; rotate_left; focus (intro w hSw; (try dsimp only at hSw); go_simp; try with_reducible rfl)
        (try simp only [sx])
        refine tk 19 (v := ?_) rfl (fun _ _ _ h => h) (Or.inl ⟨by rfl, ?_⟩) (by assumption) ?_; rotate_left; focus (intro w hSw; (try dsimp only at hSw); go_simp; try with_reducible rfl)
        (try simp only [sx])
        refine tk 20 (v := ?_) rfl (fun _ _ _ h => h) (Or.inl ⟨by rfl, ?_⟩) (by assumption) ?_; rotate_left; focus (intro w hSw; (try dsimp only at hSw); go_simp; try with_reducible rfl)
        (try simp only [sx])
        refine tk 21 (v := ?_) rfl (fun _ _ _ h => h) (Or.inl ⟨by rfl, ?_⟩) (by assumption) ?_; rotate_left; focus (intro w hSw; (try dsimp only at hSw); go_simp; try with_reducible rfl)
        (try simp only [sx])
        refine wpAnyH_done (by kernel_rfl) ?_ _
        go_wp2
        go_ret
        exact ⟨ret_bool HNO.out.symm, HB3.trans (HX4.mono HB3.size)⟩
       ·have hxd : decide (xn < (f : Int) + (n : Int)) = false := decide_eq_false hxn
        go_upto_region 16 with (fail)
        refine wp_region_held_drew (S := (fun w' => (w'.cell? ⟨W.heap.size + 1, 0, none⟩ = some (.int .i64 l) ∧ w'.cell? ⟨W.heap.size + 1, 1, none⟩ = some (.int .i64 (f : Int)) ∧ w'.cell? ⟨W.heap.size + 1, 2, none⟩ = some (.int .i64 (n : Int)) ∧ w'.cell? ⟨W.heap.size + 1, 3, none⟩ = some (.string ⟨v.toArray⟩) ∧ w'.cell? ⟨W.heap.size + 1, 4, none⟩ = some (.string ⟨#[]⟩) ∧ w'.cell? ⟨W.heap.size + 1, 5, none⟩ = some (.string ⟨#[]⟩) ∧ w'.cell? ⟨W.heap.size + 1, 6, none⟩ = some (.slice (some ⟨kb, ko, none⟩) ks.length kc)) ∧ w'.cell? ⟨W.heap.size, 0, none⟩ = some (.slice (some ⟨bk, o, none⟩) ns.length c) ∧ w'.cell? ⟨krb, kro + q, none⟩ = some (.int .i64 (z0 : Int)) ∧ (w'.cell? ⟨kb, ko + q * 7, none⟩ = some (.int .i64 xl) ∧ w'.cell? ⟨kb, ko + q * 7 + 1, none⟩ = some (.int .i64 xf) ∧ w'.cell? ⟨kb, ko + q * 7 + 2, none⟩ = some (.int .i64 xn) ∧ w'.cell? ⟨kb, ko + q * 7 + 3, none⟩ = some (.string ⟨xv.toArray⟩) ∧ w'.cell? ⟨kb, ko + q * 7 + 4, none⟩ = some (.string ⟨xe.toArray⟩) ∧ w'.cell? ⟨kb, ko + q * 7 + 5, none⟩ = some (.string ⟨xd.toArray⟩) ∧ w'.cell? ⟨kb, ko + q * 7 + 6, none⟩ = some (.slice kxa xs.length kxc)) ∧ Below w3.heap.size w3 w')) (by kernel_rfl) (HS.out _ (below_drew HX3)) (fun hHeld => ?_)
        refine tk 0 (v := ?_) rfl (fun _ _ _ h => h) (Or.inl ⟨by rfl, ?_⟩) (by assumption) ?_; rotate_left; focus (intro w hSw; (try dsimp only at hSw); go_simp; try with_reducible rfl)
        (try simp only [sx])
        refine tk 1 (v := ?_) rfl (fun _ _ _ h => h) (Or.inl ⟨by rfl, ?_⟩) (by assumption) ?_; rotate_left; focus (intro w hSw; (try dsimp only at hSw); go_simp; try with_reducible rfl)
        (try simp only [sx])
        refine tk 2 (v := ?_) rfl (fun _ _ _ h => h) (Or.inl ⟨by rfl, ?_⟩) (by assumption) ?_; rotate_left; focus (intro w hSw; (try dsimp only at hSw); go_simp; try with_reducible rfl)
        (try simp only [sx])
        refine tk 3 (v := ?_) rfl (fun _ _ _ h => h) (Or.inl ⟨by rfl, ?_⟩) (by assumption) ?_; rotate_left; focus (intro w hSw; (try dsimp only at hSw); go_simp; try with_reducible rfl)
        (try simp only [sx])
        refine tk 4 (v := ?_) rfl (fun _ _ _ h => h) (Or.inl ⟨by rfl, ?_⟩) (by assumption) ?_; rotate_left; focus (intro w hSw; (try dsimp only at hSw); go_simp; try with_reducible rfl)
        (try simp only [sx])
        refine tk 5 (v := ?_) rfl (fun _ _ _ h => h) (Or.inl ⟨by rfl, ?_⟩) (by assumption) ?_; rotate_left; focus (intro w hSw; (try dsimp only at hSw); go_simp; try with_reducible rfl)
        (try simp only [sx])
        refine tk 6 (v := ?_) rfl (fun _ _ _ h => h) (Or.inl ⟨by rfl, ?_⟩) (by assumption) ?_; rotate_left; focus (intro w hSw; (try dsimp only at hSw); go_simp; try with_reducible rfl)
        (try simp only [sx])
        refine tk 7 (v := ?_) rfl (fun _ _ _ h => h) (Or.inl ⟨by rfl, ?_⟩) (by assumption) ?_; rotate_left; focus (intro w hSw; (try dsimp only at hSw); go_simp; try with_reducible rfl)
        (try simp only [sx])
        refine tk 8 (v := ?_) rfl (fun _ _ _ h => h) (Or.inl ⟨by rfl, ?_⟩) (by assumption) ?_; rotate_left; focus (intro w hSw; (try dsimp only at hSw); go_simp; try with_reducible rfl)
        (try simp only [sx])
        refine tk 9 (v := ?_) rfl (fun _ _ _ h => h) (Or.inl ⟨by rfl, ?_⟩) (by assumption) ?_; rotate_left; focus (intro w hSw; (try dsimp only at hSw); go_simp; try with_reducible rfl)
        (try simp only [sx])
        refine wpAnyH_ready (rs := [10]) (by kernel_rfl) (by simp) ?_
        refine AllReadyH.cons rfl (fun K hK => ?_) AllReadyH.nil
        go_simp
        go_at_call 26; refine (HIH.out _ hHeld.2.2.2.2).mono ?_; rintro e w4 ⟨rfl, hb4⟩; have HX4 := below_then hHeld.2.2.2.2 hb4
        clear hHeld
        refine hK.out _ _ (HS.out _ HX4) (fun hHeld => ?_)
        clear hK K
        (try simp only [sx])
        refine tk 11 (v := ?_) rfl (fun _ _ _ h => h) (Or.inl ⟨by rfl, ?_⟩) (by assumption) ?_; rotate_left; focus (intro w hSw; (try dsimp only at hSw); go_simp; try with_reducible rfl)
        (try simp only [sx])
        refine tk 12 (v := ?_) rfl (fun _ _ _ h => h) (Or.inl ⟨by rfl, ?_⟩) (by assumption) ?_; rotate_left; focus (intro w hSw; (try dsimp only at hSw); go_simp; try with_reducible rfl)
        (try simp only [sx])
        refine tk 13 (v := ?_) rfl (fun _ _ _ h => h) (Or.inl ⟨by rfl, ?_⟩) (by assumption) ?_; rotate_left; focus (intro w hSw; (try dsimp only at hSw); go_simp; try with_reducible rfl)
        (try simp only [sx])
        refine tk 14 (v := ?_) rfl (fun _ _ _ h => h) (Or.inl ⟨by rfl, ?_⟩) (by assumption) ?_; rotate_left; focus (intro w hSw; (try dsimp only at hSw); go_simp; try with_reducible rfl)
        (try simp only [sx])
        refine tk 15 (v := ?_) rfl (fun _ _ _ h => h) (Or.inl ⟨by rfl, ?_⟩) (by assumption) ?_; rotate_left; focus (intro w hSw; (try dsimp only at hSw); go_simp; try with_reducible rfl)
        (try simp only [sx])
        refine tk 16 (v := ?_) rfl (fun _ _ _ h => h) (Or.inl ⟨by rfl, ?_⟩) (by assumption) ?_; rotate_left; focus (intro w hSw; (try dsimp only at hSw); go_simp; try with_reducible rfl)
        (try simp only [sx])
        refine tk 17 (v := ?_) rfl (fun _ _ _ h => h) (Or.inl ⟨by rfl, ?_⟩) (by assumption) ?_; rotate_left; focus (intro w hSw; (try dsimp only at hSw); go_simp; try with_reducible rfl)
        (try simp only [sx])
        refine tk 18 (v := ?_) rfl (fun _ _ _ h => h) (Or.inl ⟨by rfl, ?_⟩) (by assumption) ?_; rotate_left; focus (intro w hSw; (try dsimp only at hSw); go_simp; try with_reducible rfl)
        (try simp only [sx])
        refine tk 19 (v := ?_) rfl (fun _ _ _ h => h) (Or.inl ⟨by rfl, ?_⟩) (by assumption) ?_; rotate_left; focus (intro w hSw; (try dsimp only at hSw); go_simp; try with_reducible rfl)
        (try simp only [sx])
        refine tk 20 (v := ?_) rfl (fun _ _ _ h => h) (Or.inl ⟨by rfl, ?_⟩) (by assumption) ?_; rotate_left; focus (intro w hSw; (try dsimp only at hSw); go_simp; try with_reducible rfl)
        (try simp only [sx])
        refine tk 21 (v := ?_) rfl (fun _ _ _ h => h) (Or.inl ⟨by rfl, ?_⟩) (by assumption) ?_; rotate_left; focus (intro w hSw; (try dsimp only at hSw); go_simp; try with_reducible rfl)
        (try simp only [sx])
        refine wpAnyH_done (by kernel_rfl) ?_ _
        go_wp2
        refine ⟨⟨q + 1, by omega, by go_num, fun j hj => ?_, HX4⟩, by simp [intOf]; omega⟩
        rcases Nat.lt_or_ge j q with h | h
        ·exact HA.out j h
        ·obtain rfl : j = q := by omega
         rw [HZD.out, HXD.out]
         exact ⟨HMX.out.symm, by show _ ≤ xn; omega⟩
     ·obtain rfl : q = zs.length := by omega
      have HYES := Lib.hid (show plainX ns i (f : Int) (n : Int) [] [] ks = true by
       rw [HX.out, decide_eq_true HLEN.out, (Vp.mayAll_iff ns ks zs HLEN.out).2 (fun j hj => (HA.out j hj).1), Bool.true_and, Bool.true_and]
       show (true && (true && ks.all fun k => decide ((f : Int) + (n : Int) ≤ k.len))) = true
       rw [Bool.true_and, Bool.true_and, List.all_eq_true]
       intro k hk
       obtain ⟨j, hj, rfl⟩ := List.getElem_of_mem hk
       have := (HA.out j (by have := HLEN.out; omega)).2
       rw [List.getD_eq_getElem?_getD, List.getElem?_eq_getElem hj] at this
       exact decide_eq_true this)
      go_wp2
      go_ret
      exact ⟨ret_bool HYES.out.symm, HB3.trans (HX3.mono HB3.size)⟩
   ·have hln : ((ks.length : Int) != (zs.length : Int)) = true := by rw [bne_iff_ne]; omega
    go_wp2_with (fail)
    go_ret
    exact ⟨ret_bool (by rw [HX.out, decide_eq_false hl1, Bool.false_and]), HB3⟩
  ·have hi0 := no_empty he0
   go_wp2_with (fail)
   go_ret
   exact ⟨ret_bool (by rw [HX.out]; unfold plainK; rw [decide_eq_false he0]; simp), HB3⟩
 ·have hi0 := no_empty hd0
  go_wp2_with (fail)
  go_ret
  exact ⟨ret_bool (by rw [HX.out]; unfold plainK; rw [decide_eq_false hd0]; simp), HB3⟩
end Go.Proofs.YtobhjlchpnpleaaGreatDoor
