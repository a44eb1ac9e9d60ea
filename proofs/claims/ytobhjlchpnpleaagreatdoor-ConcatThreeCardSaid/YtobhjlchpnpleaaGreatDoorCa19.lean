/- Several texts in one: RefArr, RefArrB, RefBldA. -/
import Derived.Test.YtobhjlchpnpleaaGreatDoorCa13
import Derived.Test.YtobhjlchpnpleaaGreatDoorCa18
import Derived.Test.YtobhjlchpnpleaaGreatDoorCa1
import Derived.Test.YtobhjlchpnpleaaGreatDoorCa7
import Derived.BigQuiet
import Derived.Deep.CutBlock
import Derived.Test.YtobhjlchpnpleaaGreatDoorCa12
import Derived.Deep.DeepCutAuto
import Derived.Deep.RegionHeld3
import Derived.Test.YtobhjlchpnpleaaGreatDoorCa15
import Derived.Test.YtobhjlchpnpleaaGreatDoorCa10
import Derived.Test.YtobhjlchpnpleaaGreatDoorCa2
/- The reference's ArrayMay, walked: its ends, what is bare, what is there. -/
namespace Go.Proofs.YtobhjlchpnpleaaGreatDoor
open Go.RowKit
set_option linter.unusedVariables false
set_option linter.unusedSimpArgs false

set_option maxHeartbeats 1600000 in
theorem mayEnds_calls (l : Vp.Txt) (rows f ap : Nat) (most : Int) (W : World) (hl : l.length ≤ 140737488351232) (hr : rows ≤ 65536) (hf : f ≤ 65536) (ha : ap ≤ 2147483647) :
  Calls Tryz.prog 79 #[.string ⟨l.toArray⟩, .int .i64 (rows : Int), .int .i64 (f : Int), .int .i64 most, .int .i64 (ap : Int)] W fun e w' => e = .returned (.bool (Vp.endsOk l rows most f ap)) ∧ Below W.heap.size W w' := by
 go_enter Tryz.func79, Tryz.ntmps79
 go_wp2
 go_loopw [11, 12, 13, 14] (fun was i x e wr => ∃ k : Nat, k ≤ rows + 1 ∧ i = .int .i64 (k : Int) ∧ was = .int .i64 (Vp.runEnd l k) ∧ (∀ j, j < k → Vp.endOk l most f ap j = true) ∧ Below W.heap.size W wr) (fun _ i _ _ _ => rows + 1 - (intOf i).toNat)
 case atStart => exact ⟨0, Nat.zero_le _, rfl, rfl, fun j h => absurd h (Nat.not_lt_zero _), Below.refl _ _⟩
 case round =>
  obtain ⟨k, hk, rfl, rfl, hall, hb⟩ := hrel
  have HA := Lib.hid hall
  clear hall
  by_cases hlt : k ≤ rows
  ·have hi : (k : Int) ≤ (rows : Int) := by omega
   have hwr : 0 ≤ Vp.runEnd l k ∧ Vp.runEnd l k ≤ 2147483647 := by
    unfold Vp.runEnd
    split
    ·constructor <;> decide
    ·exact num4_rng _ _
   have hxr := num4_rng l k
   have HG := Lib.hid (fun W => getNum4_calls l k W hl (by omega))
   have hnx : Vp.runEnd l (k + 1) = (Vp.num4 l k).1 := by unfold Vp.runEnd; rw [if_neg (by omega), Nat.add_sub_cancel]
   have hnr : num4R l k = ((Vp.num4 l k).1, if (Vp.num4 l k).2 then 0 else 300) := rfl
   have HE := Lib.hid (fun x b h => endOk_eq l most f ap k x _ b h rfl)
   have HNX := Lib.hid hnx
   clear hnx
   obtain ⟨x, b, hxb⟩ : ∃ x b, Vp.num4 l k = (x, b) := ⟨_, _, rfl⟩
   rw [hxb] at HNX hxr hnr
   have he := HE.out x b hxb (hxr.1)
   generalize hws : Vp.runEnd l k = was at he hwr
   have HX := Lib.hid he
   clear he hws hxb HE
   simp only at hnr HNX hxr
   rw [hnr] at HG
   clear hnr
   cases b with
   | false =>
    rw [if_neg (by decide)] at HG
    go_wp2_with (go_at_call 50; refine (HG.out _).mono ?_; rintro e w' ⟨rfl, rfl⟩)
    go_ret
    exact ⟨ret_bool (ends_no hlt HX.out).symm, hb⟩
   | true =>
    rw [if_pos rfl] at HG
    by_cases c1 : was ≤ x
    ·by_cases c2 : x ≤ most
     ·by_cases c3 : k ≤ f
      ·have d3 : (k : Int) ≤ (f : Int) := by omega
       rw [decide_eq_true c1, decide_eq_true c2, decide_eq_true c3] at HX
       clear c3
       go_wp2_with (go_at_call 50; refine (HG.out _).mono ?_; rintro e w' ⟨rfl, rfl⟩)
       refine ⟨⟨k + 1, by omega, by go_num, by rw [HNX.out], fun j hj => ?_, hb⟩, by simp [intOf]; omega⟩
       rcases Nat.lt_or_ge j k with h | h
       ·exact HA.out j h
       ·obtain rfl : j = k := by omega
        exact HX.out
      ·have d3 : decide ((k : Int) ≤ (f : Int)) = false := decide_eq_false (by omega)
       have d3' : decide ((f : Int) < (k : Int)) = true := decide_eq_true (by omega)
       by_cases c4 : x - was ≤ (ap : Int)
       ·rw [decide_eq_true c1, decide_eq_true c2, decide_eq_false c3, decide_eq_true c4] at HX
        go_wp2_with (go_at_call 50; refine (HG.out _).mono ?_; rintro e w' ⟨rfl, rfl⟩)
        refine ⟨⟨k + 1, by omega, by go_num, by rw [HNX.out], fun j hj => ?_, hb⟩, by simp [intOf]; omega⟩
        rcases Nat.lt_or_ge j k with h | h
        ·exact HA.out j h
        ·obtain rfl : j = k := by omega
         exact HX.out
       ·have d4 : decide (x - was ≤ (ap : Int)) = false := decide_eq_false c4
        rw [decide_eq_true c1, decide_eq_true c2, decide_eq_false c3, decide_eq_false c4] at HX
        go_wp2_with (go_at_call 50; refine (HG.out _).mono ?_; rintro e w' ⟨rfl, rfl⟩)
        go_ret
        exact ⟨ret_bool (ends_no hlt HX.out).symm, hb⟩
     ·have d2 : decide (x ≤ most) = false := decide_eq_false c2
      rw [decide_eq_true c1, decide_eq_false c2] at HX
      go_wp2_with (go_at_call 50; refine (HG.out _).mono ?_; rintro e w' ⟨rfl, rfl⟩)
      go_ret
      exact ⟨ret_bool (ends_no hlt HX.out).symm, hb⟩
    ·have d1 : decide (was ≤ x) = false := decide_eq_false c1
     rw [decide_eq_false c1] at HX
     go_wp2_with (go_at_call 50; refine (HG.out _).mono ?_; rintro e w' ⟨rfl, rfl⟩)
     go_ret
     exact ⟨ret_bool (ends_no hlt HX.out).symm, hb⟩
  ·obtain rfl : k = rows + 1 := by omega
   go_wp2
   go_ret
   exact ⟨ret_bool (ends_yes HA.out).symm, hb⟩
theorem bare_calls (l f n : Int) (v e d : Vp.Txt) (ks : List Arr) (k : Value) (W : World) (hk : KidsAt W ks k) :
  Calls Tryz.prog 78 #[arrV l f n v e d k] W fun x w' => x = .returned (.bool (decide (e = []) && decide (ks = []))) ∧ Below W.heap.size W w' := by
 have hb := below_alloc (Below.refl W.heap.size W) (.cells #[.int .i64 l, .int .i64 f, .int .i64 n, .string ⟨v.toArray⟩, .string ⟨e.toArray⟩, .string ⟨d.toArray⟩, k] 27)
 rw [KidsAt] at hk
 obtain ⟨a, c, rfl, _, _, _⟩ := hk
 by_cases he : e = []
 ·subst he
  have hkk : decide (ks = []) = ((ks.length : Int) == 0) := by
   cases ks with
   | nil => rfl
   | cons x r => rw [decide_eq_false (by simp)]; symm; rw [beq_eq_false_iff_ne]; simp; omega
  go_enter Tryz.func78, Tryz.ntmps78
  go_wp2
  go_ret
  exact ⟨ret_bool (by rw [hkk]; rfl), hb⟩
 ·have hi := no_empty he
  go_enter Tryz.func78, Tryz.ntmps78
  go_wp2
  go_ret
  exact ⟨ret_bool (by rw [decide_eq_false he]; rfl), hb⟩
theorem there_calls (l f n : Int) (v e d : Vp.Txt) (k : Value) (row : Nat) (W : World) (hv : v ≠ [] → row < 8 * v.length) (hvl : v.length ≤ 65536) (hk : ∃ a m c, k = .slice a m c) :
  Calls Tryz.prog 51 #[arrV l f n v e d k, .int .i64 (row : Int)] W fun x w' => x = .returned (.bool (Vp.on v row)) ∧ Below W.heap.size W w' := by
 have hb := below_alloc (Below.refl W.heap.size W) (.cells #[.int .i64 l, .int .i64 f, .int .i64 n, .string ⟨v.toArray⟩, .string ⟨e.toArray⟩, .string ⟨d.toArray⟩, k] 27)
 obtain ⟨a, m, c, rfl⟩ := hk
 have hz := mk_size v
 by_cases he : v = []
 ·subst he
  go_enter Tryz.func51, Tryz.ntmps51
  go_wp2
  go_ret
  exact ⟨ret_bool rfl, hb⟩
 ·have hi := no_empty he
  have hr := hv he
  have HR := Lib.hid (fun W => refBit_calls ⟨v.toArray⟩ (row : Int) W (by omega) (by omega) (by omega))
  rw [Int.toNat_natCast] at HR
  have HU := Lib.hid (show Vp.on v row = Bt.bit v row by unfold Vp.on; rw [decide_eq_false he, Bool.false_or])
  go_enter Tryz.func51, Tryz.ntmps51
  go_wp2_with (go_at_call 66; refine (HR.out _).mono ?_; rintro e w' ⟨rfl, rfl⟩)
  go_ret
  exact ⟨ret_bool (by rw [HU.out]), hb⟩
end Go.Proofs.YtobhjlchpnpleaaGreatDoor

/- The reference's ArrayMay, walked: arrays of LayoutPlain. -/
namespace Go.Proofs.YtobhjlchpnpleaaGreatDoor
open Go.RowKit
set_option linter.unusedVariables false
set_option linter.unusedSimpArgs false

def RefMayOK (ns : List Tp.Nd) (N : Nat) : Prop := ∀ (a : Arr) (x : Int) (u vv : Value) (W : World), SizeOf.sizeOf a < N → ArrAt W a u → NodesAt W vv ns →
 Calls Tryz.prog 26 #[typeV vv, .int .i64 x, u] W fun e w' => e = .returned (.bool (mayX ns a x)) ∧ Below W.heap.size W w'
set_option maxRecDepth 100000 in
set_option maxHeartbeats 6400000 in
theorem plainMay_leaf (ns : List Tp.Nd) (l : Int) (f n : Nat) (v e d : Vp.Txt) (ks : List Arr) (k vv : Value) (i : Nat) (W : World) (ih : ∀ a ∈ ks, RefMayOK ns (SizeOf.sizeOf a + 1))
  (hm : Tp.may ns = true) (hi : i < ns.length) (hfn : f + n ≤ 64) (he : e.length ≤ 4096) (hd : d.length ≤ 4096) (hk : KidsAt W ks k) (hn : NodesAt W vv ns) (hkk : Tp.kindOf ns i ≤ 2) :
  Calls Tryz.prog 48 #[typeV vv, .int .i64 (i : Int), arrV l (f : Int) (n : Int) v e d k, .int .i64 ((f : Int) + (n : Int))] W fun x w' => x = .returned (.bool (plainX ns i f n e d ks)) ∧ Below W.heap.size W w' := by
 have hbk := below_alloc (below_alloc (Below.refl W.heap.size W) (.cells #[vv] 24)) (.cells #[.int .i64 l, .int .i64 (f : Int), .int .i64 (n : Int), .string ⟨v.toArray⟩, .string ⟨e.toArray⟩, .string ⟨d.toArray⟩, k] 27)
 have hnd : Tp.node ns (i : Int) = true := (Vp.node_of ns i).2 ⟨hm, hi⟩
 have hn2 := hn.below hbk
 have hk2 := KidsAt.below hbk _ _ hk
 have C4 := (Below.heap_alloc (W.alloc (.cells #[vv] 24)) (.cells #[.int .i64 l, .int .i64 (f : Int), .int .i64 (n : Int), .string ⟨v.toArray⟩, .string ⟨e.toArray⟩, .string ⟨d.toArray⟩, k] 27) W.heap.size (by simp)).trans (heap_alloc_new W (.cells #[vv] 24))
 have C6 := heap_alloc_new (W.alloc (.cells #[vv] 24)) (.cells #[.int .i64 l, .int .i64 (f : Int), .int .i64 (n : Int), .string ⟨v.toArray⟩, .string ⟨e.toArray⟩, .string ⟨d.toArray⟩, k] 27)
 rw [show (W.alloc (.cells #[vv] 24)).heap.size = W.heap.size + 1 by simp] at C6
 obtain ⟨W2, hW2⟩ : ∃ W2, (W.alloc (.cells #[vv] 24)).alloc (.cells #[.int .i64 l, .int .i64 (f : Int), .int .i64 (n : Int), .string ⟨v.toArray⟩, .string ⟨e.toArray⟩, .string ⟨d.toArray⟩, k] 27) = W2 := ⟨_, rfl⟩
 rw [hW2] at hbk hn2 hk2 C4 C6
 rw [KidsAt] at hk
 obtain ⟨ka, kc, rfl, hkc1, hkc2, _⟩ := hk
 have q4 := cell_of_one C4
 have HN := Lib.hid hn2
 have HK := Lib.hid hk2
 have HB := Lib.hid hbk
 clear hn hn2 hk2 hbk
 go_enter Tryz.func48, Tryz.ntmps48
 go_wp2_with (fail)
 refine (refKids_calls _ ns i _ HN.out hnd).mono ?_; rintro x w3 ⟨kr, rfl, hko, hb3⟩
 have C4' := (hb3.block _ (lt_of_block C4)).trans C4
 have C6' := (hb3.block _ (lt_of_block C6)).trans C6
 have HN3 := Lib.hid (HN.out.below hb3)
 have HK3 := Lib.hid (KidsAt.below hb3 _ _ HK.out)
 have HB3 := HB.out.trans (hb3.mono HB.out.size)
 obtain ⟨kra, krc, rfl⟩ := own_slice hko
 have HKO := Lib.hid hko
 clear q4 hko hb3 HN HK HB C4 C6 hW2
 have hp4 := cell_of_one C4'
 obtain ⟨x0, x1, x2, x3, x4, x5, x6, _⟩ := zero_cells C6'
 obtain ⟨bk, o, c, rfl, hc1, hc2, hbk, g0, g2⟩ := nodes_open HN3.out hi
 have hkr := Vp.may_kind ns hm i hi
 have hii : (i : Int) < (ns.length : Int) := by omega
 have HL := Lib.hid (fun h => Vp.leaf_kids hm hi h)
 have HX := Lib.hid (show plainX ns i f n e d ks = (decide (ks.length = (Tp.kids ns i).length) && (Vp.mayAll ns ks (Tp.kids ns i) && Vp.plainOk ns i f n e d ks)) from rfl)
 rw [plainK_eq] at HX
 clear g2
 have hkd : ∃ kd, Tp.kindOf ns i = kd := ⟨_, rfl⟩
 obtain ⟨kd, hkd⟩ := hkd
 rw [hkd] at g0 hkr HL HX
 unfold maxLen at hc2 hkc2
 have hz := mk_size d
 rw [hkd] at hkk
 by_cases k0 : kd = 0
 ·subst k0
  have hks0 : Tp.kids ns (i : Int) = [] := List.eq_nil_of_length_eq_zero (HL.out (by decide))
  have HP := Lib.hid (plainX_leaf ns i f n e d ks hks0)
  rw [hkd] at HP
  clear HX HL
  have HBR := Lib.hid (fun w' (h : Below w3.heap.size w3 w') => bare_calls l (f : Int) (n : Int) v e d ks (.slice ka ks.length kc) w' (KidsAt.below h _ _ HK3.out))
  by_cases hb : e = [] ∧ ks = []
  ·obtain ⟨rfl, rfl⟩ := hb
   go_wp2_with (go_at_call 78; refine (HBR.out _ (by repeat (first | exact Below.refl _ _ | apply below_drewN | apply below_drew))).mono ?_; rintro e w4 ⟨rfl, hb4⟩; have HB4 := below_then (by repeat (first | exact HB3 | apply below_drewN | apply below_drew)) hb4; have C6'' := (hb4.block _ (lt_of_block C6')).trans C6'; obtain ⟨y0, y1, y2, y3, y4, y5, y6, _⟩ := zero_cells C6'')
   go_ret
   exact ⟨ret_bool (by rw [HP.out]; unfold plainK; simp), HB4⟩
  ·have hbf : (decide (e = []) && decide (ks = [])) = false := by
    rw [Bool.and_eq_false_iff, decide_eq_false_iff_not, decide_eq_false_iff_not]; by_cases h : e = []; exact .inr (fun h2 => hb ⟨h, h2⟩); exact .inl h
   rw [hbf] at HBR
   have hpf : plainX ns i f n e d ks = false := by
    rw [HP.out]
    rcases (Bool.and_eq_false_iff.1 hbf) with h | h
    ·unfold plainK
     rw [h]
     simp
    ·rw [h, Bool.false_and]
   go_wp2_with (go_at_call 78; refine (HBR.out _ (by repeat (first | exact Below.refl _ _ | apply below_drewN | apply below_drew))).mono ?_; rintro e w4 ⟨rfl, hb4⟩; have HB4 := below_then (by repeat (first | exact HB3 | apply below_drewN | apply below_drew)) hb4; have C6'' := (hb4.block _ (lt_of_block C6')).trans C6'; obtain ⟨y0, y1, y2, y3, y4, y5, y6, _⟩ := zero_cells C6'')
   go_ret
   exact ⟨ret_bool hpf.symm, HB4⟩
 by_cases k1 : kd = 1
 ·subst k1
  have hks0 : Tp.kids ns (i : Int) = [] := List.eq_nil_of_length_eq_zero (HL.out (by decide))
  have HP := Lib.hid (plainX_leaf ns i f n e d ks hks0)
  rw [hkd] at HP
  clear HX HL
  have HBR := Lib.hid (fun w' (h : Below w3.heap.size w3 w') => bare_calls l (f : Int) (n : Int) v e d ks (.slice ka ks.length kc) w' (KidsAt.below h _ _ HK3.out))
  have HX3 := Below.refl w3.heap.size w3
  by_cases hb : e = [] ∧ ks = []
  ·obtain ⟨rfl, rfl⟩ := hb
   go_upto_region 6 with (fail)
   first
   | (go_region_held3 (fun w' => (w'.cell? ⟨W.heap.size + 1, 0, none⟩ = some (.int .i64 l) ∧ w'.cell? ⟨W.heap.size + 1, 1, none⟩ = some (.int .i64 (f : Int)) ∧ w'.cell? ⟨W.heap.size + 1, 2, none⟩ = some (.int .i64 (n : Int)) ∧ w'.cell? ⟨W.heap.size + 1, 3, none⟩ = some (.string ⟨v.toArray⟩) ∧ w'.cell? ⟨W.heap.size + 1, 4, none⟩ = some (.string ⟨#[]⟩) ∧ w'.cell? ⟨W.heap.size + 1, 5, none⟩ = some (.string ⟨d.toArray⟩) ∧ w'.cell? ⟨W.heap.size + 1, 6, none⟩ = some (.slice ka 0 kc)) ∧ Below w3.heap.size w3 w')
    (first | exact box7 C6' (by repeat (first | exact HX3 | apply below_drewN | apply below_drew)) | (go_split_ands; (refine ⟨⟨?_, ?_, ?_, ?_, ?_, ?_, ?_⟩, ?_⟩ <;> assumption)))
    (first | (go_at_call 78; refine (HBR.out _ (by repeat (first | exact HX3 | apply below_drewN | apply below_drew))).mono ?_; rintro e w4 ⟨rfl, hb4⟩; have HX4 := below_then (by repeat (first | exact HX3 | apply below_drewN | apply below_drew)) hb4; clear hb4 HX3; have HX3 := HX4; clear HX4; obtain ⟨⟨y0, y1, y2, y3, y4, y5, y6⟩, _⟩ := box7 C6' HX3) | (go_at_call 47; refine (refBytes_calls _ _ (by omega) (by omega)).mono ?_; rintro e w' ⟨rfl, rfl⟩)))
   | fail
   all_goals
    go_wp2
    go_ret
    exact ⟨ret_bool (by rw [HP.out]; unfold plainK; simp), HB3.trans (HX3.mono HB3.size)⟩
  ·have hbf : (decide (e = []) && decide (ks = [])) = false := by
    rw [Bool.and_eq_false_iff, decide_eq_false_iff_not, decide_eq_false_iff_not]; by_cases h : e = []; exact .inr (fun h2 => hb ⟨h, h2⟩); exact .inl h
   rw [hbf] at HBR
   have hpf : plainX ns i f n e d ks = false := by
    rw [HP.out]
    rcases (Bool.and_eq_false_iff.1 hbf) with h | h
    ·unfold plainK
     rw [h]
     simp
    ·rw [h, Bool.false_and]
   go_upto_region 6 with (fail)
   first
   | (go_region_with (first | (go_at_call 78; refine (HBR.out _ (by repeat (first | exact HX3 | apply below_drewN | apply below_drew))).mono ?_; rintro e w4 ⟨rfl, hb4⟩; have HX4 := below_then (by repeat (first | exact HX3 | apply below_drewN | apply below_drew)) hb4; clear hb4 HX3; have HX3 := HX4; clear HX4; obtain ⟨⟨y0, y1, y2, y3, y4, y5, y6⟩, _⟩ := box7 C6' HX3) | (go_at_call 47; refine (refBytes_calls _ _ (by omega) (by omega)).mono ?_; rintro e w' ⟨rfl, rfl⟩)))
   | fail
   all_goals
    go_wp2
    go_ret
    exact ⟨ret_bool hpf.symm, HB3.trans (HX3.mono HB3.size)⟩
 by_cases k2 : kd = 2
 ·subst k2
  have hks0 : Tp.kids ns (i : Int) = [] := List.eq_nil_of_length_eq_zero (HL.out (by decide))
  have HP := Lib.hid (plainX_leaf ns i f n e d ks hks0)
  rw [hkd] at HP
  clear HX HL
  have HME := Lib.hid (fun W => mayEnds_calls e (f + n) f 16 (d.length : Int) W (by omega) (by omega) (by omega) (by decide))
  rw [show ((f + n : Nat) : Int) = (f : Int) + (n : Int) by omega] at HME
  by_cases hb : ks = []
  ·subst hb
   go_wp2_with (go_at_call 79; refine (HME.out _).mono ?_; rintro e w4 ⟨rfl, hb4⟩)
   go_ret
   exact ⟨ret_bool (by rw [HP.out]; unfold plainK; rw [show ((f : Int) + (n : Int)).toNat = f + n by omega]; simp), HB3.trans (hb4.mono HB3.size)⟩
  ·have hl0 : ((ks.length : Int) == 0) = false := by rw [beq_eq_false_iff_ne]; intro h; exact hb (List.eq_nil_of_length_eq_zero (by omega))
   go_wp2_with (fail)
   go_ret
   exact ⟨ret_bool (by rw [HP.out, decide_eq_false hb, Bool.false_and]), HB3⟩
 omega
end Go.Proofs.YtobhjlchpnpleaaGreatDoor

/- The reference's valid and zero, walked. -/
namespace Go.Proofs.YtobhjlchpnpleaaGreatDoor
open Go.RowKit
set_option linter.unusedVariables false
set_option linter.unusedSimpArgs false

theorem all_snocB (vs : List Vp.Txt) (k : Nat) (h : k < vs.length) : ((vs.take (k + 1)).all fun v => decide (v ≠ Vp.nul)) = (((vs.take k).all fun v => decide (v ≠ Vp.nul)) && decide (vs[k] ≠ Vp.nul)) := by
 rw [List.take_succ_eq_append_getElem h, List.all_append, List.all_cons, List.all_nil, Bool.and_true]
set_option maxRecDepth 100000 in
set_option maxHeartbeats 1600000 in
theorem refValid_calls (v : Value) (vs : List Vp.Txt) (W : World) (ht : TextsAt W v vs) (hn : vs.length ≤ 140737488351232) :
  Calls Tryz.prog 72 #[v] W fun e w' => e = .returned (tv (Vp.valid vs)) ∧ Below W.heap.size W w' := by
 obtain ⟨a, c, rfl, hc, hm, h3⟩ := ht
 unfold maxLen at hm
 replace h3 := Lib.hid h3
 have HE := Lib.hid (Vp.valid_eq vs)
 have htl : (Vp.there vs).length = vs.length := by simp [Vp.there]
 go_enter Tryz.func72, Tryz.ntmps72
 go_wp2
 go_loopw [3, 4, 5] (fun u al i wr => ∃ k : Nat, k ≤ vs.length ∧ i = .int .i64 k ∧ al = .bool ((vs.take k).all fun v => decide (v ≠ Vp.nul)) ∧ wr.ownsRow W.heap.size 4 1 u k (bools (Vp.there (vs.take k))) ∧ Below W.heap.size W wr) (fun _ _ i _ => vs.length - (intOf i).toNat)
 case atStart => exact ⟨0, Nat.zero_le _, rfl, rfl, own_nil, Below.refl _ _⟩
 case round =>
  obtain ⟨k, hk, rfl, rfl, hu, hb⟩ := hrel
  replace hu := Lib.hid hu
  by_cases hlt : k < vs.length
  ·obtain ⟨bk, o, rfl, hbk, hcell⟩ := h3.out (by intro e; rw [e] at hlt; exact Nat.not_lt_zero _ hlt)
   have c0 := (hb.cell (p := ⟨bk, o + k, none⟩) hbk).trans (hcell k _ (List.getElem?_eq_getElem hlt))
   have HT := Lib.hid (show bools (Vp.there (vs.take (k + 1))) = bools (Vp.there (vs.take k)) ++ [.bool (decide (vs[k] ≠ Vp.nul))] by
    unfold Vp.there bools
    rw [List.take_succ_eq_append_getElem hlt, List.map_append, List.map_append]; rfl)
   have HA := Lib.hid (all_snocB vs k hlt)
   have hlti : (k : Int) < (vs.length : Int) := by omega
   clear hcell h3
   generalize vs[k] = x at c0 HT HA
   have hx : (!(x == [110])) = decide (x ≠ Vp.nul) := by
    rw [Bool.eq_iff_iff, Bool.not_eq_true', beq_eq_false_iff_ne, decide_eq_true_eq]; rfl
   have hx2 : (x != [110]) = decide (x ≠ Vp.nul) := hx
   generalize decide (x ≠ Vp.nul) = d at hx hx2 HT HA
   generalize ((vs.take k).all fun v => decide (v ≠ Vp.nul)) = al at HA
   have c1 : ∀ w', Below wr.heap.size wr w' → w'.cell? ⟨bk, o + k, none⟩ = some (tv x) := fun w' h => (h.cell (p := ⟨bk, o + k, none⟩) (cell_lt c0)).trans c0
   have C1 := Lib.hid c1
   clear c1
   cases al with
   | true =>
    go_wp2_with (at_builtin; refine wp_app1 rfl _ _ 102 4 rfl W.heap.size 1 (.bool false) Tryz.underlying102 info_boolc rfl _ _ _ rfl rfl rfl hu.out (by omega) (by omega) hb.size ?_; intro v4 w4 ho4 hb4 hg4; have hb9 := hb.trans hb4; have c9 := (hb9.cell (p := ⟨bk, o + k, none⟩) hbk).trans ((hb.cell (p := ⟨bk, o + k, none⟩) hbk).symm.trans c0))
    exact ⟨⟨k + 1, by omega, by go_num, by rw [HA.out]; simp, by rw [HT.out]; exact ho4, hb.trans hb4⟩, by simp [intOf]; omega⟩
   | false =>
    go_wp2_with (at_builtin; refine wp_app1 rfl _ _ 102 4 rfl W.heap.size 1 (.bool false) Tryz.underlying102 info_boolc rfl _ _ _ rfl rfl rfl hu.out (by omega) (by omega) hb.size ?_; intro v4 w4 ho4 hb4 hg4)
    exact ⟨⟨k + 1, by omega, by go_num, by rw [HA.out]; simp, by rw [HT.out]; exact ho4, hb.trans hb4⟩, by simp [intOf]; omega⟩
  ·obtain rfl : k = vs.length := by omega
   have hu2 := hu.out
   rw [List.take_length, ← htl] at hu2
   have HB := Lib.hid (refBitsOf_calls _ _ (Vp.there vs) _ hu2 (by omega))
   obtain ⟨ua, uc, hua⟩ := own_slice hu2
   rw [htl] at hua
   subst hua
   rw [List.take_length]
   cases hcf : (vs.all fun v => decide (v ≠ Vp.nul)) with
   | true =>
    rw [if_pos hcf] at HE
    go_wp2
    go_ret
    exact ⟨by rw [HE.out]; rfl, hb⟩
   | false =>
    rw [if_neg (by rw [hcf]; decide)] at HE
    go_wp2_with (go_at_call 76; refine HB.out.mono ?_; rintro e w' ⟨rfl, hb2⟩)
    go_ret
    exact ⟨by rw [HE.out]; rfl, below_then hb hb2⟩

def RefZeroOK (ns : List Tp.Nd) (n : Nat) : Prop := ∀ (i : Nat) (vv : Value) (W : World), i < ns.length → ns.length - i ≤ n → NodesAt W vv ns →
 Calls Tryz.prog 75 #[typeV vv, .int .i64 (i : Int)] W fun e w' => e = .returned (tv (Vp.zero ns i)) ∧ Below W.heap.size W w'
set_option maxRecDepth 100000 in
set_option maxHeartbeats 3200000 in
theorem refZero_succ (ns : List Tp.Nd) (hm : Tp.may ns = true) (n : Nat) (ih : RefZeroOK ns n) : RefZeroOK ns (n + 1) := by
 intro i vv W hi hin hn
 have hzs := zero_size hm hi
 have HE := Lib.hid (Vp.zero_eq ns hm i hi)
 have hbox : Below W.heap.size W (W.alloc (.cells #[vv] 24)) := (Below.refl _ _).alloc (Nat.le_refl _) _
 have hps : W.heap.size < (W.alloc (.cells #[vv] 24)).heap.size := by simp
 have hpc : (W.alloc (.cells #[vv] 24)).cell? ⟨W.heap.size, 0, none⟩ = some vv := by simp
 have HN := Lib.hid hn
 have hn2 := hn.below hbox
 obtain ⟨bk, o, c, rfl, hc1, hc2, hbk, g0, g2⟩ := nodes_open hn2 hi
 have HBX := Lib.hid hbox
 have HN2 := Lib.hid hn2
 clear hn hn2
 have hii : (i : Int) < (ns.length : Int) := by omega
 have hkind := Vp.may_kind ns hm i hi
 unfold maxLen at hc2
 obtain ⟨z, hz⟩ : ∃ z, Vp.zero ns i = z := ⟨_, rfl⟩
 rw [hz] at HE hzs ⊢
 clear hz
 have q4 := hpc
 cases hnu : Vp.isNull ns i with
 | true =>
  rw [hnu] at g2
  rw [hnu, if_pos rfl] at HE
  go_enter Tryz.func75, Tryz.ntmps75
  go_wp2_with (fail)
  go_ret
  exact ⟨by rw [HE.out]; rfl, HBX.out⟩
 | false =>
  rw [hnu] at g2
  rw [hnu, if_neg (by decide)] at HE
  have hnd := (Vp.node_of ns i).2 ⟨hm, hi⟩
  have HIN := Lib.hid hin
  have HK := Lib.hid (fun w (h : NodesAt w (.slice (some ⟨bk, o, none⟩) ns.length c) ns) => refKids_calls _ ns (i : Int) w h hnd)
  have HG := Lib.hid (fun k (h : k ∈ Tp.kids ns (i : Int)) => Vp.kids_gt ns hm i k h)
  have hkm := Vp.kids_many hm i
  have hl8 := (Vp.may_len ns hm).2
  obtain ⟨kd, hkd⟩ : ∃ kd, Tp.kindOf ns i = kd := ⟨_, rfl⟩
  rw [hkd] at g0 HE hkind
  clear hkd hnu hnd hin
  by_cases k0 : kd = 0
  ·subst k0
   rw [if_pos rfl, show Vp.int 0 = [105, 48, 59] by decide +kernel] at HE
   go_enter Tryz.func75, Tryz.ntmps75
   go_wp2_with (fail)
   go_ret
   exact ⟨by rw [HE.out]; rfl, HBX.out⟩
  by_cases k1 : kd = 1
  ·subst k1
   rw [if_neg (by decide), if_pos rfl] at HE
   go_enter Tryz.func75, Tryz.ntmps75
   go_wp2_with (fail)
   go_ret
   exact ⟨by rw [HE.out]; rfl, HBX.out⟩
  by_cases k2 : kd = 2
  ·subst k2
   rw [if_neg (by decide), if_neg (by decide), if_pos rfl, show Vp.str [] = [115, 48, 58] by decide +kernel] at HE
   go_enter Tryz.func75, Tryz.ntmps75
   go_wp2_with (fail)
   go_ret
   exact ⟨by rw [HE.out]; rfl, HBX.out⟩
  by_cases k3 : kd = 3
  ·subst k3
   rw [if_neg (by decide), if_neg (by decide), if_neg (by decide), if_pos rfl] at HE
   go_enter Tryz.func75, Tryz.ntmps75
   go_wp2_with (fail)
   go_ret
   exact ⟨by rw [HE.out]; rfl, HBX.out⟩
  obtain rfl : kd = 4 := by omega
  rw [if_neg (by decide), if_neg (by decide), if_neg (by decide), if_neg (by decide)] at HE
  have hjl : (Vp.join ((Tp.kids ns (i : Int)).map (Vp.zero ns))).length ≤ 65536 := by
   have := HE.out
   rw [this] at hzs
   simp [Vp.struct] at hzs
   omega
  obtain ⟨ks, hks⟩ : ∃ ks, Tp.kids ns (i : Int) = ks := ⟨_, rfl⟩
  rw [hks] at HE HK HG hkm hjl
  clear hks
  go_enter Tryz.func75, Tryz.ntmps75
  go_wp2_with (fail)
  refine (HK.out _ HN2.out).mono ?_; rintro e w3 ⟨rk, rfl, hko, hb3⟩
  have HB3 := below_then HBX.out hb3
  have hp3 := (hb3.cell (p := ⟨W.heap.size, 0, none⟩) hps).trans hpc
  have HN3 := Lib.hid (HN2.out.below hb3)
  obtain ⟨ra, rc, rfl⟩ := own_slice hko
  have HKO := Lib.hid (own_nats hko)
  clear hko
  go_wp2_with (fail)
  go_loopw [7, 8] (fun vs ix wr => ∃ q : Nat, q ≤ ks.length ∧ ix = .int .i64 (q : Int) ∧ wr.ownsRow w3.heap.size 9 1 vs q (((ks.take q).map (Vp.zero ns)).map tv) ∧ Below w3.heap.size w3 wr) (fun _ ix _ => ks.length - (intOf ix).toNat)
  case atStart => exact ⟨0, Nat.zero_le _, rfl, own_nil, Below.refl _ _⟩
  case round =>
   obtain ⟨q, hq, rfl, hu, HBR⟩ := hrel
   have HO := Lib.hid hu
   have hs4 := HBR.size
   clear hu
   by_cases hlt : q < ks.length
   ·have hqi : (q : Int) < (ks.length : Int) := by omega
    obtain ⟨ra', rc', hsl, _, hmr, hkr⟩ := HKO.out
    obtain ⟨rfl, _, rfl⟩ := Value.slice.inj hsl
    obtain ⟨krb, kro, rfl, hkrb, hkr⟩ := hkr (by intro h; rw [h] at hlt; exact Nat.not_lt_zero _ hlt)
    have p0 := hkr q _ (List.getElem?_eq_getElem hlt)
    have hk := HG.out _ (List.getElem_mem hlt)
    have HT := Lib.hid (show ks.take (q + 1) = ks.take q ++ [ks[q]] from List.take_succ_eq_append_getElem hlt)
    generalize ks[q] = k at p0 hk HT
    have HV := Lib.hid (fun w' (h : Below w3.heap.size w3 w') => ih k _ w' hk.2 (by have := HIN.out; omega) (HN3.out.below h))
    have HS := Lib.hid (show ∀ w', Below w3.heap.size w3 w' → (fun w' => w'.cell? ⟨W.heap.size, 0, none⟩ = some (.slice (some ⟨bk, o, none⟩) ns.length c) ∧ w'.cell? ⟨krb, kro + q, none⟩ = some (.int .i64 (k : Int)) ∧ Below w3.heap.size w3 w') w' from fun w' h => ⟨(h.cell (p := ⟨W.heap.size, 0, none⟩) (by have := hb3.size; simp at this; simp only; omega)).trans hp3, (h.cell (p := ⟨krb, _, none⟩) hkrb).trans p0, h⟩)
    clear hkr p0 hsl hmr hk hp3 q4
    go_upto_region 17 with (fail)
    refine wp_region_held_drew (S := (fun w' => w'.cell? ⟨W.heap.size, 0, none⟩ = some (.slice (some ⟨bk, o, none⟩) ns.length c) ∧ w'.cell? ⟨krb, kro + q, none⟩ = some (.int .i64 (k : Int)) ∧ Below w3.heap.size w3 w')) (by kernel_rfl) (HS.out _ (below_drew HBR)) (fun hHeld => ?_)
    refine tk 0 (v := ?_) rfl (fun _ _ _ h => h) (Or.inl ⟨by rfl, ?_⟩) (by assumption) ?_; rotate_left; focus (intro w hSw; (try dsimp only at hSw); go_simp; try with_reducible rfl)
    (try simp only [sx])
    refine tk 1 (v := ?_) rfl (fun _ _ _ h => h) (Or.inl ⟨by rfl, ?_⟩) (by assumption) ?_; rotate_left; focus (intro w hSw; (try dsimp only at hSw); go_simp; try with_reducible rfl)
    (try simp only [sx])
    refine tk 2 (v := ?_) rfl (fun _ _ _ h => h) (Or.inl ⟨by rfl, ?_⟩) (by assumption) ?_; rotate_left; focus (intro w hSw; (try dsimp only at hSw); go_simp; try with_reducible rfl)
    (try simp only [sx])
    refine tk 3 (v := ?_) rfl (fun _ _ _ h => h) (Or.inl ⟨by rfl, ?_⟩) (by assumption) ?_; rotate_left; focus (intro w hSw; (try dsimp only at hSw); go_simp; try with_reducible rfl)
    (try simp only [sx])
    refine tk 4 (v := ?_) rfl (fun _ _ _ h => h) (Or.inl ⟨by rfl, ?_⟩) (by assumption) ?_; rotate_left; focus (intro w hSw; (try dsimp only at hSw); go_simp; try with_reducible rfl)
    (try simp only [sx])
    refine tk 5 (v := ?_) rfl (fun _ _ _ h => h) (Or.inl ⟨by rfl, ?_⟩) (by assumption) ?_; rotate_left; focus (intro w hSw; (try dsimp only at hSw); go_simp; try with_reducible rfl)
    (try simp only [sx])
    refine wpAnyH_ready (rs := [6]) (by kernel_rfl) (by simp) ?_
    refine AllReadyH.cons rfl (fun K hK => ?_) AllReadyH.nil
    go_simp
    go_at_call 75; refine (HV.out _ hHeld.2.2).mono ?_; rintro y' w6 ⟨rfl, hb6⟩; have HX4 := below_then hHeld.2.2 hb6; have hbw : Below wr.heap.size wr w6 := below_then (below_drew (Below.refl _ _)) hb6
    clear hHeld
    refine hK.out _ _ (HS.out _ HX4) (fun hHeld => ?_)
    clear hK K
    (try simp only [sx])
    refine wpAnyH_ready (rs := [7]) (by kernel_rfl) (by simp) ?_
    refine AllReadyH.cons rfl (fun K hK => ?_) AllReadyH.nil
    go_simp
    clear hHeld
    refine hK.out _ _ (HS.out _ (below_alloc HX4 _)) (fun hHeld => ?_)
    clear hK K
    (try simp only [sx])
    refine wpAnyH_ready (rs := [8]) (by kernel_rfl) (by simp) ?_
    refine AllReadyH.cons rfl (fun K hK => ?_) AllReadyH.nil
    refine step_app (by rfl) _ _ 39 9 (by rfl) w3.heap.size 1 16 (.string ⟨#[]⟩) Tryz.underlying39 info_string rfl (by decide) _ _ _ [tv (Vp.zero ns k)] rfl (by intro y hy; rw [List.mem_singleton.1 hy]; rfl) (by rfl) _ (by rfl) (blk_new _ _) (own_below HO.out (below_alloc hbw _)) (by omega) (by omega) (by have := hbw.size; simp; omega) ?_
    intro g7 cap7 w7 ho7 hb7 hg7
    refine hK.out _ _ (HS.out _ ((below_alloc HX4 _).trans hb7)) (fun hHeld => ?_)
    clear hK K
    (try simp only [sx])
    refine tk 9 (v := ?_) rfl (fun _ _ _ h => h) (Or.inl ⟨by rfl, ?_⟩) (by assumption) ?_; rotate_left; focus (intro w hSw; (try dsimp only at hSw); go_simp; try with_reducible rfl)
    (try simp only [sx])
    refine wpAnyH_done (by kernel_rfl) ?_ _

    go_wp2
    refine ⟨⟨q + 1, by omega, by go_num, ?_, HBR.trans (((below_alloc hbw _).mono HBR.size).trans hb7)⟩, by simp [intOf]; omega⟩
    rw [HT.out, List.map_append, List.map_append, List.map_cons, List.map_nil, List.map_cons, List.map_nil]
    exact ho7
   ·obtain rfl : q = ks.length := by omega
    have hz := HO.out
    rw [List.take_length] at hz
    go_wp2_with (fail)
    refine (refStruct_calls _ (ks.map (Vp.zero ns)) _ (own_texts (by rw [List.length_map]; exact hz)) (by omega)).mono ?_
    rintro x w8 ⟨rfl, hb8⟩
    go_wp2
    go_ret
    exact ⟨by rw [HE.out]; rfl, HB3.trans ((below_then HBR hb8).mono HB3.size)⟩
theorem refZero_all (ns : List Tp.Nd) (hm : Tp.may ns = true) : ∀ n, RefZeroOK ns n
 | 0 => fun i vv W hi h => by omega
 | n + 1 => refZero_succ ns hm n (refZero_all ns hm n)
theorem refZero_calls (ns : List Tp.Nd) (hm : Tp.may ns = true) (i : Nat) (hi : i < ns.length) (vv : Value) (W : World) (hn : NodesAt W vv ns) :
  Calls Tryz.prog 75 #[typeV vv, .int .i64 (i : Int)] W fun e w' => e = .returned (tv (Vp.zero ns i)) ∧ Below W.heap.size W w' :=
 refZero_all ns hm ns.length i vv W hi (by omega) hn
end Go.Proofs.YtobhjlchpnpleaaGreatDoor
