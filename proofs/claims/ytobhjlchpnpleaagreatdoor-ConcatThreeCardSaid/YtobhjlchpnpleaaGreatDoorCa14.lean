/- The reference's types, walked: upTo, IsLeaf, kids, TypeMay, NodeMay, Kids. -/
import Derived.Test.YtobhjlchpnpleaaGreatDoorCa7
import Derived.Test.YtobhjlchpnpleaaGreatDoorCa1
import Derived.Deep.OwnRows
namespace Go.Proofs.YtobhjlchpnpleaaGreatDoor
open Go.RowKit
set_option linter.unusedVariables false
set_option linter.unusedSimpArgs false

theorem upTo_calls (x a b : Int) (w : World) : Calls Tryz.prog 106 #[.int .i64 x, .int .i64 a, .int .i64 b] w fun e w' => e = .returned (.bool (decide (a ≤ x ∧ x ≤ b))) ∧ w = w' := by
 by_cases h1 : a ≤ x
 ·have hU : decide (a ≤ x ∧ x ≤ b) = decide (x ≤ b) := by simp [h1]
  rw [hU]
  clear hU
  go_enter Tryz.func106, Tryz.ntmps106
  go_wp2
  go_ret
  exact ⟨rfl, rfl⟩
 ·have hU : decide (a ≤ x ∧ x ≤ b) = false := decide_eq_false fun h => h1 h.1
  rw [hU]
  have h1' : decide (a ≤ x) = false := decide_eq_false h1
  clear hU
  go_enter Tryz.func106, Tryz.ntmps106
  go_wp2
  go_ret
  exact ⟨rfl, rfl⟩
theorem isLeaf_calls (k : Int) (w : World) : Calls Tryz.prog 49 #[.int .i64 k] w fun e w' => e = .returned (.bool (!Tp.inner k)) ∧ w = w' := by
 by_cases h3 : k = 3
 ·have HU := Lib.hid (show (!Tp.inner k) = false by rw [h3]; rfl)
  have h3' : (k != 3) = false := by simp [h3]
  clear h3
  go_enter Tryz.func49, Tryz.ntmps49
  go_wp2
  go_ret
  exact ⟨by rw [HU.out]; rfl, rfl⟩
 ·have h3' : (k != 3) = true := by simp [h3]
  by_cases h4 : k = 4
  ·have HU := Lib.hid (show (!Tp.inner k) = false by rw [h4]; rfl)
   have h4' : (k != 4) = false := by simp [h4]
   clear h4 h3
   go_enter Tryz.func49, Tryz.ntmps49
   go_wp2
   go_ret
   exact ⟨by rw [HU.out]; rfl, rfl⟩
  ·have HU := Lib.hid (show (!Tp.inner k) = true by simp [Tp.inner, h3, h4])
   have h4' : (k != 4) = true := by simp [h4]
   clear h4 h3
   go_enter Tryz.func49, Tryz.ntmps49
   go_wp2
   go_ret
   exact ⟨by rw [HU.out]; rfl, rfl⟩

theorem kidsTo_one (ns : List Tp.Nd) (x : Int) : Tp.kidsTo ns x 1 = [] := by simp [Tp.kidsTo, Tp.isKid]
set_option maxHeartbeats 1600000 in
theorem refkids_calls (v : Value) (ns : List Tp.Nd) (x : Int) (W : World) (hn : NodesAt W v ns) (hlen : ns.length ≤ 65536) :
  Calls Tryz.prog 104 #[typeV v, .int .i64 x] W fun e w' => ∃ r, e = .returned r ∧
   w'.ownsRow W.heap.size 3 1 r (Tp.kids ns x).length (natv (Tp.kids ns x)) ∧ Below W.heap.size W w' := by
 have hbox : Below W.heap.size W (W.alloc (.cells #[v] 24)) := (Below.refl _ _).alloc (Nat.le_refl _) _
 have hpc : (W.alloc (.cells #[v] 24)).cell? ⟨W.heap.size, 0, none⟩ = some v := by simp
 have hps : W.heap.size < (W.alloc (.cells #[v] 24)).heap.size := by simp
 obtain ⟨a, c, rfl, hcap, hm, h3⟩ := hn.below hbox
 unfold maxLen at hm
 replace h3 := Lib.hid h3
 clear hn
 go_enter Tryz.func104, Tryz.ntmps104
 go_wp2
 obtain ⟨W1, hW1⟩ : ∃ W1, W.alloc (.cells #[.slice a ns.length c] 24) = W1 := ⟨_, rfl⟩
 rw [hW1] at hbox hpc hps h3 ⊢
 clear hW1
 go_loopw [5, 6] (fun r i wr => ∃ k : Nat, 1 ≤ k ∧ (k ≤ ns.length ∨ k = 1) ∧ i = .int .i64 k ∧ wr.ownsRow W1.heap.size 3 1 r (Tp.kidsTo ns x k).length (natv (Tp.kidsTo ns x k)) ∧ Below W1.heap.size W1 wr) (fun _ i _ => ns.length - (intOf i).toNat)
 case atStart => exact ⟨1, Nat.le_refl _, .inr rfl, rfl, by rw [kidsTo_one]; exact own_nil, Below.refl _ _⟩
 case round =>
  obtain ⟨k, hk1, hk, rfl, hown, hb⟩ := hrel
  have hcb := (hb.cell (p := ⟨W.heap.size, 0, none⟩) hps).trans hpc
  by_cases hlt : k < ns.length
  ·obtain ⟨bk, o, rfl, hbk, hcell⟩ := h3.out (by intro e; rw [e] at hlt; exact Nat.not_lt_zero _ hlt)
   obtain ⟨g0, g1, g2⟩ := hcell k _ (List.getElem?_eq_getElem hlt)
   have c0 := (hb.cell (p := ⟨bk, o + k * 3, none⟩) hbk).trans g0
   have c1 := (hb.cell (p := ⟨bk, o + k * 3 + 1, none⟩) hbk).trans g1
   have c2 := (hb.cell (p := ⟨bk, o + k * 3 + 2, none⟩) hbk).trans g2
   have hpar : (ns[k]).parent = Tp.parentOf ns k := by unfold Tp.parentOf; rw [List.getD_eq_getElem?_getD, List.getElem?_eq_getElem hlt]; rfl
   rw [hpar] at c1
   clear hpar g0 g1 g2 hcell h3
   have HS := Lib.hid (Tp.kidsTo_succ ns x k)
   have HO := Lib.hid hown
   have hle : (Tp.kidsTo ns x k).length ≤ k := by unfold Tp.kidsTo; exact Nat.le_trans (List.length_filter_le _ _) (by simp)
   clear hown hk
   generalize (ns[k]).kind = kd at c0
   generalize (ns[k]).null = nu at c2
   by_cases hx : Tp.parentOf ns k = x
   ·have HI := Lib.hid (show Tp.isKid ns x k = true by simp [Tp.isKid, hx]; omega)
    have hx' : (Tp.parentOf ns k == x) = true := by simp [hx]
    replace hx' := Lib.hid hx'
    subst hx
    go_wp2_with (at_builtin; refine wp_app1' rfl _ _ 55 3 rfl W1.heap.size 8 (.int .i64 0) Tryz.underlying55 info_int_ rfl _ _ _ _ rfl rfl rfl (by simp) HO.out (by omega) (by omega) hb.size ?_; intro v' w1 hown' hbel' _)
    refine ⟨⟨k + 1, by omega, .inl (by omega), by go_num, ?_, hb.trans hbel'⟩, by simp [intOf]; omega⟩
    rw [HS.out, if_pos HI.out, List.length_append, ← natv_snoc]
    exact hown'
   ·have HI := Lib.hid (show ¬ Tp.isKid ns x k = true by simp [Tp.isKid, hx])
    have hx' : (Tp.parentOf ns k == x) = false := by simp [hx]
    go_wp2
    refine ⟨⟨k + 1, by omega, .inl (by omega), by go_num, ?_, hb⟩, by simp [intOf]; omega⟩
    rw [HS.out, if_neg HI.out, List.append_nil]
    exact HO.out
  ·have hkl : ¬ (k : Int) < (ns.length : Int) := by omega
   have hE := Lib.hid (show Tp.kidsTo ns x k = Tp.kids ns x by
    rcases hk with hk | hk
    ·obtain rfl : k = ns.length := by omega
     rfl
    ·subst hk
     rcases Nat.eq_zero_or_pos ns.length with h0 | h0
     ·rw [kidsTo_one]
      unfold Tp.kids
      rw [h0]
      rfl
     ·obtain h1 : ns.length = 1 := by omega
      unfold Tp.kids
      rw [h1])
   go_wp2
   go_ret
   exact ⟨_, rfl, by have := hown; rw [hE.out] at this; exact own_mono_t this hbox.size, hbox.trans (hb.mono hbox.size)⟩

theorem dp_first (ns : List Tp.Nd) (k : Nat) (hk : k = 0) (hp : Tp.parentOf ns 0 = -1) (j : Nat) (hj : j < ns.length) :
  (if j < k then Value.int .i64 (Tp.dp ns j : Int) else .int .i64 0) = (if j < k + 1 then Value.int .i64 (Tp.dp ns j : Int) else .int .i64 0) := by
 subst hk
 by_cases h : j = 0
 ·subst h; simp [Tp.dp_zero ns hp]
 ·rw [if_neg (by omega), if_neg (by omega)]
theorem dp_next (ns : List Tp.Nd) (k D : Nat) (hD : Tp.dp ns k = D + 1) (j : Nat) (hj : j < ns.length) :
  (if j = k then Value.int .i64 ((D : Int) + 1) else if j < k then Value.int .i64 (Tp.dp ns j : Int) else .int .i64 0) = (if j < k + 1 then Value.int .i64 (Tp.dp ns j : Int) else .int .i64 0) := by
 by_cases h : j = k
 ·subst h; rw [if_pos rfl, if_pos (by omega), hD]; simp
 ·rw [if_neg h]
  by_cases h2 : j < k
  ·rw [if_pos h2, if_pos (by omega)]
  ·rw [if_neg h2, if_neg (by omega)]
set_option maxRecDepth 100000 in
set_option maxHeartbeats 3200000 in
theorem typeMay_calls (v : Value) (ns : List Tp.Nd) (W : World) (hn : NodesAt W v ns) :
  Calls Tryz.prog 70 #[typeV v] W fun e w' => e = .returned (.bool (Tp.refMay ns)) ∧ Below W.heap.size W w' := by
 have hbox : Below W.heap.size W (W.alloc (.cells #[v] 24)) := (Below.refl _ _).alloc (Nat.le_refl _) _
 have hpc : (W.alloc (.cells #[v] 24)).cell? ⟨W.heap.size, 0, none⟩ = some v := by simp
 have hps : W.heap.size < (W.alloc (.cells #[v] 24)).heap.size := by simp
 have hnb := hn.below hbox
 obtain ⟨a, c, rfl, hcap, hm, h3⟩ := hnb
 unfold maxLen at hm
 replace h3 := Lib.hid h3
 by_cases hl : 1 ≤ ns.length ∧ ns.length ≤ 8
 ·obtain ⟨hl1, hl8⟩ := hl
  obtain ⟨bk, o, rfl, hbk, hcell⟩ := h3.out (by intro e; rw [e] at hl1; exact absurd hl1 (by decide))
  clear h3
  have hl1' : ¬ (ns.length : Int) < 1 := by omega
  have hl8' : ¬ (8 : Int) < (ns.length : Int) := by omega
  obtain ⟨g0, g1, g2⟩ := hcell 0 _ (List.getElem?_eq_getElem (show 0 < ns.length by omega))
  have hpar : (ns[0]).parent = Tp.parentOf ns 0 := by unfold Tp.parentOf; rw [List.getD_eq_getElem?_getD, List.getElem?_eq_getElem (show 0 < ns.length by omega)]; rfl
  rw [hpar] at g1
  have c1 : (W.alloc (.cells #[.slice (some ⟨bk, o, none⟩) ns.length c] 24)).cell? ⟨bk, o + 1, none⟩ = some (.int .i64 (Tp.parentOf ns 0)) := by have := g1; rwa [Nat.zero_mul, Nat.add_zero] at this
  clear hpar g0 g1 g2
  have hl0' : (0 : Int) < (ns.length : Int) := by omega
  have hl0n : 0 < ns.length := by omega
  have hcell := Lib.hid hcell
  have HN := Lib.hid hn
  clear hn hl1
  by_cases hp0 : Tp.parentOf ns 0 = -1
  ·have HU := Lib.hid (show Tp.refMay ns = (List.range ns.length).all (Tp.rowOk ns) by unfold Tp.refMay; rw [decide_eq_true ⟨by omega, hl8⟩, hp0]; rfl)
   have hpb : (Tp.parentOf ns 0 != -1) = false := by rw [hp0]; rfl
   have HP := Lib.hid hp0
   clear hp0
   have hmk := fun W => run_make_row' (P := Tryz.prog) 55 3 (.int .i64 0) 8 Tryz.underlying55 info_int_ rfl .i64 .i64 ns.length (by omega) (by omega) W
   go_enter Tryz.func70, Tryz.ntmps70
   go_wp2
   have hrow := World.rowIs_made (W.alloc (.cells #[.slice (some ⟨bk, o, none⟩) ns.length c] 24)) (.int .i64 0) ns.length 3
   have hb2 := hbox.alloc (Nat.le_of_lt hps) (.cells (madeCells #[.int .i64 0] ns.length) 3)
   have hb12 : Below (W.alloc (.cells #[.slice (some ⟨bk, o, none⟩) ns.length c] 24)).heap.size (W.alloc (.cells #[.slice (some ⟨bk, o, none⟩) ns.length c] 24)) ((W.alloc (.cells #[.slice (some ⟨bk, o, none⟩) ns.length c] 24)).alloc (.cells (madeCells #[.int .i64 0] ns.length) 3)) := (Below.refl _ _).alloc (Nat.le_refl _) _
   have hW1s : (W.alloc (.cells #[.slice (some ⟨bk, o, none⟩) ns.length c] 24)).heap.size = W.heap.size + 1 := by simp
   rw [hW1s] at hrow
   have HW1 := Lib.hid hW1s
   clear hW1s
   obtain ⟨W1, hW1⟩ : ∃ W1, W.alloc (.cells #[.slice (some ⟨bk, o, none⟩) ns.length c] 24) = W1 := ⟨_, rfl⟩
   rw [hW1] at hbox hpc hps hbk hcell c1 hrow hb2 hb12 HW1 ⊢
   clear hW1 c1 hpb
   have HN1 := Lib.hid (HN.out.below hbox)
   obtain ⟨W2, hW2⟩ : ∃ W2, W1.alloc (.cells (madeCells #[.int .i64 0] ns.length) 3) = W2 := ⟨_, rfl⟩
   rw [hW2] at hrow hb2 hb12 ⊢
   clear hW2 hmk
   have HR2 := Lib.hid hrow
   clear hrow
   go_loopw [4] (fun i wr => ∃ k : Nat, k ≤ ns.length ∧ i = .int .i64 k ∧ (∀ j, j < k → Tp.rowOk ns j = true) ∧ wr.rowIs (W.heap.size + 1) 3 ns.length (fun j => if j < k then .int .i64 (Tp.dp ns j : Int) else .int .i64 0) ∧ Below W1.heap.size W1 wr) (fun i _ => ns.length - (intOf i).toNat)
   case atStart => exact ⟨0, Nat.zero_le _, rfl, fun j hj => absurd hj (Nat.not_lt_zero _), HR2.out, hb12⟩
   case round =>
    obtain ⟨k, hk, rfl, hall, hrow, hb⟩ := hrel
    have hcb := (hb.cell (p := ⟨W.heap.size, 0, none⟩) hps).trans hpc
    have hpw : W.heap.size < wr.heap.size := Nat.lt_of_lt_of_le hps hb.size
    clear HR2 hb12
    have HALL := Lib.hid hall
    clear hall
    have HROW := Lib.hid hrow
    clear hrow
    by_cases hlt : k < ns.length
    ·obtain ⟨g0, g1, g2⟩ := hcell.out k _ (List.getElem?_eq_getElem hlt)
     have c0 := (hb.cell (p := ⟨bk, o + k * 3, none⟩) hbk).trans g0
     have c1 := (hb.cell (p := ⟨bk, o + k * 3 + 1, none⟩) hbk).trans g1
     have c2 := (hb.cell (p := ⟨bk, o + k * 3 + 2, none⟩) hbk).trans g2
     have hkd : (ns[k]).kind = Tp.kindOf ns k := by unfold Tp.kindOf; rw [List.getD_eq_getElem?_getD, List.getElem?_eq_getElem hlt]; rfl
     have hpr : (ns[k]).parent = Tp.parentOf ns k := by unfold Tp.parentOf; rw [List.getD_eq_getElem?_getD, List.getElem?_eq_getElem hlt]; rfl
     rw [hkd] at c0
     rw [hpr] at c1
     clear hkd hpr g0 g1 g2
     obtain ⟨kd, hkd⟩ : ∃ kd, Tp.kindOf ns k = kd := ⟨_, rfl⟩
     rw [hkd] at c0
     obtain ⟨pr, hpr⟩ : ∃ pr, Tp.parentOf ns k = pr := ⟨_, rfl⟩
     rw [hpr] at c1
     have HKD := Lib.hid hkd
     have HPR := Lib.hid hpr
     clear hkd hpr
     generalize (ns[k]).null = nu at c2
     obtain ⟨m, hm_⟩ : ∃ m, (Tp.kids ns (k : Int)).length = m := ⟨_, rfl⟩
     have HM := Lib.hid hm_
     clear hm_
     by_cases h04 : 0 ≤ kd ∧ kd ≤ 4
     ·have h04b : decide (0 ≤ kd ∧ kd ≤ 4) = true := decide_eq_true h04
      by_cases hgood : Tp.kindOk kd m = true
      ·have HG : Tp.upOk ns k = true → Tp.rowOk ns k = true := fun h => by unfold Tp.rowOk Tp.kidsOf; rw [HKD.out, HM.out, hgood, h]; rfl
       have HG2 : Tp.upOk ns k = false → Tp.rowOk ns k = false := fun h => by unfold Tp.rowOk; rw [h, Bool.and_false]
       replace HG := Lib.hid HG
       replace HG2 := Lib.hid HG2
       have hkk : (kd = 3 ∧ m = 1) ∨ (kd = 4 ∧ 1 ≤ m) ∨ (kd ≠ 3 ∧ kd ≠ 4 ∧ m = 0) := by
        unfold Tp.kindOk at hgood
        rw [Bool.and_eq_true] at hgood
        have h2 := hgood.2
        split at h2
        ·rename_i h; exact .inl ⟨h, by simpa using h2⟩
        ·rename_i h
         split at h2
         ·rename_i h'; exact .inr (.inl ⟨h', by simpa using h2⟩)
         ·rename_i h'; exact .inr (.inr ⟨h, h', by simpa using h2⟩)
       clear hgood
       have hfacts : ∃ b3 b4 bi m1 : Bool, (kd == 3) = b3 ∧ (kd == 4) = b4 ∧ (!Tp.inner kd) = bi ∧ ((m : Int) != 1) = m1 ∧ ((b3 = true ∧ b4 = false ∧ bi = false ∧ m1 = false) ∨ (b3 = false ∧ b4 = true ∧ bi = false ∧ ¬ (m : Int) < 1) ∨ (b3 = false ∧ b4 = false ∧ bi = true ∧ ¬ (0 : Int) < (m : Int))) := by
        refine ⟨_, _, _, _, rfl, rfl, rfl, rfl, ?_⟩
        rcases hkk with ⟨rfl, rfl⟩ | ⟨rfl, h⟩ | ⟨h3, h4, h⟩
        ·exact .inl ⟨rfl, rfl, rfl, rfl⟩
        ·exact .inr (.inl ⟨rfl, rfl, rfl, by omega⟩)
        ·exact .inr (.inr ⟨by simp [h3], by simp [h4], by unfold Tp.inner; simp [h3, h4], by omega⟩)
       clear hkk h04
       obtain ⟨b3, b4, bi, m1, hb3_, hb4_, HI, hm1_, hkk⟩ := hfacts
       replace HI := Lib.hid HI
       by_cases hk0 : k = 0
       ·have HF := Lib.hid (show Tp.upOk ns k = true by rw [hk0]; rfl)
        have hk0b : ((k : Int) == 0) = true := by simp [hk0]
        have HK0 := Lib.hid hk0
        clear hk0
        rcases hkk with ⟨rfl, rfl, rfl, rfl⟩ | ⟨rfl, rfl, rfl, hm1⟩ | ⟨rfl, rfl, rfl, hm1⟩
        ·go_wp2_with (first
          | (go_at_call 106; refine (upTo_calls _ _ _ _).mono ?_; rw [h04b]; rintro e w' ⟨rfl, rfl⟩)
          | (go_at_call 49; refine (isLeaf_calls _ _).mono ?_; rw [HI.out]; rintro e w' ⟨rfl, rfl⟩)
          | (go_at_call 104; refine (refkids_calls _ ns _ _ (HN1.out.below (hb.alloc hb.size _)) (by omega)).mono ?_; rintro e w2 ⟨vk, rfl, hown, hk2⟩; have d0 := (hk2.cell (p := ⟨wr.heap.size, 0, none⟩) (by simp)).trans (by simp; rfl); have d1 := (hk2.cell (p := ⟨wr.heap.size, 1, none⟩) (by simp)).trans (by simp; rfl); have hb3 := (hb.alloc hb.size _).trans (hk2.mono (Nat.le_trans hb.size (by simp))); have hb4 := HROW.out.alloc _ |>.of_block (hk2.block (W.heap.size + 1) (Nat.lt_of_lt_of_le HROW.out.lt (by simp))); replace hb4 := Lib.hid hb4; obtain ⟨ak, ck, rfl⟩ := own_slice hown; have HKO := Lib.hid hown; clear hown; rw [HM.out]))
         exact ⟨⟨k + 1, by omega, by go_num, all_snoc _ k HALL.out (HG.out HF.out), hb4.out.congr (dp_first ns k HK0.out HP.out), hb3⟩, by simp [intOf]; omega⟩
        ·go_wp2_with (first
          | (go_at_call 106; refine (upTo_calls _ _ _ _).mono ?_; rw [h04b]; rintro e w' ⟨rfl, rfl⟩)
          | (go_at_call 49; refine (isLeaf_calls _ _).mono ?_; rw [HI.out]; rintro e w' ⟨rfl, rfl⟩)
          | (go_at_call 104; refine (refkids_calls _ ns _ _ (HN1.out.below (hb.alloc hb.size _)) (by omega)).mono ?_; rintro e w2 ⟨vk, rfl, hown, hk2⟩; have d0 := (hk2.cell (p := ⟨wr.heap.size, 0, none⟩) (by simp)).trans (by simp; rfl); have d1 := (hk2.cell (p := ⟨wr.heap.size, 1, none⟩) (by simp)).trans (by simp; rfl); have hb3 := (hb.alloc hb.size _).trans (hk2.mono (Nat.le_trans hb.size (by simp))); have hb4 := HROW.out.alloc _ |>.of_block (hk2.block (W.heap.size + 1) (Nat.lt_of_lt_of_le HROW.out.lt (by simp))); replace hb4 := Lib.hid hb4; obtain ⟨ak, ck, rfl⟩ := own_slice hown; have HKO := Lib.hid hown; clear hown; rw [HM.out]))
         exact ⟨⟨k + 1, by omega, by go_num, all_snoc _ k HALL.out (HG.out HF.out), hb4.out.congr (dp_first ns k HK0.out HP.out), hb3⟩, by simp [intOf]; omega⟩
        ·go_wp2_with (first
          | (go_at_call 106; refine (upTo_calls _ _ _ _).mono ?_; rw [h04b]; rintro e w' ⟨rfl, rfl⟩)
          | (go_at_call 49; refine (isLeaf_calls _ _).mono ?_; rw [HI.out]; rintro e w' ⟨rfl, rfl⟩)
          | (go_at_call 104; refine (refkids_calls _ ns _ _ (HN1.out.below (hb.alloc hb.size _)) (by omega)).mono ?_; rintro e w2 ⟨vk, rfl, hown, hk2⟩; have d0 := (hk2.cell (p := ⟨wr.heap.size, 0, none⟩) (by simp)).trans (by simp; rfl); have d1 := (hk2.cell (p := ⟨wr.heap.size, 1, none⟩) (by simp)).trans (by simp; rfl); have hb3 := (hb.alloc hb.size _).trans (hk2.mono (Nat.le_trans hb.size (by simp))); have hb4 := HROW.out.alloc _ |>.of_block (hk2.block (W.heap.size + 1) (Nat.lt_of_lt_of_le HROW.out.lt (by simp))); replace hb4 := Lib.hid hb4; obtain ⟨ak, ck, rfl⟩ := own_slice hown; have HKO := Lib.hid hown; clear hown; rw [HM.out]))
         exact ⟨⟨k + 1, by omega, by go_num, all_snoc _ k HALL.out (HG.out HF.out), hb4.out.congr (dp_first ns k HK0.out HP.out), hb3⟩, by simp [intOf]; omega⟩
       ·have hk0b : ((k : Int) == 0) = false := by simp [hk0]
        by_cases hpp : 0 ≤ pr ∧ pr ≤ (k : Int) - 1
        ·have HUB := Lib.hid (show decide (0 ≤ pr ∧ pr ≤ (k : Int) - 1) = true from decide_eq_true hpp)
         obtain ⟨q, rfl⟩ := Int.eq_ofNat_of_zero_le hpp.1
         have hqk : q < k := by omega
         have hqn : q < ns.length := by omega
         have hqi : (q : Int) < (ns.length : Int) := by omega
         obtain ⟨D, hD⟩ : ∃ D, Tp.dp ns q = D := ⟨_, rfl⟩
         have HD := Lib.hid hD
         clear hpp hD
         by_cases h4D : 4 ≤ D
         ·have HF := Lib.hid (show Tp.upOk ns k = false by unfold Tp.upOk; rw [HPR.out, Int.toNat_natCast, HD.out, decide_eq_false (show ¬ D < 4 by omega)]; simp [hk0])
          have h4i : (4 : Int) ≤ (D : Int) := by omega
          rcases hkk with ⟨rfl, rfl, rfl, rfl⟩ | ⟨rfl, rfl, rfl, hm1⟩ | ⟨rfl, rfl, rfl, hm1⟩
          ·go_wp2_with (first
            | (go_at_call 106; refine (upTo_calls _ _ _ _).mono ?_; rw [h04b]; rintro e w' ⟨rfl, rfl⟩)
            | (go_at_call 49; refine (isLeaf_calls _ _).mono ?_; rw [HI.out]; rintro e w' ⟨rfl, rfl⟩)
            | (go_at_call 104; refine (refkids_calls _ ns _ _ (HN1.out.below (hb.alloc hb.size _)) (by omega)).mono ?_; rintro e w2 ⟨vk, rfl, hown, hk2⟩; have d0 := (hk2.cell (p := ⟨wr.heap.size, 0, none⟩) (by simp)).trans (by simp; rfl); have d1 := (hk2.cell (p := ⟨wr.heap.size, 1, none⟩) (by simp)).trans (by simp; rfl); have hb3 := (hb.alloc hb.size _).trans (hk2.mono (Nat.le_trans hb.size (by simp))); have hb4 := HROW.out.alloc _ |>.of_block (hk2.block (W.heap.size + 1) (Nat.lt_of_lt_of_le HROW.out.lt (by simp))); have hb5 := hb4.cell (i := q) hqn; have hb6 := hb4.frozen k; rw [if_pos hqk, HD.out] at hb5; have hb8 := hb4.cell (i := k) hlt; rw [if_neg (Nat.lt_irrefl k)] at hb8; replace hb4 := Lib.hid hb4; obtain ⟨ak, ck, rfl⟩ := own_slice hown; have HKO := Lib.hid hown; clear hown; rw [HM.out])
            | (go_at_call 106; refine (upTo_calls _ _ _ _).mono ?_; rw [HUB.out]; rintro e w' ⟨rfl, rfl⟩))
           go_ret
           exact ⟨by rw [HU.out, range_not _ _ k hlt (HG2.out HF.out)]; rfl, hbox.trans (hb3.mono hbox.size)⟩
          ·go_wp2_with (first
            | (go_at_call 106; refine (upTo_calls _ _ _ _).mono ?_; rw [h04b]; rintro e w' ⟨rfl, rfl⟩)
            | (go_at_call 49; refine (isLeaf_calls _ _).mono ?_; rw [HI.out]; rintro e w' ⟨rfl, rfl⟩)
            | (go_at_call 104; refine (refkids_calls _ ns _ _ (HN1.out.below (hb.alloc hb.size _)) (by omega)).mono ?_; rintro e w2 ⟨vk, rfl, hown, hk2⟩; have d0 := (hk2.cell (p := ⟨wr.heap.size, 0, none⟩) (by simp)).trans (by simp; rfl); have d1 := (hk2.cell (p := ⟨wr.heap.size, 1, none⟩) (by simp)).trans (by simp; rfl); have hb3 := (hb.alloc hb.size _).trans (hk2.mono (Nat.le_trans hb.size (by simp))); have hb4 := HROW.out.alloc _ |>.of_block (hk2.block (W.heap.size + 1) (Nat.lt_of_lt_of_le HROW.out.lt (by simp))); have hb5 := hb4.cell (i := q) hqn; have hb6 := hb4.frozen k; rw [if_pos hqk, HD.out] at hb5; have hb8 := hb4.cell (i := k) hlt; rw [if_neg (Nat.lt_irrefl k)] at hb8; replace hb4 := Lib.hid hb4; obtain ⟨ak, ck, rfl⟩ := own_slice hown; have HKO := Lib.hid hown; clear hown; rw [HM.out])
            | (go_at_call 106; refine (upTo_calls _ _ _ _).mono ?_; rw [HUB.out]; rintro e w' ⟨rfl, rfl⟩))
           go_ret
           exact ⟨by rw [HU.out, range_not _ _ k hlt (HG2.out HF.out)]; rfl, hbox.trans (hb3.mono hbox.size)⟩
          ·go_wp2_with (first
            | (go_at_call 106; refine (upTo_calls _ _ _ _).mono ?_; rw [h04b]; rintro e w' ⟨rfl, rfl⟩)
            | (go_at_call 49; refine (isLeaf_calls _ _).mono ?_; rw [HI.out]; rintro e w' ⟨rfl, rfl⟩)
            | (go_at_call 104; refine (refkids_calls _ ns _ _ (HN1.out.below (hb.alloc hb.size _)) (by omega)).mono ?_; rintro e w2 ⟨vk, rfl, hown, hk2⟩; have d0 := (hk2.cell (p := ⟨wr.heap.size, 0, none⟩) (by simp)).trans (by simp; rfl); have d1 := (hk2.cell (p := ⟨wr.heap.size, 1, none⟩) (by simp)).trans (by simp; rfl); have hb3 := (hb.alloc hb.size _).trans (hk2.mono (Nat.le_trans hb.size (by simp))); have hb4 := HROW.out.alloc _ |>.of_block (hk2.block (W.heap.size + 1) (Nat.lt_of_lt_of_le HROW.out.lt (by simp))); have hb5 := hb4.cell (i := q) hqn; have hb6 := hb4.frozen k; rw [if_pos hqk, HD.out] at hb5; have hb8 := hb4.cell (i := k) hlt; rw [if_neg (Nat.lt_irrefl k)] at hb8; replace hb4 := Lib.hid hb4; obtain ⟨ak, ck, rfl⟩ := own_slice hown; have HKO := Lib.hid hown; clear hown; rw [HM.out])
            | (go_at_call 106; refine (upTo_calls _ _ _ _).mono ?_; rw [HUB.out]; rintro e w' ⟨rfl, rfl⟩))
           go_ret
           exact ⟨by rw [HU.out, range_not _ _ k hlt (HG2.out HF.out)]; rfl, hbox.trans (hb3.mono hbox.size)⟩
         ·have HF := Lib.hid (show Tp.upOk ns k = true by unfold Tp.upOk; rw [HPR.out, Int.toNat_natCast, HD.out, decide_eq_true (show D < 4 by omega), decide_eq_true (show 0 ≤ (q : Int) ∧ (q : Int) < (k : Int) by omega)]; simp)
          have h4i : ¬ (4 : Int) ≤ (D : Int) := by omega
          have HDN := Lib.hid (show Tp.dp ns k = D + 1 by
           have hBh := Tp.behind_of_up ns (k + 1) HP.out (fun j hj => by
            by_cases hjk : j = k
            ·rw [hjk]; exact HF.out
            ·have := HALL.out j (by omega)
             unfold Tp.rowOk at this
             rw [Bool.and_eq_true] at this
             exact this.2) k (by omega)
           rw [Tp.dp_step ns k hBh (by omega), HPR.out, Int.toNat_natCast, HD.out])
          rcases hkk with ⟨rfl, rfl, rfl, rfl⟩ | ⟨rfl, rfl, rfl, hm1⟩ | ⟨rfl, rfl, rfl, hm1⟩
          ·go_wp2_with (first
            | (go_at_call 106; refine (upTo_calls _ _ _ _).mono ?_; rw [h04b]; rintro e w' ⟨rfl, rfl⟩)
            | (go_at_call 49; refine (isLeaf_calls _ _).mono ?_; rw [HI.out]; rintro e w' ⟨rfl, rfl⟩)
            | (go_at_call 104; refine (refkids_calls _ ns _ _ (HN1.out.below (hb.alloc hb.size _)) (by omega)).mono ?_; rintro e w2 ⟨vk, rfl, hown, hk2⟩; have d0 := (hk2.cell (p := ⟨wr.heap.size, 0, none⟩) (by simp)).trans (by simp; rfl); have d1 := (hk2.cell (p := ⟨wr.heap.size, 1, none⟩) (by simp)).trans (by simp; rfl); have hb3 := (hb.alloc hb.size _).trans (hk2.mono (Nat.le_trans hb.size (by simp))); have hb4 := HROW.out.alloc _ |>.of_block (hk2.block (W.heap.size + 1) (Nat.lt_of_lt_of_le HROW.out.lt (by simp))); have hb5 := hb4.cell (i := q) hqn; have hb6 := hb4.frozen k; rw [if_pos hqk, HD.out] at hb5; have hb8 := hb4.cell (i := k) hlt; rw [if_neg (Nat.lt_irrefl k)] at hb8; replace hb4 := Lib.hid hb4; obtain ⟨ak, ck, rfl⟩ := own_slice hown; have HKO := Lib.hid hown; clear hown; rw [HM.out])
            | (go_at_call 106; refine (upTo_calls _ _ _ _).mono ?_; rw [HUB.out]; rintro e w' ⟨rfl, rfl⟩))
           exact ⟨⟨k + 1, by omega, by go_num, all_snoc _ k HALL.out (HG.out HF.out), (hb4.out.set k _).congr (dp_next ns k D HDN.out), hb3.setCell (by rw [HW1.out]; exact Nat.le_refl _) _⟩, by simp [intOf]; omega⟩
          ·go_wp2_with (first
            | (go_at_call 106; refine (upTo_calls _ _ _ _).mono ?_; rw [h04b]; rintro e w' ⟨rfl, rfl⟩)
            | (go_at_call 49; refine (isLeaf_calls _ _).mono ?_; rw [HI.out]; rintro e w' ⟨rfl, rfl⟩)
            | (go_at_call 104; refine (refkids_calls _ ns _ _ (HN1.out.below (hb.alloc hb.size _)) (by omega)).mono ?_; rintro e w2 ⟨vk, rfl, hown, hk2⟩; have d0 := (hk2.cell (p := ⟨wr.heap.size, 0, none⟩) (by simp)).trans (by simp; rfl); have d1 := (hk2.cell (p := ⟨wr.heap.size, 1, none⟩) (by simp)).trans (by simp; rfl); have hb3 := (hb.alloc hb.size _).trans (hk2.mono (Nat.le_trans hb.size (by simp))); have hb4 := HROW.out.alloc _ |>.of_block (hk2.block (W.heap.size + 1) (Nat.lt_of_lt_of_le HROW.out.lt (by simp))); have hb5 := hb4.cell (i := q) hqn; have hb6 := hb4.frozen k; rw [if_pos hqk, HD.out] at hb5; have hb8 := hb4.cell (i := k) hlt; rw [if_neg (Nat.lt_irrefl k)] at hb8; replace hb4 := Lib.hid hb4; obtain ⟨ak, ck, rfl⟩ := own_slice hown; have HKO := Lib.hid hown; clear hown; rw [HM.out])
            | (go_at_call 106; refine (upTo_calls _ _ _ _).mono ?_; rw [HUB.out]; rintro e w' ⟨rfl, rfl⟩))
           exact ⟨⟨k + 1, by omega, by go_num, all_snoc _ k HALL.out (HG.out HF.out), (hb4.out.set k _).congr (dp_next ns k D HDN.out), hb3.setCell (by rw [HW1.out]; exact Nat.le_refl _) _⟩, by simp [intOf]; omega⟩
          ·go_wp2_with (first
            | (go_at_call 106; refine (upTo_calls _ _ _ _).mono ?_; rw [h04b]; rintro e w' ⟨rfl, rfl⟩)
            | (go_at_call 49; refine (isLeaf_calls _ _).mono ?_; rw [HI.out]; rintro e w' ⟨rfl, rfl⟩)
            | (go_at_call 104; refine (refkids_calls _ ns _ _ (HN1.out.below (hb.alloc hb.size _)) (by omega)).mono ?_; rintro e w2 ⟨vk, rfl, hown, hk2⟩; have d0 := (hk2.cell (p := ⟨wr.heap.size, 0, none⟩) (by simp)).trans (by simp; rfl); have d1 := (hk2.cell (p := ⟨wr.heap.size, 1, none⟩) (by simp)).trans (by simp; rfl); have hb3 := (hb.alloc hb.size _).trans (hk2.mono (Nat.le_trans hb.size (by simp))); have hb4 := HROW.out.alloc _ |>.of_block (hk2.block (W.heap.size + 1) (Nat.lt_of_lt_of_le HROW.out.lt (by simp))); have hb5 := hb4.cell (i := q) hqn; have hb6 := hb4.frozen k; rw [if_pos hqk, HD.out] at hb5; have hb8 := hb4.cell (i := k) hlt; rw [if_neg (Nat.lt_irrefl k)] at hb8; replace hb4 := Lib.hid hb4; obtain ⟨ak, ck, rfl⟩ := own_slice hown; have HKO := Lib.hid hown; clear hown; rw [HM.out])
            | (go_at_call 106; refine (upTo_calls _ _ _ _).mono ?_; rw [HUB.out]; rintro e w' ⟨rfl, rfl⟩))
           exact ⟨⟨k + 1, by omega, by go_num, all_snoc _ k HALL.out (HG.out HF.out), (hb4.out.set k _).congr (dp_next ns k D HDN.out), hb3.setCell (by rw [HW1.out]; exact Nat.le_refl _) _⟩, by simp [intOf]; omega⟩
        ·have HUB := Lib.hid (show decide (0 ≤ pr ∧ pr ≤ (k : Int) - 1) = false from decide_eq_false hpp)
         have HF := Lib.hid (show Tp.upOk ns k = false by unfold Tp.upOk; rw [HPR.out, decide_eq_false (show ¬ (0 ≤ pr ∧ pr < (k : Int)) by omega)]; simp [hk0])
         clear hpp
         rcases hkk with ⟨rfl, rfl, rfl, rfl⟩ | ⟨rfl, rfl, rfl, hm1⟩ | ⟨rfl, rfl, rfl, hm1⟩
         ·go_wp2_with (first
           | (go_at_call 106; refine (upTo_calls _ _ _ _).mono ?_; rw [h04b]; rintro e w' ⟨rfl, rfl⟩)
           | (go_at_call 49; refine (isLeaf_calls _ _).mono ?_; rw [HI.out]; rintro e w' ⟨rfl, rfl⟩)
           | (go_at_call 104; refine (refkids_calls _ ns _ _ (HN1.out.below (hb.alloc hb.size _)) (by omega)).mono ?_; rintro e w2 ⟨vk, rfl, hown, hk2⟩; have d0 := (hk2.cell (p := ⟨wr.heap.size, 0, none⟩) (by simp)).trans (by simp; rfl); have d1 := (hk2.cell (p := ⟨wr.heap.size, 1, none⟩) (by simp)).trans (by simp; rfl); have hb3 := (hb.alloc hb.size _).trans (hk2.mono (Nat.le_trans hb.size (by simp))); have hb4 := HROW.out.alloc _ |>.of_block (hk2.block (W.heap.size + 1) (Nat.lt_of_lt_of_le HROW.out.lt (by simp))); replace hb4 := Lib.hid hb4; obtain ⟨ak, ck, rfl⟩ := own_slice hown; have HKO := Lib.hid hown; clear hown; rw [HM.out])
           | (go_at_call 106; refine (upTo_calls _ _ _ _).mono ?_; rw [HUB.out]; rintro e w' ⟨rfl, rfl⟩))
          go_ret
          exact ⟨by rw [HU.out, range_not _ _ k hlt (HG2.out HF.out)]; rfl, hbox.trans (hb3.mono hbox.size)⟩
         ·go_wp2_with (first
           | (go_at_call 106; refine (upTo_calls _ _ _ _).mono ?_; rw [h04b]; rintro e w' ⟨rfl, rfl⟩)
           | (go_at_call 49; refine (isLeaf_calls _ _).mono ?_; rw [HI.out]; rintro e w' ⟨rfl, rfl⟩)
           | (go_at_call 104; refine (refkids_calls _ ns _ _ (HN1.out.below (hb.alloc hb.size _)) (by omega)).mono ?_; rintro e w2 ⟨vk, rfl, hown, hk2⟩; have d0 := (hk2.cell (p := ⟨wr.heap.size, 0, none⟩) (by simp)).trans (by simp; rfl); have d1 := (hk2.cell (p := ⟨wr.heap.size, 1, none⟩) (by simp)).trans (by simp; rfl); have hb3 := (hb.alloc hb.size _).trans (hk2.mono (Nat.le_trans hb.size (by simp))); have hb4 := HROW.out.alloc _ |>.of_block (hk2.block (W.heap.size + 1) (Nat.lt_of_lt_of_le HROW.out.lt (by simp))); replace hb4 := Lib.hid hb4; obtain ⟨ak, ck, rfl⟩ := own_slice hown; have HKO := Lib.hid hown; clear hown; rw [HM.out])
           | (go_at_call 106; refine (upTo_calls _ _ _ _).mono ?_; rw [HUB.out]; rintro e w' ⟨rfl, rfl⟩))
          go_ret
          exact ⟨by rw [HU.out, range_not _ _ k hlt (HG2.out HF.out)]; rfl, hbox.trans (hb3.mono hbox.size)⟩
         ·go_wp2_with (first
           | (go_at_call 106; refine (upTo_calls _ _ _ _).mono ?_; rw [h04b]; rintro e w' ⟨rfl, rfl⟩)
           | (go_at_call 49; refine (isLeaf_calls _ _).mono ?_; rw [HI.out]; rintro e w' ⟨rfl, rfl⟩)
           | (go_at_call 104; refine (refkids_calls _ ns _ _ (HN1.out.below (hb.alloc hb.size _)) (by omega)).mono ?_; rintro e w2 ⟨vk, rfl, hown, hk2⟩; have d0 := (hk2.cell (p := ⟨wr.heap.size, 0, none⟩) (by simp)).trans (by simp; rfl); have d1 := (hk2.cell (p := ⟨wr.heap.size, 1, none⟩) (by simp)).trans (by simp; rfl); have hb3 := (hb.alloc hb.size _).trans (hk2.mono (Nat.le_trans hb.size (by simp))); have hb4 := HROW.out.alloc _ |>.of_block (hk2.block (W.heap.size + 1) (Nat.lt_of_lt_of_le HROW.out.lt (by simp))); replace hb4 := Lib.hid hb4; obtain ⟨ak, ck, rfl⟩ := own_slice hown; have HKO := Lib.hid hown; clear hown; rw [HM.out])
           | (go_at_call 106; refine (upTo_calls _ _ _ _).mono ?_; rw [HUB.out]; rintro e w' ⟨rfl, rfl⟩))
          go_ret
          exact ⟨by rw [HU.out, range_not _ _ k hlt (HG2.out HF.out)]; rfl, hbox.trans (hb3.mono hbox.size)⟩
      ·have HF := Lib.hid (show Tp.rowOk ns k = false by unfold Tp.rowOk Tp.kidsOf; rw [HKD.out, HM.out, Bool.eq_false_iff.2 hgood]; rfl)
       have hkk : (kd = 3 ∧ m ≠ 1) ∨ (kd = 4 ∧ m = 0) ∨ (kd ≠ 3 ∧ kd ≠ 4 ∧ 0 < m) := by
        by_cases h3 : kd = 3
        ·exact .inl ⟨h3, fun hm1 => hgood (by rw [h3, hm1]; rfl)⟩
        ·by_cases h4 : kd = 4
         ·exact .inr (.inl ⟨h4, Nat.eq_zero_of_not_pos fun hm1 => hgood (by rw [h4]; unfold Tp.kindOk; simp; omega)⟩)
         ·exact .inr (.inr ⟨h3, h4, Nat.pos_of_ne_zero fun hm1 => hgood (by unfold Tp.kindOk; simp [h3, h4, hm1, h04])⟩)
       clear hgood
       rcases hkk with ⟨rfl, hm1⟩ | ⟨rfl, rfl⟩ | ⟨h3, h4, hm1⟩
       ·have hm1' : ((m : Int) != 1) = true := by simp; omega
        have hm0 : ¬ (0 : Int) < 0 := by omega
        have HI := Lib.hid (show (!Tp.inner 3) = false from rfl)
        clear h04
        go_wp2_with (first
         | (go_at_call 106; refine (upTo_calls _ _ _ _).mono ?_; rw [h04b]; rintro e w' ⟨rfl, rfl⟩)
         | (go_at_call 49; refine (isLeaf_calls _ _).mono ?_; rw [HI.out]; rintro e w' ⟨rfl, rfl⟩)
         | (go_at_call 104; refine (refkids_calls _ ns _ _ (HN1.out.below (hb.alloc hb.size _)) (by omega)).mono ?_; rintro e w2 ⟨vk, rfl, hown, hk2⟩; have d0 := (hk2.cell (p := ⟨wr.heap.size, 0, none⟩) (by simp)).trans (by simp; rfl); have hb3 := (hb.alloc hb.size _).trans (hk2.mono (Nat.le_trans hb.size (by simp))); obtain ⟨ak, ck, rfl⟩ := own_slice hown; have HKO := Lib.hid hown; clear hown; rw [HM.out]))
        go_ret
        exact ⟨by rw [HU.out, range_not _ _ k hlt HF.out]; rfl, hbox.trans (hb3.mono hbox.size)⟩
       ·have HI := Lib.hid (show (!Tp.inner 4) = false from rfl)
        clear h04
        go_wp2_with (first
         | (go_at_call 106; refine (upTo_calls _ _ _ _).mono ?_; rw [h04b]; rintro e w' ⟨rfl, rfl⟩)
         | (go_at_call 49; refine (isLeaf_calls _ _).mono ?_; rw [HI.out]; rintro e w' ⟨rfl, rfl⟩)
         | (go_at_call 104; refine (refkids_calls _ ns _ _ (HN1.out.below (hb.alloc hb.size _)) (by omega)).mono ?_; rintro e w2 ⟨vk, rfl, hown, hk2⟩; have d0 := (hk2.cell (p := ⟨wr.heap.size, 0, none⟩) (by simp)).trans (by simp; rfl); have d1 := (hk2.cell (p := ⟨wr.heap.size, 1, none⟩) (by simp)).trans (by simp; rfl); have hb3 := (hb.alloc hb.size _).trans (hk2.mono (Nat.le_trans hb.size (by simp))); have hb4 := HROW.out.alloc _ |>.of_block (hk2.block (W.heap.size + 1) (Nat.lt_of_lt_of_le HROW.out.lt (by simp))); replace hb4 := Lib.hid hb4; obtain ⟨ak, ck, rfl⟩ := own_slice hown; have HKO := Lib.hid hown; clear hown; rw [HM.out]))
        go_ret
        exact ⟨by rw [HU.out, range_not _ _ k hlt HF.out]; rfl, hbox.trans (hb3.mono hbox.size)⟩
       ·have hm0 : (0 : Int) < (m : Int) := by omega
        have HI := Lib.hid (show (!Tp.inner kd) = true by unfold Tp.inner; simp [h3, h4])
        clear h04 h3 h4
        go_wp2_with (first
         | (go_at_call 106; refine (upTo_calls _ _ _ _).mono ?_; rw [h04b]; rintro e w' ⟨rfl, rfl⟩)
         | (go_at_call 49; refine (isLeaf_calls _ _).mono ?_; rw [HI.out]; rintro e w' ⟨rfl, rfl⟩)
         | (go_at_call 104; refine (refkids_calls _ ns _ _ (HN1.out.below (hb.alloc hb.size _)) (by omega)).mono ?_; rintro e w2 ⟨vk, rfl, hown, hk2⟩; have d0 := (hk2.cell (p := ⟨wr.heap.size, 0, none⟩) (by simp)).trans (by simp; rfl); have d1 := (hk2.cell (p := ⟨wr.heap.size, 1, none⟩) (by simp)).trans (by simp; rfl); have hb3 := (hb.alloc hb.size _).trans (hk2.mono (Nat.le_trans hb.size (by simp))); have hb4 := HROW.out.alloc _ |>.of_block (hk2.block (W.heap.size + 1) (Nat.lt_of_lt_of_le HROW.out.lt (by simp))); replace hb4 := Lib.hid hb4; obtain ⟨ak, ck, rfl⟩ := own_slice hown; have HKO := Lib.hid hown; clear hown; rw [HM.out]))
        go_ret
        exact ⟨by rw [HU.out, range_not _ _ k hlt HF.out]; rfl, hbox.trans (hb3.mono hbox.size)⟩
     ·have h04b : decide (0 ≤ kd ∧ kd ≤ 4) = false := decide_eq_false h04
      have HF := Lib.hid (show Tp.rowOk ns k = false by unfold Tp.rowOk Tp.kindOk; rw [HKD.out, h04b]; rfl)
      clear h04
      go_wp2_with (go_at_call 106; refine (upTo_calls _ _ _ _).mono ?_; rw [h04b]; rintro e w' ⟨rfl, rfl⟩)
      go_ret
      exact ⟨by rw [HU.out, range_not _ _ k hlt HF.out]; rfl, hbox.trans ((hb.alloc hb.size _).mono hbox.size)⟩
    ·obtain rfl : k = ns.length := by omega
     have HF := Lib.hid (range_all _ _ HALL.out)
     go_wp2
     go_ret
     exact ⟨by rw [HU.out, HF.out]; rfl, hbox.trans (hb.mono hbox.size)⟩
  ·have HU := Lib.hid (show Tp.refMay ns = false by unfold Tp.refMay; simp [hp0])
   have hpb : (Tp.parentOf ns 0 != -1) = true := by simp [hp0]
   clear hp0
   go_enter Tryz.func70, Tryz.ntmps70
   go_wp2
   go_ret
   exact ⟨by rw [HU.out]; rfl, hbox⟩
 ·have HU := Lib.hid (show Tp.refMay ns = false by unfold Tp.refMay; rw [decide_eq_false hl]; rfl)
  clear hn
  by_cases hl1 : ns.length < 1
  ·have hl1' : (ns.length : Int) < 1 := by omega
   go_enter Tryz.func70, Tryz.ntmps70
   go_wp2
   go_ret
   exact ⟨by rw [HU.out]; rfl, hbox⟩
  ·have hl1' : ¬ (ns.length : Int) < 1 := by omega
   have hl8 : (8 : Int) < (ns.length : Int) := by omega
   go_enter Tryz.func70, Tryz.ntmps70
   go_wp2
   go_ret
   exact ⟨by rw [HU.out]; rfl, hbox⟩
end Go.Proofs.YtobhjlchpnpleaaGreatDoor
