/- The reference's NodeMay, Kids and Fits, walked: they are types.Node, types.Kids and value.Fits. -/
import Derived.Test.YtobhjlchpnpleaaGreatDoorCa14
import Derived.Test.YtobhjlchpnpleaaGreatDoorCa17
import Derived.Test.YtobhjlchpnpleaaGreatDoorCa8
namespace Go.Proofs.YtobhjlchpnpleaaGreatDoor
open Go.RowKit
set_option linter.unusedVariables false
set_option linter.unusedSimpArgs false

set_option maxHeartbeats 1600000 in
theorem nodeMay_calls (v : Value) (ns : List Tp.Nd) (x : Int) (W : World) (hn : NodesAt W v ns) :
  Calls Tryz.prog 42 #[typeV v, .int .i64 x] W fun e w' => e = .returned (.bool (Tp.node ns x)) ∧ Below W.heap.size W w' := by
 have hbox : Below W.heap.size W (W.alloc (.cells #[v] 24)) := (Below.refl _ _).alloc (Nat.le_refl _) _
 have hmay := typeMay_calls v ns _ (hn.below hbox)
 rw [Tp.refMay_eq] at hmay
 have hpc : (W.alloc (.cells #[v] 24)).cell? ⟨W.heap.size, 0, none⟩ = some v := by simp
 obtain ⟨a, c, rfl, hcap, hm, h3⟩ := hn
 unfold maxLen at hm
 clear h3
 cases hmy : Tp.may ns with
 | false =>
  have HU := Lib.hid (show Tp.node ns x = false by unfold Tp.node; rw [hmy]; rfl)
  rw [hmy] at hmay
  have HM := Lib.hid hmay
  clear hmay
  go_enter Tryz.func42, Tryz.ntmps42
  go_wp2_with (go_at_call 70; refine HM.out.mono ?_; rintro e w' ⟨rfl, hb⟩; replace hb := below_then hbox hb)
  go_ret
  exact ⟨by rw [HU.out]; rfl, hb⟩
 | true =>
  rw [hmy] at hmay
  have HM := Lib.hid hmay
  clear hmay
  have hnd : Tp.node ns x = decide (0 ≤ x ∧ x < ns.length) := by unfold Tp.node; rw [hmy]; rfl
  by_cases h0 : 0 ≤ x
  ·by_cases h1 : x < ns.length
   ·have HU := Lib.hid (show Tp.node ns x = true by rw [hnd]; simp [h0, h1])
    clear hnd
    go_enter Tryz.func42, Tryz.ntmps42
    go_wp2_with (go_at_call 70; refine HM.out.mono ?_; rintro e w' ⟨rfl, hb⟩; have c9 := (hb.cell (p := ⟨W.heap.size, 0, none⟩) (by simp)).trans hpc; replace hb := below_then hbox hb)
    go_ret
    exact ⟨by rw [HU.out]; rfl, hb⟩
   ·have HU := Lib.hid (show Tp.node ns x = false by rw [hnd]; simp [h1])
    clear hnd
    go_enter Tryz.func42, Tryz.ntmps42
    go_wp2_with (go_at_call 70; refine HM.out.mono ?_; rintro e w' ⟨rfl, hb⟩; have c9 := (hb.cell (p := ⟨W.heap.size, 0, none⟩) (by simp)).trans hpc; replace hb := below_then hbox hb)
    go_ret
    exact ⟨ret_bool (by rw [HU.out]; exact decide_eq_false (by omega)), hb⟩
  ·have HU := Lib.hid (show Tp.node ns x = false by rw [hnd]; simp [h0])
   clear hnd
   go_enter Tryz.func42, Tryz.ntmps42
   go_wp2_with (go_at_call 70; refine HM.out.mono ?_; rintro e w' ⟨rfl, hb⟩; replace hb := below_then hbox hb)
   go_ret
   exact ⟨by rw [HU.out]; rfl, hb⟩

theorem refKids_calls (v : Value) (ns : List Tp.Nd) (x : Int) (W : World) (hn : NodesAt W v ns) (hnd : Tp.node ns x = true) :
  Calls Tryz.prog 64 #[typeV v, .int .i64 x] W fun e w' => ∃ r, e = .returned (.tuple #[r, .int .i64 0]) ∧
   w'.ownsRow W.heap.size 3 1 r (Tp.kids ns x).length (natv (Tp.kids ns x)) ∧ Below W.heap.size W w' := by
 have hbox : Below W.heap.size W (W.alloc (.cells #[v] 24)) := (Below.refl _ _).alloc (Nat.le_refl _) _
 have hpc : (W.alloc (.cells #[v] 24)).cell? ⟨W.heap.size, 0, none⟩ = some v := by simp
 have hps : W.heap.size < (W.alloc (.cells #[v] 24)).heap.size := by simp
 have hl8 : ns.length ≤ 65536 := by
  unfold Tp.node Tp.may at hnd
  simp only [Bool.and_eq_true, decide_eq_true_eq] at hnd
  omega
 have HN := Lib.hid (nodeMay_calls v ns x _ (hn.below hbox))
 rw [hnd] at HN
 have HNA := Lib.hid (hn.below hbox)
 clear hn
 go_enter Tryz.func64, Tryz.ntmps64
 go_wp2_with (first
  | (go_at_call 42; refine HN.out.mono ?_; rintro e w' ⟨rfl, hb⟩; have c9 := (hb.cell (p := ⟨W.heap.size, 0, none⟩) hps).trans hpc)
  | (go_at_call 104; refine (refkids_calls v ns x _ (HNA.out.below hb) hl8).mono ?_; rintro e w2 ⟨r, rfl, hown, hb2⟩; replace hb := below_then hbox hb; replace hb2 := below_then hb hb2))
 go_ret2
 exact ⟨_, rfl, own_mono_t hown hb.size, hb2⟩

namespace Vp
theorem value_kind (d : Nat) (t : Tk) : (value d t).1 = -1 ∨ 0 ≤ (value d t).1 := by
 cases d with
 | zero => simp [value]
 | succ d =>
  simp only [value]
  repeat' split
  all_goals simp
theorem value_small (d : Nat) (t : Tk) (h2 : (value d t).1 ≠ 2) (h3 : (value d t).1 ≠ 3) (h4 : (value d t).1 ≠ 4) : (value d t).2.1.length ≤ 1 ∧ (value d t).1 ≤ 1 := by
 cases d with
 | zero => simp [value]
 | succ d =>
  simp only [value] at h2 h3 h4 ⊢
  split at h2
  ·rename_i h; rw [if_pos h]; simp
  ·rename_i k1
   rw [if_neg k1] at h3 h4 ⊢
   split at h2
   ·rename_i h; rw [if_pos h]; simp
   ·rename_i k2
    rw [if_neg k2] at h3 h4 ⊢
    split at h2
    ·rename_i h; rw [if_pos h]; simp
    ·rename_i k3
     rw [if_neg k3] at h3 h4 ⊢
     split at h2
     ·simp at h2
     ·rename_i k4
      rw [if_neg k4] at h3 h4 ⊢
      split at h3
      ·simp at h3
      ·rename_i k5
       rw [if_neg k5] at h4 ⊢
       split at h4
       ·simp at h4
       ·rename_i k6
        rw [if_neg k6]; simp
theorem parts_kind (v : Txt) : (parts v).1 = -1 ∨ 0 ≤ (parts v).1 := by
 unfold parts
 split
 ·exact .inr (Int.le_refl _)
 ·simp only
  split
  ·exact .inr (Int.le_refl _)
  ·exact value_kind _ _
theorem parts_small (v : Txt) (h2 : (parts v).1 ≠ 2) (h3 : (parts v).1 ≠ 3) (h4 : (parts v).1 ≠ 4) : (parts v).2.1.length ≤ 1 ∧ (parts v).1 ≤ 1 := by
 unfold parts at h2 h3 h4 ⊢
 split at h2
 ·rename_i h; rw [if_pos h]; simp
 ·rename_i h
  rw [if_neg h] at h3 h4 ⊢
  simp only at h2 h3 h4 ⊢
  split at h2
  ·rename_i hb; rw [if_pos hb]; simp
  ·rename_i hb
   rw [if_neg hb] at h3 h4 ⊢
   exact value_small _ _ h2 h3 h4
theorem allOf_not (f : Nat → Txt → Bool) (ks : List Nat) (ps : List Txt) (i : Nat) (hl : ps.length = ks.length) (hi : i < ps.length) (h : f (ks.getD i 0) (ps.getD i []) = false) : false = allOf f ks ps := by
 symm
 unfold allOf
 rw [range_not _ _ i (by omega) h, Bool.false_and]
theorem allOf_yes (f : Nat → Txt → Bool) (ks : List Nat) (ps : List Txt) (hl : ps.length = ks.length) (h : ∀ j, j < ps.length → f (ks.getD j 0) (ps.getD j []) = true) : true = allOf f ks ps := by
 symm
 unfold allOf
 rw [range_all _ _ (fun i hi => h i (by omega)), Bool.true_and, beq_iff_eq]
 exact hl.symm
theorem allOf_len (f : Nat → Txt → Bool) (ks : List Nat) (ps : List Txt) (hl : ¬ ps.length = ks.length) : false = allOf f ks ps := by
 symm
 unfold allOf
 rw [Bool.and_eq_false_iff]
 right
 simp
 omega
end Vp

def RefFitsOK (n : Nat) : Prop := ∀ (vv : Value) (ns : List Tp.Nd) (x : Int) (v : Vp.Txt) (W : World), NodesAt W vv ns → v.length < n → v.length ≤ 140737488351232 →
 Calls Tryz.prog 43 #[typeV vv, .int .i64 x, tv v] W fun e w' => e = .returned (.bool (Vp.fits ns n x v)) ∧ Below W.heap.size W w'

set_option maxRecDepth 100000 in
set_option maxHeartbeats 3200000 in
theorem refFits_succ (n : Nat) (ih : RefFitsOK n) : RefFitsOK (n + 1) := by
 intro vv ns x v W hn hvl hv2
 have hbox : Below W.heap.size W (W.alloc (.cells #[vv] 24)) := (Below.refl _ _).alloc (Nat.le_refl _) _
 have hpc : (W.alloc (.cells #[vv] 24)).cell? ⟨W.heap.size, 0, none⟩ = some vv := by simp
 have hps : W.heap.size < (W.alloc (.cells #[vv] 24)).heap.size := by simp
 have hn1 := Lib.hid (hn.below hbox)
 have HN := Lib.hid (nodeMay_calls vv ns x _ hn1.out)
 cases hnd : Tp.node ns x with
 | false =>
  have HU := Lib.hid (show Vp.fits ns (n + 1) x v = false by rw [Vp.fits, hnd]; rfl)
  rw [hnd] at HN
  clear hn
  go_enter Tryz.func43, Tryz.ntmps43
  go_wp2_with (go_at_call 42; refine HN.out.mono ?_; rintro e w' ⟨rfl, hb⟩; replace hb := below_then hbox hb)
  go_ret
  exact ⟨by rw [HU.out]; rfl, hb⟩
 | true =>
  rw [hnd] at HN
  have hb8 : 0 ≤ x ∧ x < ns.length ∧ ns.length ≤ 8 := by
   unfold Tp.node Tp.may at hnd
   simp only [Bool.and_eq_true, decide_eq_true_eq] at hnd
   omega
  obtain ⟨m, rfl⟩ := Int.eq_ofNat_of_zero_le hb8.1
  have hm : m < ns.length := by omega
  have hmi : (m : Int) < (ns.length : Int) := by omega
  obtain ⟨a, c, rfl, hcap, hmx, h3⟩ := hn
  obtain ⟨bk, o, rfl, hbk, hcell⟩ := h3 (by intro e; rw [e] at hm; exact Nat.not_lt_zero _ hm)
  clear h3
  unfold maxLen at hmx
  have hbk1 := Nat.lt_of_lt_of_le hbk hbox.size
  obtain ⟨g0, g1, g2⟩ := hcell m _ (List.getElem?_eq_getElem hm)
  have c0 := (hbox.cell (p := ⟨bk, o + m * 3, none⟩) hbk).trans g0
  have c1 := (hbox.cell (p := ⟨bk, o + m * 3 + 1, none⟩) hbk).trans g1
  have c2 := (hbox.cell (p := ⟨bk, o + m * 3 + 2, none⟩) hbk).trans g2
  have hget : ns.getD m default = ns[m] := by rw [List.getD_eq_getElem?_getD, List.getElem?_eq_getElem hm]; rfl
  have HU : Vp.fits ns (n + 1) (m : Int) v = (if (Vp.parts v).2.2 ≠ 0 ∨ (Vp.parts v).1 = -1 then ((Vp.parts v).2.2 == 0) && (ns[m]).null
   else if (Vp.parts v).1 ≠ (ns[m]).kind then false
   else if (Vp.parts v).1 = 2 then decide (((Vp.parts v).2.1.getD 0 []).length ≤ 16)
   else if (Vp.parts v).1 = 4 then Vp.allOf (fun k p => Vp.fits ns n k p) (Tp.kids ns m) (Vp.parts v).2.1
   else ((Vp.parts v).2.1.all fun p => !((Vp.parts v).1 == 3 && !(Vp.fits ns n ((Tp.kids ns m).getD 0 0) p))) && decide ((Vp.parts v).2.1.length ≤ 64)) := by
   rw [Vp.fits, hnd, Int.toNat_natCast, hget]; rfl
  have HP := Lib.hid (fun W => refParts_calls v W hv2)
  have hsh := Vp.parts_short v
  have hone := Vp.parts_one v
  have hpl := Vp.parts_len v
  have hkn := Vp.parts_kind v
  have hsm := Vp.parts_small v
  have hko1 : (ns[m]).kind = 3 → ∃ k0, Tp.kids ns m = [k0] ∧ k0 ≤ 65536 := fun h => Tp.kids_one ns m hm hnd (by unfold Tp.kindOf; rw [hget]; exact h)
  clear hcell g0 g1 g2 hget
  generalize (ns[m]).kind = kd at c0 HU hko1
  generalize (ns[m]).parent = pr at c1
  generalize (ns[m]).null = nu at c2 HU
  generalize Vp.parts v = q at HP HU hsh hone hpl hkn hsm
  obtain ⟨kind, ps, er⟩ := q
  replace HU := Lib.hid HU
  replace hsh := Lib.hid hsh
  replace hone := Lib.hid hone
  replace hpl := Lib.hid hpl
  replace hko1 := Lib.hid hko1
  replace hsm := Lib.hid hsm
  by_cases he : er = 0
  ·subst he
   by_cases hk1 : kind = -1
   ·subst hk1
    go_enter Tryz.func43, Tryz.ntmps43
    go_wp2_with (first
     | (go_at_call 42; refine HN.out.mono ?_; rintro e w1 ⟨rfl, hb⟩; have hp1 := (hb.cell (p := ⟨W.heap.size, 0, none⟩) hps).trans hpc; have hpw1 := Nat.lt_of_lt_of_le hps hb.size; have e0 := (hb.cell (p := ⟨bk, o + m * 3, none⟩) hbk1).trans c0; have e1 := (hb.cell (p := ⟨bk, o + m * 3 + 1, none⟩) hbk1).trans c1; have e2 := (hb.cell (p := ⟨bk, o + m * 3 + 2, none⟩) hbk1).trans c2)
     | (go_at_call 71; refine (HP.out _).mono ?_; rintro e w2 ⟨r, rfl, hown, hq2⟩; have d0 := (hq2.cell (p := ⟨w1.heap.size, 0, none⟩) (by simp)).trans (by simp; rfl); have d2 := (hq2.cell (p := ⟨w1.heap.size, 2, none⟩) (by simp)).trans (by simp; rfl); have hs2 : w1.heap.size < w2.heap.size := Nat.lt_of_lt_of_le (by simp) hq2.size; have hb2 := below_then (below_alloc hb _) hq2; have hp2 := (hb2.cell (p := ⟨W.heap.size, 0, none⟩) hps).trans hpc; have T2 := Lib.hid (own_texts hown); obtain ⟨ra, rc, rfl⟩ := own_slice hown; clear hown))
    go_ret
    exact ⟨by rw [HU.out]; rfl, hbox.trans (hb2.mono hbox.size)⟩
   ·have hk0 : ¬ kind < 0 := by have := hkn; simp only at this; omega
    clear hkn
    by_cases hkd : kind = kd
    ·subst hkd
     by_cases h2 : kind = 2
     ·subst h2
      obtain ⟨p, rfl⟩ : ∃ p, ps = [p] := List.length_eq_one_iff.1 (hone.out rfl)
      have hz := mk_size p
      have HI := Lib.hid (show (!Tp.inner 2) = true from rfl)
      by_cases h16 : 16 < p.length
      ·have h16' : (16 : Int) < (p.length : Int) := by omega
       go_enter Tryz.func43, Tryz.ntmps43
       go_wp2_with (first
        | (go_at_call 42; refine HN.out.mono ?_; rintro e w1 ⟨rfl, hb⟩; have hp1 := (hb.cell (p := ⟨W.heap.size, 0, none⟩) hps).trans hpc; have hpw1 := Nat.lt_of_lt_of_le hps hb.size; have e0 := (hb.cell (p := ⟨bk, o + m * 3, none⟩) hbk1).trans c0; have e1 := (hb.cell (p := ⟨bk, o + m * 3 + 1, none⟩) hbk1).trans c1; have e2 := (hb.cell (p := ⟨bk, o + m * 3 + 2, none⟩) hbk1).trans c2)
        | (go_at_call 71; refine (HP.out _).mono ?_; rintro e w2 ⟨r, rfl, hown, hq2⟩; have d0 := (hq2.cell (p := ⟨w1.heap.size, 0, none⟩) (by simp)).trans (by simp; rfl); have d2 := (hq2.cell (p := ⟨w1.heap.size, 2, none⟩) (by simp)).trans (by simp; rfl); have hs2 : w1.heap.size < w2.heap.size := Nat.lt_of_lt_of_le (by simp) hq2.size; have hb2 := below_then (below_alloc hb _) hq2; have hp2 := (hb2.cell (p := ⟨W.heap.size, 0, none⟩) hps).trans hpc; obtain ⟨ra, rc, rfl, _, _, h4⟩ := own_texts (xs := [p]) hown; obtain ⟨bk2, o2, rfl, hbk2, hcell2⟩ := h4 (by simp); have q2 := hcell2 0 _ rfl; clear hown h4 hcell2)
        | (go_at_call 64; refine (refKids_calls _ ns m _ (hn1.out.below hb2) hnd).mono ?_; rintro e w3 ⟨kr, rfl, hko, hq3⟩; have f0 := (hq3.cell (p := ⟨w1.heap.size, 0, none⟩) hs2).trans d0; have q3 := (hq3.cell (p := ⟨bk2, o2, none⟩) hbk2).trans q2; have hb3 := below_then hb2 hq3; have hp3 := (hb3.cell (p := ⟨W.heap.size, 0, none⟩) hps).trans hpc; have N3 := Lib.hid (own_nats hko); obtain ⟨ka, kc, rfl⟩ := own_slice hko; clear hko))
       go_ret
       exact ⟨ret_bool (by rw [HU.out]; simp; omega), hbox.trans (hb3.mono hbox.size)⟩
      ·have h16' : ¬ (16 : Int) < (p.length : Int) := by omega
       go_enter Tryz.func43, Tryz.ntmps43
       go_wp2_with (first
        | (go_at_call 42; refine HN.out.mono ?_; rintro e w1 ⟨rfl, hb⟩; have hp1 := (hb.cell (p := ⟨W.heap.size, 0, none⟩) hps).trans hpc; have hpw1 := Nat.lt_of_lt_of_le hps hb.size; have e0 := (hb.cell (p := ⟨bk, o + m * 3, none⟩) hbk1).trans c0; have e1 := (hb.cell (p := ⟨bk, o + m * 3 + 1, none⟩) hbk1).trans c1; have e2 := (hb.cell (p := ⟨bk, o + m * 3 + 2, none⟩) hbk1).trans c2)
        | (go_at_call 71; refine (HP.out _).mono ?_; rintro e w2 ⟨r, rfl, hown, hq2⟩; have d0 := (hq2.cell (p := ⟨w1.heap.size, 0, none⟩) (by simp)).trans (by simp; rfl); have d2 := (hq2.cell (p := ⟨w1.heap.size, 2, none⟩) (by simp)).trans (by simp; rfl); have hs2 : w1.heap.size < w2.heap.size := Nat.lt_of_lt_of_le (by simp) hq2.size; have hb2 := below_then (below_alloc hb _) hq2; have hp2 := (hb2.cell (p := ⟨W.heap.size, 0, none⟩) hps).trans hpc; obtain ⟨ra, rc, rfl, _, _, h4⟩ := own_texts (xs := [p]) hown; obtain ⟨bk2, o2, rfl, hbk2, hcell2⟩ := h4 (by simp); have q2 := hcell2 0 _ rfl; clear hown h4 hcell2)
        | (go_at_call 64; refine (refKids_calls _ ns m _ (hn1.out.below hb2) hnd).mono ?_; rintro e w3 ⟨kr, rfl, hko, hq3⟩; have f0 := (hq3.cell (p := ⟨w1.heap.size, 0, none⟩) hs2).trans d0; have q3 := (hq3.cell (p := ⟨bk2, o2, none⟩) hbk2).trans q2; have hb3 := below_then hb2 hq3; have hp3 := (hb3.cell (p := ⟨W.heap.size, 0, none⟩) hps).trans hpc; have N3 := Lib.hid (own_nats hko); obtain ⟨ka, kc, rfl⟩ := own_slice hko; clear hko))
       go_loopw [13] (fun i wr => i = .int .i64 0 ∧ w3 = wr) (fun _ _ => 0)
       case atStart => exact ⟨rfl, rfl⟩
       case round =>
        obtain ⟨rfl, rfl⟩ := hrel
        go_wp2_with (go_at_call 49; refine (isLeaf_calls _ _).mono ?_; rw [HI.out]; rintro e w' ⟨rfl, rfl⟩)
        go_ret
        exact ⟨ret_bool (by rw [HU.out]; simp; omega), hbox.trans (hb3.mono hbox.size)⟩
     ·have h2' : (kind == 2) = false := by simp [h2]
      by_cases h4 : kind = 4
      ·subst h4
       have HI := Lib.hid (show (!Tp.inner 4) = false from rfl)
       obtain ⟨ks, hks⟩ : ∃ ks, Tp.kids ns (m : Int) = ks := ⟨_, rfl⟩
       have HKS := Lib.hid hks
       rw [HKS.out] at HU
       clear hks
       by_cases hlen : ps.length = ks.length
       ·have hleni : ((ps.length : Int) != (ks.length : Int)) = false := by simp [hlen]
        go_enter Tryz.func43, Tryz.ntmps43
        go_wp2_with (first
         | (go_at_call 42; refine HN.out.mono ?_; rintro e w1 ⟨rfl, hb⟩; have hp1 := (hb.cell (p := ⟨W.heap.size, 0, none⟩) hps).trans hpc; have hpw1 := Nat.lt_of_lt_of_le hps hb.size; have e0 := (hb.cell (p := ⟨bk, o + m * 3, none⟩) hbk1).trans c0; have e1 := (hb.cell (p := ⟨bk, o + m * 3 + 1, none⟩) hbk1).trans c1; have e2 := (hb.cell (p := ⟨bk, o + m * 3 + 2, none⟩) hbk1).trans c2)
         | (go_at_call 71; refine (HP.out _).mono ?_; rintro e w2 ⟨r, rfl, hown, hq2⟩; have d0 := (hq2.cell (p := ⟨w1.heap.size, 0, none⟩) (by simp)).trans (by simp; rfl); have d2 := (hq2.cell (p := ⟨w1.heap.size, 2, none⟩) (by simp)).trans (by simp; rfl); have hs2 : w1.heap.size < w2.heap.size := Nat.lt_of_lt_of_le (by simp) hq2.size; have hb2 := below_then (below_alloc hb _) hq2; have hp2 := (hb2.cell (p := ⟨W.heap.size, 0, none⟩) hps).trans hpc; have T2 := Lib.hid (own_texts hown); obtain ⟨ra, rc, rfl⟩ := own_slice hown; clear hown)
         | (go_at_call 64; refine (refKids_calls _ ns m _ (hn1.out.below hb2) hnd).mono ?_; rintro e w3 ⟨kr, rfl, hko, hq3⟩; have f0 := (hq3.cell (p := ⟨w1.heap.size, 0, none⟩) hs2).trans d0; have T3 := Lib.hid (T2.out.below hq3); have hb3 := below_then hb2 hq3; have hp3 := (hb3.cell (p := ⟨W.heap.size, 0, none⟩) hps).trans hpc; rw [HKS.out] at hko; have N3 := Lib.hid (own_nats hko); obtain ⟨ka, kc, rfl⟩ := own_slice hko; clear hko))
        obtain ⟨ra', rc', hva, hpc1, hpc2, hpcell⟩ := T3.out
        obtain ⟨rfl, _, rfl⟩ := Value.slice.inj hva
        obtain ⟨ka', kc', hvk, hkc1, hkc2, hkcell⟩ := N3.out
        obtain ⟨rfl, _, rfl⟩ := Value.slice.inj hvk
        unfold maxLen at hpc2
        unfold maxLen at hkc2
        replace hkcell := Lib.hid hkcell
        replace hpcell := Lib.hid hpcell
        go_loopw [13] (fun i wr => ∃ k : Nat, k ≤ ps.length ∧ i = .int .i64 k ∧ (∀ j, j < k → Vp.fits ns n (ks.getD j 0 : Nat) (ps.getD j []) = true) ∧ Below w3.heap.size w3 wr) (fun i _ => ps.length - (intOf i).toNat)
        case atStart => exact ⟨0, Nat.zero_le _, rfl, fun j hj => absurd hj (Nat.not_lt_zero _), Below.refl _ _⟩
        case round =>
         obtain ⟨k, hk, rfl, hall, hbw⟩ := hrel
         replace hall := Lib.hid hall
         have hp4 := (hbw.cell (p := ⟨W.heap.size, 0, none⟩) (Nat.lt_of_lt_of_le hps hb3.size)).trans hp3
         by_cases hlt : k < ps.length
         ·obtain ⟨bk2, o2, rfl, hbk2, hcell2⟩ := hpcell.out (by intro e; rw [e] at hlt; exact Nat.not_lt_zero _ hlt)
          have q2 := (hbw.cell (p := ⟨bk2, o2 + k, none⟩) hbk2).trans (hcell2 k _ (List.getElem?_eq_getElem hlt))
          have hlti : (k : Int) < (ps.length : Int) := by omega
          have l1 : k < ks.length := by omega
          have l1i : (k : Int) < (ks.length : Int) := by omega
          have l0i : (0 : Int) < (ks.length : Int) := by omega
          have l0 : 0 < ks.length := by omega
          obtain ⟨bkk, ok, rfl, hbkk, hkcell⟩ := hkcell.out (by intro e; rw [e] at l1; exact Nat.not_lt_zero _ l1)
          have q0 := (hbw.cell (p := ⟨bkk, ok, none⟩) hbkk).trans (by simpa using hkcell 0 _ (List.getElem?_eq_getElem l0))
          have q1 := (hbw.cell (p := ⟨bkk, ok + k, none⟩) hbkk).trans (hkcell k _ (List.getElem?_eq_getElem l1))
          have HG := Lib.hid (show Vp.fits ns n (ks.getD k 0 : Nat) (ps.getD k []) = Vp.fits ns n (ks[k] : Nat) ps[k] by rw [List.getD_eq_getElem?_getD, List.getD_eq_getElem?_getD, List.getElem?_eq_getElem l1, List.getElem?_eq_getElem hlt]; rfl)
          have HC := Lib.hid (fun W' (h : Below w3.heap.size w3 W') => ih _ ns (ks[k] : Nat) ps[k] W' (hn1.out.below (below_then hb3 h)) (by have := hsh.out (show (3 : Int) ≤ 4 by decide) ps[k] (List.getElem_mem hlt); omega) (by have := hpl.out ps[k] (List.getElem_mem hlt) (show (3 : Int) ≤ 4 by decide); omega))
          generalize ks[0] = kz at q0
          generalize ks[k] = x at q1 HC HG
          generalize ps[k] = y at q2 HC HG
          clear hkcell
          clear hcell2
          cases hf : Vp.fits ns n (x : Nat) y with
          | true =>
           have HF := Lib.hid hf
           clear hf
           go_wp2_with (go_at_call 49; refine (isLeaf_calls _ _).mono ?_; rw [HI.out]; rintro e w' ⟨rfl, rfl⟩)
           go_region_with (refine (HC.out _ (by repeat (first | exact hbw | apply below_drewN | apply below_drew))).mono ?_; rw [HF.out]; rintro e w' ⟨rfl, hb4⟩)
           all_goals
            have hb5 := Below.trans (below_drew hbw) (hb4.mono (by simpa using hbw.size))
            go_wp2
            exact ⟨⟨k + 1, by omega, by go_num, all_snoc _ k hall.out (HG.out.trans HF.out), hb5⟩, by simp [intOf]; omega⟩
          | false =>
           have HF := Lib.hid hf
           clear hf
           go_wp2_with (go_at_call 49; refine (isLeaf_calls _ _).mono ?_; rw [HI.out]; rintro e w' ⟨rfl, rfl⟩)
           go_region_with (refine (HC.out _ (by repeat (first | exact hbw | apply below_drewN | apply below_drew))).mono ?_; rw [HF.out]; rintro e w' ⟨rfl, hb4⟩)
           all_goals
            have hb5 := Below.trans (below_drew hbw) (hb4.mono (by simpa using hbw.size))
            go_wp2
            go_ret
            exact ⟨ret_bool (by rw [HU.out, if_neg (by simp), if_neg (by simp), if_neg (by decide), if_pos trivial]; exact Vp.allOf_not _ ks ps k (by omega) hlt (HG.out.trans HF.out)), hbox.trans ((hb3.trans (hb5.mono hb3.size)).mono hbox.size)⟩
         ·obtain rfl : k = ps.length := by omega
          have hal := Lib.hid ( hall.out)
          clear hall
          go_wp2
          go_ret
          exact ⟨ret_bool (by rw [HU.out, if_neg (by simp), if_neg (by simp), if_neg (by decide), if_pos trivial]; exact Vp.allOf_yes _ ks ps (by omega) hal.out), hbox.trans ((below_then hb3 hbw).mono hbox.size)⟩
       ·have hleni : ((ps.length : Int) != (ks.length : Int)) = true := by simp; omega
        go_enter Tryz.func43, Tryz.ntmps43
        go_wp2_with (first
         | (go_at_call 42; refine HN.out.mono ?_; rintro e w1 ⟨rfl, hb⟩; have hp1 := (hb.cell (p := ⟨W.heap.size, 0, none⟩) hps).trans hpc; have hpw1 := Nat.lt_of_lt_of_le hps hb.size; have e0 := (hb.cell (p := ⟨bk, o + m * 3, none⟩) hbk1).trans c0; have e1 := (hb.cell (p := ⟨bk, o + m * 3 + 1, none⟩) hbk1).trans c1; have e2 := (hb.cell (p := ⟨bk, o + m * 3 + 2, none⟩) hbk1).trans c2)
         | (go_at_call 71; refine (HP.out _).mono ?_; rintro e w2 ⟨r, rfl, hown, hq2⟩; have d0 := (hq2.cell (p := ⟨w1.heap.size, 0, none⟩) (by simp)).trans (by simp; rfl); have d2 := (hq2.cell (p := ⟨w1.heap.size, 2, none⟩) (by simp)).trans (by simp; rfl); have hs2 : w1.heap.size < w2.heap.size := Nat.lt_of_lt_of_le (by simp) hq2.size; have hb2 := below_then (below_alloc hb _) hq2; have hp2 := (hb2.cell (p := ⟨W.heap.size, 0, none⟩) hps).trans hpc; have T2 := Lib.hid (own_texts hown); obtain ⟨ra, rc, rfl⟩ := own_slice hown; clear hown)
         | (go_at_call 64; refine (refKids_calls _ ns m _ (hn1.out.below hb2) hnd).mono ?_; rintro e w3 ⟨kr, rfl, hko, hq3⟩; have f0 := (hq3.cell (p := ⟨w1.heap.size, 0, none⟩) hs2).trans d0; have T3 := Lib.hid (T2.out.below hq3); have hb3 := below_then hb2 hq3; have hp3 := (hb3.cell (p := ⟨W.heap.size, 0, none⟩) hps).trans hpc; rw [HKS.out] at hko; have N3 := Lib.hid (own_nats hko); obtain ⟨ka, kc, rfl⟩ := own_slice hko; clear hko))
        go_ret
        exact ⟨ret_bool (by rw [HU.out, if_neg (by simp), if_neg (by simp), if_neg (by decide), if_pos trivial]; exact Vp.allOf_len _ ks ps hlen), hbox.trans (hb3.mono hbox.size)⟩
      ·have h4' : (kind == 4) = false := by simp [h4]
       by_cases h3 : kind = 3
       ·subst h3
        have HI := Lib.hid (show (!Tp.inner 3) = false from rfl)
        obtain ⟨k0, hks, hk8⟩ := hko1.out rfl
        have HKS := Lib.hid hks
        clear hks
        by_cases h64 : 64 < ps.length
        ·have h64' : (64 : Int) < (ps.length : Int) := by omega
         go_enter Tryz.func43, Tryz.ntmps43
         go_wp2_with (first
          | (go_at_call 42; refine HN.out.mono ?_; rintro e w1 ⟨rfl, hb⟩; have hp1 := (hb.cell (p := ⟨W.heap.size, 0, none⟩) hps).trans hpc; have hpw1 := Nat.lt_of_lt_of_le hps hb.size; have e0 := (hb.cell (p := ⟨bk, o + m * 3, none⟩) hbk1).trans c0; have e1 := (hb.cell (p := ⟨bk, o + m * 3 + 1, none⟩) hbk1).trans c1; have e2 := (hb.cell (p := ⟨bk, o + m * 3 + 2, none⟩) hbk1).trans c2)
          | (go_at_call 71; refine (HP.out _).mono ?_; rintro e w2 ⟨r, rfl, hown, hq2⟩; have d0 := (hq2.cell (p := ⟨w1.heap.size, 0, none⟩) (by simp)).trans (by simp; rfl); have d2 := (hq2.cell (p := ⟨w1.heap.size, 2, none⟩) (by simp)).trans (by simp; rfl); have hs2 : w1.heap.size < w2.heap.size := Nat.lt_of_lt_of_le (by simp) hq2.size; have hb2 := below_then (below_alloc hb _) hq2; have hp2 := (hb2.cell (p := ⟨W.heap.size, 0, none⟩) hps).trans hpc; have T2 := Lib.hid (own_texts hown); obtain ⟨ra, rc, rfl⟩ := own_slice hown; clear hown)
          | (go_at_call 64; refine (refKids_calls _ ns m _ (hn1.out.below hb2) hnd).mono ?_; rintro e w3 ⟨kr, rfl, hko, hq3⟩; have f0 := (hq3.cell (p := ⟨w1.heap.size, 0, none⟩) hs2).trans d0; have T3 := Lib.hid (T2.out.below hq3); have hb3 := below_then hb2 hq3; have hp3 := (hb3.cell (p := ⟨W.heap.size, 0, none⟩) hps).trans hpc; rw [HKS.out] at hko; have N3 := Lib.hid (own_nats hko); obtain ⟨ka, kc, rfl⟩ := own_slice hko; clear hko))
         go_ret
         exact ⟨ret_bool (by rw [HU.out, if_neg (by simp), if_neg (by simp), if_neg (by decide), if_neg (by decide), decide_eq_false (by simp; omega), Bool.and_false]), hbox.trans (hb3.mono hbox.size)⟩
        ·have h64' : ¬ (64 : Int) < (ps.length : Int) := by omega
         go_enter Tryz.func43, Tryz.ntmps43
         go_wp2_with (first
          | (go_at_call 42; refine HN.out.mono ?_; rintro e w1 ⟨rfl, hb⟩; have hp1 := (hb.cell (p := ⟨W.heap.size, 0, none⟩) hps).trans hpc; have hpw1 := Nat.lt_of_lt_of_le hps hb.size; have e0 := (hb.cell (p := ⟨bk, o + m * 3, none⟩) hbk1).trans c0; have e1 := (hb.cell (p := ⟨bk, o + m * 3 + 1, none⟩) hbk1).trans c1; have e2 := (hb.cell (p := ⟨bk, o + m * 3 + 2, none⟩) hbk1).trans c2)
          | (go_at_call 71; refine (HP.out _).mono ?_; rintro e w2 ⟨r, rfl, hown, hq2⟩; have d0 := (hq2.cell (p := ⟨w1.heap.size, 0, none⟩) (by simp)).trans (by simp; rfl); have d2 := (hq2.cell (p := ⟨w1.heap.size, 2, none⟩) (by simp)).trans (by simp; rfl); have hs2 : w1.heap.size < w2.heap.size := Nat.lt_of_lt_of_le (by simp) hq2.size; have hb2 := below_then (below_alloc hb _) hq2; have hp2 := (hb2.cell (p := ⟨W.heap.size, 0, none⟩) hps).trans hpc; have T2 := Lib.hid (own_texts hown); obtain ⟨ra, rc, rfl⟩ := own_slice hown; clear hown)
          | (go_at_call 64; refine (refKids_calls _ ns m _ (hn1.out.below hb2) hnd).mono ?_; rintro e w3 ⟨kr, rfl, hko, hq3⟩; have f0 := (hq3.cell (p := ⟨w1.heap.size, 0, none⟩) hs2).trans d0; have T3 := Lib.hid (T2.out.below hq3); have hb3 := below_then hb2 hq3; have hp3 := (hb3.cell (p := ⟨W.heap.size, 0, none⟩) hps).trans hpc; rw [HKS.out] at hko; have N3 := Lib.hid (own_nats hko); obtain ⟨ka, kc, rfl⟩ := own_slice hko; clear hko))
         obtain ⟨ra', rc', hva, hpc1, hpc2, hpcell⟩ := T3.out
         obtain ⟨rfl, _, rfl⟩ := Value.slice.inj hva
         obtain ⟨ka', kc', hvk, hkc1, hkc2, hkcell⟩ := N3.out
         obtain ⟨rfl, _, rfl⟩ := Value.slice.inj hvk
         unfold maxLen at hpc2
         unfold maxLen at hkc2
         obtain ⟨bkk, ok, rfl, hbkk, hkcell⟩ := hkcell (by simp)
         have k1 := hkcell 0 k0 rfl
         rw [Nat.add_zero] at k1
         clear hkcell
         replace hpcell := Lib.hid hpcell
         go_loopw [13] (fun i wr => ∃ k : Nat, k ≤ ps.length ∧ i = .int .i64 k ∧ (∀ j, j < k → Vp.fits ns n (k0 : Nat) (ps.getD j []) = true) ∧ Below w3.heap.size w3 wr) (fun i _ => ps.length - (intOf i).toNat)
         case atStart => exact ⟨0, Nat.zero_le _, rfl, fun j hj => absurd hj (Nat.not_lt_zero _), Below.refl _ _⟩
         case round =>
          obtain ⟨k, hk, rfl, hall, hbw⟩ := hrel
          replace hall := Lib.hid hall
          have hp4 := (hbw.cell (p := ⟨W.heap.size, 0, none⟩) (Nat.lt_of_lt_of_le hps hb3.size)).trans hp3
          by_cases hlt : k < ps.length
          ·obtain ⟨bk2, o2, rfl, hbk2, hcell2⟩ := hpcell.out (by intro e; rw [e] at hlt; exact Nat.not_lt_zero _ hlt)
           have q2 := (hbw.cell (p := ⟨bk2, o2 + k, none⟩) hbk2).trans (hcell2 k _ (List.getElem?_eq_getElem hlt))
           have hlti : (k : Int) < (ps.length : Int) := by omega
           have q0 := (hbw.cell (p := ⟨bkk, ok, none⟩) hbkk).trans k1
           have HM := Lib.hid (List.getElem_mem hlt)
           have HG := Lib.hid (show Vp.fits ns n (k0 : Nat) (ps.getD k []) = Vp.fits ns n (k0 : Nat) ps[k] by rw [List.getD_eq_getElem?_getD, List.getElem?_eq_getElem hlt]; rfl)
           have HC := Lib.hid (fun W' (h : Below w3.heap.size w3 W') => ih _ ns (k0 : Nat) ps[k] W' (hn1.out.below (below_then hb3 h)) (by have := hsh.out (show (3 : Int) ≤ 3 by decide) ps[k] (List.getElem_mem hlt); omega) (by have := hpl.out ps[k] (List.getElem_mem hlt) (show (3 : Int) ≤ 3 by decide); omega))
           generalize ps[k] = y at q2 HC HG HM
           clear k1
           clear hcell2
           cases hf : Vp.fits ns n (k0 : Nat) y with
           | true =>
            have HF := Lib.hid hf
            clear hf
            go_wp2_with (go_at_call 49; refine (isLeaf_calls _ _).mono ?_; rw [HI.out]; rintro e w' ⟨rfl, rfl⟩)
            go_region_with (refine (HC.out _ (by repeat (first | exact hbw | apply below_drewN | apply below_drew))).mono ?_; rw [HF.out]; rintro e w' ⟨rfl, hb4⟩)
            all_goals
             have hb5 := Below.trans (below_drew hbw) (hb4.mono (by simpa using hbw.size))
             go_wp2
             exact ⟨⟨k + 1, by omega, by go_num, all_snoc _ k hall.out (HG.out.trans HF.out), hb5⟩, by simp [intOf]; omega⟩
           | false =>
            have HF := Lib.hid hf
            clear hf
            go_wp2_with (go_at_call 49; refine (isLeaf_calls _ _).mono ?_; rw [HI.out]; rintro e w' ⟨rfl, rfl⟩)
            go_region_with (refine (HC.out _ (by repeat (first | exact hbw | apply below_drewN | apply below_drew))).mono ?_; rw [HF.out]; rintro e w' ⟨rfl, hb4⟩)
            all_goals
             have hb5 := Below.trans (below_drew hbw) (hb4.mono (by simpa using hbw.size))
             go_wp2
             go_ret
             exact ⟨ret_bool (by rw [HU.out]; rw [if_neg (by simp), if_neg (by simp), if_neg (by decide), if_neg (by decide)]; rw [HKS.out]; rw [show (ps.all fun p => !((3 : Int) == 3 && !(Vp.fits ns n (([k0].getD 0 0 : Nat) : Int) p))) = false from List.all_eq_false.2 ⟨y, HM.out, by simpa using HF.out⟩, Bool.false_and]), hbox.trans ((hb3.trans (hb5.mono hb3.size)).mono hbox.size)⟩
          ·obtain rfl : k = ps.length := by omega
           have hal := Lib.hid (Vp.list_all_of _ _ hall.out)
           clear hall
           go_wp2
           go_ret
           exact ⟨ret_bool (by rw [HU.out]; rw [if_neg (by simp), if_neg (by simp), if_neg (by decide), if_neg (by decide)]; rw [HKS.out]; rw [show (ps.all fun p => !((3 : Int) == 3 && !(Vp.fits ns n (([k0].getD 0 0 : Nat) : Int) p))) = true from by simpa using hal.out, Bool.true_and]; simp; omega), hbox.trans ((below_then hb3 hbw).mono hbox.size)⟩
       ·have h3' : (kind == 3) = false := by simp [h3]
        have hsm1 := (hsm.out h2 h3 h4).1
        have HI := Lib.hid (show (!Tp.inner kind) = true by unfold Tp.inner; simp [h3, h4])
        go_enter Tryz.func43, Tryz.ntmps43
        go_wp2_with (first
         | (go_at_call 42; refine HN.out.mono ?_; rintro e w1 ⟨rfl, hb⟩; have hp1 := (hb.cell (p := ⟨W.heap.size, 0, none⟩) hps).trans hpc; have hpw1 := Nat.lt_of_lt_of_le hps hb.size; have e0 := (hb.cell (p := ⟨bk, o + m * 3, none⟩) hbk1).trans c0; have e1 := (hb.cell (p := ⟨bk, o + m * 3 + 1, none⟩) hbk1).trans c1; have e2 := (hb.cell (p := ⟨bk, o + m * 3 + 2, none⟩) hbk1).trans c2)
         | (go_at_call 71; refine (HP.out _).mono ?_; rintro e w2 ⟨r, rfl, hown, hq2⟩; have d0 := (hq2.cell (p := ⟨w1.heap.size, 0, none⟩) (by simp)).trans (by simp; rfl); have d2 := (hq2.cell (p := ⟨w1.heap.size, 2, none⟩) (by simp)).trans (by simp; rfl); have hs2 : w1.heap.size < w2.heap.size := Nat.lt_of_lt_of_le (by simp) hq2.size; have hb2 := below_then (below_alloc hb _) hq2; have hp2 := (hb2.cell (p := ⟨W.heap.size, 0, none⟩) hps).trans hpc; have T2 := Lib.hid (own_texts hown); obtain ⟨ra, rc, rfl⟩ := own_slice hown; clear hown)
         | (go_at_call 64; refine (refKids_calls _ ns m _ (hn1.out.below hb2) hnd).mono ?_; rintro e w3 ⟨kr, rfl, hko, hq3⟩; have f0 := (hq3.cell (p := ⟨w1.heap.size, 0, none⟩) hs2).trans d0; have T3 := Lib.hid (T2.out.below hq3); have hb3 := below_then hb2 hq3; have hp3 := (hb3.cell (p := ⟨W.heap.size, 0, none⟩) hps).trans hpc; have N3 := Lib.hid (own_nats hko); obtain ⟨ka, kc, rfl⟩ := own_slice hko; clear hko))
        go_loopw [13] (fun i wr => i = .int .i64 0 ∧ w3 = wr) (fun _ _ => 0)
        case atStart => exact ⟨rfl, rfl⟩
        case round =>
         obtain ⟨rfl, rfl⟩ := hrel
         by_cases hps0 : (0 : Int) < (ps.length : Int)
         ·go_wp2_with (go_at_call 49; refine (isLeaf_calls _ _).mono ?_; rw [HI.out]; rintro e w' ⟨rfl, rfl⟩)
          go_ret
          exact ⟨ret_bool (by rw [HU.out]; rw [if_neg (by simp [hk1]), if_neg (by simp), if_neg h2, if_neg h4]; simp only [h3', Bool.false_and, Bool.not_false]; rw [show (ps.all fun _ => true) = true from List.all_eq_true.2 (fun _ _ => rfl), Bool.true_and]; simp; omega), hbox.trans (hb3.mono hbox.size)⟩
         ·go_wp2_with (go_at_call 49; refine (isLeaf_calls _ _).mono ?_; rw [HI.out]; rintro e w' ⟨rfl, rfl⟩)
          go_ret
          exact ⟨ret_bool (by rw [HU.out]; rw [if_neg (by simp [hk1]), if_neg (by simp), if_neg h2, if_neg h4]; simp only [h3', Bool.false_and, Bool.not_false]; rw [show (ps.all fun _ => true) = true from List.all_eq_true.2 (fun _ _ => rfl), Bool.true_and]; simp; omega), hbox.trans (hb3.mono hbox.size)⟩
    ·have hkd' : (kind != kd) = true := by simp [hkd]
     go_enter Tryz.func43, Tryz.ntmps43
     go_wp2_with (first
      | (go_at_call 42; refine HN.out.mono ?_; rintro e w1 ⟨rfl, hb⟩; have hp1 := (hb.cell (p := ⟨W.heap.size, 0, none⟩) hps).trans hpc; have hpw1 := Nat.lt_of_lt_of_le hps hb.size; have e0 := (hb.cell (p := ⟨bk, o + m * 3, none⟩) hbk1).trans c0; have e1 := (hb.cell (p := ⟨bk, o + m * 3 + 1, none⟩) hbk1).trans c1; have e2 := (hb.cell (p := ⟨bk, o + m * 3 + 2, none⟩) hbk1).trans c2)
      | (go_at_call 71; refine (HP.out _).mono ?_; rintro e w2 ⟨r, rfl, hown, hq2⟩; have d0 := (hq2.cell (p := ⟨w1.heap.size, 0, none⟩) (by simp)).trans (by simp; rfl); have d2 := (hq2.cell (p := ⟨w1.heap.size, 2, none⟩) (by simp)).trans (by simp; rfl); have hs2 : w1.heap.size < w2.heap.size := Nat.lt_of_lt_of_le (by simp) hq2.size; have hb2 := below_then (below_alloc hb _) hq2; have hp2 := (hb2.cell (p := ⟨W.heap.size, 0, none⟩) hps).trans hpc; have T2 := Lib.hid (own_texts hown); obtain ⟨ra, rc, rfl⟩ := own_slice hown; clear hown)
      | (go_at_call 64; refine (refKids_calls _ ns m _ (hn1.out.below hb2) hnd).mono ?_; rintro e w3 ⟨kr, rfl, hko, hq3⟩; have f0 := (hq3.cell (p := ⟨w1.heap.size, 0, none⟩) hs2).trans d0; have T3 := Lib.hid (T2.out.below hq3); have hb3 := below_then hb2 hq3; have hp3 := (hb3.cell (p := ⟨W.heap.size, 0, none⟩) hps).trans hpc; have N3 := Lib.hid (own_nats hko); obtain ⟨ka, kc, rfl⟩ := own_slice hko; clear hko))
     go_ret
     exact ⟨by rw [HU.out, if_neg (by simp [hk1]), if_pos hkd]; rfl, hbox.trans (hb3.mono hbox.size)⟩
  ·have he' : (er != 0) = true := by simp [he]
   go_enter Tryz.func43, Tryz.ntmps43
   go_wp2_with (first
    | (go_at_call 42; refine HN.out.mono ?_; rintro e w1 ⟨rfl, hb⟩; have hp1 := (hb.cell (p := ⟨W.heap.size, 0, none⟩) hps).trans hpc; have hpw1 := Nat.lt_of_lt_of_le hps hb.size; have e0 := (hb.cell (p := ⟨bk, o + m * 3, none⟩) hbk1).trans c0; have e1 := (hb.cell (p := ⟨bk, o + m * 3 + 1, none⟩) hbk1).trans c1; have e2 := (hb.cell (p := ⟨bk, o + m * 3 + 2, none⟩) hbk1).trans c2)
    | (go_at_call 71; refine (HP.out _).mono ?_; rintro e w2 ⟨r, rfl, hown, hq2⟩; have d0 := (hq2.cell (p := ⟨w1.heap.size, 0, none⟩) (by simp)).trans (by simp; rfl); have d2 := (hq2.cell (p := ⟨w1.heap.size, 2, none⟩) (by simp)).trans (by simp; rfl); have hs2 : w1.heap.size < w2.heap.size := Nat.lt_of_lt_of_le (by simp) hq2.size; have hb2 := below_then (below_alloc hb _) hq2; have hp2 := (hb2.cell (p := ⟨W.heap.size, 0, none⟩) hps).trans hpc; have T2 := Lib.hid (own_texts hown); obtain ⟨ra, rc, rfl⟩ := own_slice hown; clear hown))
   go_ret
   exact ⟨ret_bool (by rw [HU.out]; simp [he]), hbox.trans (hb2.mono hbox.size)⟩
theorem refFits_all : ∀ n, RefFitsOK n
 | 0 => fun _ _ _ _ _ _ h _ => absurd h (Nat.not_lt_zero _)
 | n + 1 => refFits_succ n (refFits_all n)
/-- The reference's Fits is the program's. -/
theorem refFits_calls (vv : Value) (ns : List Tp.Nd) (x : Int) (v : Vp.Txt) (W : World) (hn : NodesAt W vv ns) (hl : v.length ≤ 140737488351232) :
  Calls Tryz.prog 43 #[typeV vv, .int .i64 x, tv v] W fun e w' => e = .returned (.bool (Vp.fits ns (v.length + 1) x v)) ∧ Below W.heap.size W w' :=
 refFits_all _ vv ns x v W hn (Nat.lt_succ_self _) hl
end Go.Proofs.YtobhjlchpnpleaaGreatDoor
