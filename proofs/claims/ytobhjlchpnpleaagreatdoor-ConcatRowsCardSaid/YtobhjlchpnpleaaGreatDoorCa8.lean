/- Chapter 7: value.all, Fits, walked. -/
import Derived.Test.YtobhjlchpnpleaaGreatDoorCa5
import Derived.Test.YtobhjlchpnpleaaGreatDoorCa6
import Derived.Test.YtobhjlchpnpleaaGreatDoorCa1
namespace Go.Proofs.YtobhjlchpnpleaaGreatDoor
open Go.RowKit
set_option linter.unusedVariables false
set_option linter.unusedSimpArgs false

/-- A slice of node numbers. -/
def NatsAt (w : World) (v : Value) (xs : List Nat) : Prop :=
 ∃ a c, v = .slice a xs.length c ∧ xs.length ≤ c ∧ c ≤ maxLen ∧ (xs ≠ [] → ∃ bk o, a = some ⟨bk, o, none⟩ ∧ bk < w.heap.size ∧ ∀ (j x : Nat), xs[j]? = some x → w.cell? ⟨bk, o + j, none⟩ = some (.int .i64 (x : Int)))
theorem own_nats {w : World} {base : Nat} {v : Value} {xs : List Nat} (h : w.ownsRow base 3 1 v xs.length (natv xs)) : NatsAt w v xs := by
 obtain ⟨hl, h⟩ := h
 rcases h with ⟨rfl, hx⟩ | ⟨g, cap, cur, rfl, hb, hh, hnc, hm, hcs, htake⟩
 ·have hx' : xs = [] := by simpa [natv] using hx
  subst hx'
  exact ⟨none, 0, rfl, Nat.le_refl _, by decide, fun h => absurd rfl h⟩
 ·refine ⟨_, cap, rfl, hnc, hm, fun _ => ⟨g, 0, rfl, (Array.getElem?_eq_some_iff.1 hh).1, fun j x hx => ?_⟩⟩
  have hj := (List.getElem?_eq_some_iff.1 hx).1
  simp only [World.cell?, hh, Option.isSome_none, Bool.false_eq_true, if_false]
  rw [Nat.zero_add, ← Array.getElem?_toList]
  have h1 : (cur.toList.take (xs.length * 1))[j]? = some (.int .i64 (x : Int)) := by rw [htake, natv, List.getElem?_map, hx]; rfl
  rw [List.getElem?_take] at h1
  split at h1
  ·exact h1
  ·cases h1

set_option maxHeartbeats 1600000 in
theorem all_calls (kv pv cp : Value) (g : FuncId) (f : Nat → Vp.Txt → Bool) (ks : List Nat) (ps : List Vp.Txt) (W : World) (hg : ∀ xs W, (callFunc g xs).run Tryz.prog W = .ok (.enter g xs) W) (hk : NatsAt W kv ks) (hp : TextsAt W pv ps)
  (hstep : ∀ (k : Nat) (p : Vp.Txt) W', k ∈ ks → p ∈ ps → Below W.heap.size W W' → Calls Tryz.prog g #[.int .i64 (k : Int), tv p, cp] W' fun e w' => e = .returned (.bool (f k p)) ∧ Below W'.heap.size W' w') :
  Calls Tryz.prog 89 #[kv, pv, .func (.func g) #[] #[cp]] W fun e w' => e = .returned (.bool (Vp.allOf f ks ps)) ∧ Below W.heap.size W w' := by
 obtain ⟨a, c, rfl, hc, hm, h3⟩ := hk
 obtain ⟨a', c', rfl, hc', hm', h3'⟩ := hp
 unfold maxLen at hm hm'
 replace h3 := Lib.hid h3
 replace h3' := Lib.hid h3'
 have HS := Lib.hid hstep
 have HA := Lib.hid (show Vp.allOf f ks ps = ((List.range (min ks.length ps.length)).all (fun i => f (ks.getD i 0) (ps.getD i [])) && (ks.length == ps.length)) from rfl)
 clear hstep
 go_enter Tryz.func89, Tryz.ntmps89
 go_wp2
 rw [show min (ks.length : Int) (ps.length : Int) = ((min ks.length ps.length : Nat) : Int) by omega]
 obtain ⟨M, hM⟩ : ∃ M, min ks.length ps.length = M := ⟨_, rfl⟩
 have hM1 : M ≤ ks.length := by omega
 have hM2 : M ≤ ps.length := by omega
 rw [hM] at HA ⊢
 clear hM
 go_loopw [13] (fun i wr => ∃ k : Nat, k ≤ M ∧ i = .int .i64 k ∧ (∀ j, j < k → f (ks.getD j 0) (ps.getD j []) = true) ∧ Below W.heap.size W wr) (fun i _ => M - (intOf i).toNat)
 case atStart => exact ⟨0, Nat.zero_le _, rfl, fun j hj => absurd hj (Nat.not_lt_zero _), Below.refl _ _⟩
 case round =>
  obtain ⟨k, hk, rfl, hall, hb⟩ := hrel
  replace hall := Lib.hid hall
  by_cases hlt : k < M
  ·have l1 : k < ks.length := by omega
   have l2 : k < ps.length := by omega
   obtain ⟨bk, o, rfl, hbk, hcell⟩ := h3.out (by intro e; rw [e] at l1; exact Nat.not_lt_zero _ l1)
   obtain ⟨bk', o', rfl, hbk', hcell'⟩ := h3'.out (by intro e; rw [e] at l2; exact Nat.not_lt_zero _ l2)
   have c1 := (hb.cell (p := ⟨bk, o + k, none⟩) hbk).trans (hcell k _ (List.getElem?_eq_getElem l1))
   have c2 := (hb.cell (p := ⟨bk', o' + k, none⟩) hbk').trans (hcell' k _ (List.getElem?_eq_getElem l2))
   have HC := Lib.hid (fun W' (h : Below W.heap.size W W') => HS.out ks[k] ps[k] W' (List.getElem_mem l1) (List.getElem_mem l2) h)
   have HG := Lib.hid (show f (ks.getD k 0) (ps.getD k []) = f ks[k] ps[k] by rw [List.getD_eq_getElem?_getD, List.getD_eq_getElem?_getD, List.getElem?_eq_getElem l1, List.getElem?_eq_getElem l2]; rfl)
   clear hcell hcell' h3 h3'
   generalize ks[k] = x at c1 HC HG
   generalize ps[k] = y at c2 HC HG
   cases hf : f x y with
   | true =>
    have HF := Lib.hid hf
    go_wp2
    go_region_with (refine (HC.out _ (by repeat (first | exact hb | apply below_drewN | apply below_drew))).mono ?_; rw [HF.out]; rintro e w' ⟨rfl, hb2⟩)
    all_goals
     have hb3 := Below.trans (below_drew hb) (hb2.mono (by simpa using hb.size))
     go_wp2
     exact ⟨⟨k + 1, by omega, by go_num, all_snoc _ k hall.out (HG.out.trans HF.out), hb3⟩, by simp [intOf]; omega⟩
   | false =>
    have HF := Lib.hid hf
    go_wp2
    go_region_with (refine (HC.out _ (by repeat (first | exact hb | apply below_drewN | apply below_drew))).mono ?_; rw [HF.out]; rintro e w' ⟨rfl, hb2⟩)
    all_goals
     have hb3 := Below.trans (below_drew hb) (hb2.mono (by simpa using hb.size))
     go_wp2
     go_ret
     exact ⟨by rw [HA.out, range_not _ _ k hlt (HG.out.trans HF.out), Bool.false_and]; rfl, hb3⟩
  ·obtain rfl : k = M := by omega
   have HR := Lib.hid (range_all _ _ hall.out)
   clear hall
   go_wp2
   go_ret
   exact ⟨ret_bool (by rw [HA.out, HR.out, Bool.true_and, Bool.eq_iff_iff, beq_iff_eq, beq_iff_eq]; omega), hb⟩

def FitsOK (n : Nat) : Prop := ∀ (vv : Value) (ns : List Tp.Nd) (x : Int) (v : Vp.Txt) (W : World), NodesAt W vv ns → Vars W → x ≤ 9223372036854775807 → v.length < n → v.length ≤ 140737488351232 →
 Calls Tryz.prog 59 #[typeV vv, .int .i64 x, tv v] W fun e w' => e = .returned (.bool (Vp.fits ns n x v)) ∧ Below W.heap.size W w'

theorem clos_calls (n : Nat) (ih : FitsOK n) (B : Nat) (vv : Value) (ns : List Tp.Nd) (k : Nat) (p : Vp.Txt) (W : World) (hB : W.cell? ⟨B, 0, none⟩ = some vv) (hn : NodesAt W vv ns) (hv : Vars W) (hk : k ≤ 65536) (hp : p.length < n) (hp2 : p.length ≤ 65536) :
  Calls Tryz.prog 88 #[.int .i64 (k : Int), tv p, .pointer (some ⟨B, 0, none⟩)] W fun e w' => e = .returned (.bool (Vp.fits ns n k p)) ∧ Below W.heap.size W w' := by
 have HC := Lib.hid (ih vv ns k p W hn hv (by omega) hp (by omega))
 clear hn ih
 go_enter Tryz.func88, Tryz.ntmps88
 go_wp2_with (go_at_call 59; refine HC.out.mono ?_; rintro e w' ⟨rfl, hb⟩)
 go_ret
 exact ⟨rfl, hb⟩
theorem enter_fits : ∀ xs W, (callFunc 88 xs).run Tryz.prog W = .ok (.enter 88 xs) W := fun _ _ => by kernel_rfl

set_option maxHeartbeats 3200000 in
theorem fits_succ (n : Nat) (ih : FitsOK n) : FitsOK (n + 1) := by
 intro vv ns x v W hn hv hx hvl hv2
 have hbox : Below W.heap.size W (W.alloc (.cells #[vv] 24)) := (Below.refl _ _).alloc (Nat.le_refl _) _
 have hpc : (W.alloc (.cells #[vv] 24)).cell? ⟨W.heap.size, 0, none⟩ = some vv := by simp
 have hps : W.heap.size < (W.alloc (.cells #[vv] 24)).heap.size := by simp
 have hn1 := Lib.hid (hn.below hbox)
 have hv1 := Lib.hid (hv.below hbox hv.six)
 have HN := Lib.hid (node_calls vv ns x _ hn1.out)
 cases hnd : Tp.node ns x with
 | false =>
  have HU := Lib.hid (show Vp.fits ns (n + 1) x v = false by rw [Vp.fits, hnd]; rfl)
  rw [hnd] at HN
  clear hn
  go_enter Tryz.func59, Tryz.ntmps59
  go_wp2_with (go_at_call 60; refine HN.out.mono ?_; rintro e w' ⟨rfl, hb⟩; replace hb := below_then hbox hb)
  go_ret
  exact ⟨by rw [HU.out]; rfl, hb⟩
 | true =>
  rw [hnd] at HN
  have hb8 : 0 ≤ x ∧ x < ns.length ∧ ns.length ≤ 8 := by
   unfold Tp.node Tp.may at hnd
   simp only [Bool.and_eq_true, decide_eq_true_eq] at hnd
   omega
  obtain ⟨m, rfl⟩ := Int.eq_ofNat_of_zero_le hb8.1
  have hm : m < ns.length := by omega
  have six1 : 6 ≤ (W.alloc (.cells #[vv] 24)).heap.size := Nat.le_trans hv.six hbox.size
  obtain ⟨a, c, rfl, hcap, hmx, h3⟩ := hn
  obtain ⟨bk, o, rfl, hbk, hcell⟩ := h3 (by intro e; rw [e] at hm; exact Nat.not_lt_zero _ hm)
  clear h3
  unfold maxLen at hmx
  have hbk1 := Nat.lt_of_lt_of_le hbk hbox.size
  obtain ⟨g0, g1, g2⟩ := hcell m _ (List.getElem?_eq_getElem hm)
  have c0 := (hbox.cell (p := ⟨bk, o + m * 3, none⟩) hbk).trans g0
  have c1 := (hbox.cell (p := ⟨bk, o + m * 3 + 1, none⟩) hbk).trans g1
  have c2 := (hbox.cell (p := ⟨bk, o + m * 3 + 2, none⟩) hbk).trans g2
  have hget : ns.getD m default = ns[m] := by rw [List.getD_eq_getElem?_getD, List.getElem?_eq_getElem hm]; rfl
  have HU : Vp.fits ns (n + 1) (m : Int) v = (if (Vp.parts v).2.2 ≠ 0 ∨ (Vp.parts v).1 = -1 then ((Vp.parts v).2.2 == 0) && (ns[m]).null
   else if (Vp.parts v).1 ≠ (ns[m]).kind then false
   else if (Vp.parts v).1 = 2 then decide (((Vp.parts v).2.1.getD 0 []).length ≤ 16)
   else if (Vp.parts v).1 = 4 then Vp.allOf (fun k p => Vp.fits ns n k p) (Tp.kids ns m) (Vp.parts v).2.1
   else ((Vp.parts v).2.1.all fun p => !((Vp.parts v).1 == 3 && !(Vp.fits ns n ((Tp.kids ns m).getD 0 0) p))) && decide ((Vp.parts v).2.1.length ≤ 64)) := by
   rw [Vp.fits, hnd, Int.toNat_natCast, hget]; rfl
  have HP := Lib.hid (fun W hv => parts_calls v W hv hv2)
  have hsh := Vp.parts_short v
  have hone := Vp.parts_one v
  have hpl := Vp.parts_len v
  have hko1 : (ns[m]).kind = 3 → ∃ k0, Tp.kids ns m = [k0] ∧ k0 ≤ 65536 := fun h => Tp.kids_one ns m hm hnd (by unfold Tp.kindOf; rw [hget]; exact h)
  clear hcell g0 g1 g2 hget
  generalize (ns[m]).kind = kd at c0 HU hko1
  generalize (ns[m]).parent = pr at c1
  generalize (ns[m]).null = nu at c2 HU
  generalize Vp.parts v = q at HP HU hsh hone hpl
  obtain ⟨kind, ps, er⟩ := q
  replace HU := Lib.hid HU
  replace hsh := Lib.hid hsh
  replace hone := Lib.hid hone
  replace hpl := Lib.hid hpl
  replace hko1 := Lib.hid hko1
  by_cases he : er = 0
  ·subst he
   by_cases hk1 : kind = -1
   ·subst hk1
    go_enter Tryz.func59, Tryz.ntmps59
    go_wp2_with (first
     | (go_at_call 60; refine HN.out.mono ?_; rintro e w' ⟨rfl, hb⟩; have hp0 := (hb.cell (p := ⟨W.heap.size, 0, none⟩) hps).trans hpc)
     | (go_at_call 86; refine (HP.out _ (hv1.out.below hb six1)).mono ?_; rintro e w2 ⟨r, rfl, hown, hb2⟩; replace hb2 := below_then hb hb2; have hp2 := (hb2.cell (p := ⟨W.heap.size, 0, none⟩) hps).trans hpc; have hp3 := fun ob => ((below_alloc (Below.refl _ w2) ob).cell (p := ⟨W.heap.size, 0, none⟩) (Nat.lt_of_lt_of_le hps hb2.size)).trans hp2; have e0 := (hb2.cell (p := ⟨bk, o + m * 3, none⟩) hbk1).trans c0; have e1 := (hb2.cell (p := ⟨bk, o + m * 3 + 1, none⟩) hbk1).trans c1; have e2 := (hb2.cell (p := ⟨bk, o + m * 3 + 2, none⟩) hbk1).trans c2; have T2 := Lib.hid (own_texts hown); obtain ⟨ra, rc, rfl⟩ := own_slice hown; clear hown))
    go_ret
    exact ⟨by rw [HU.out]; rfl, hbox.trans ((below_alloc hb2 _).mono hbox.size)⟩
   ·have hk1' : (kind == -1) = false := by simp [hk1]
    by_cases hkd : kind = kd
    ·subst hkd
     by_cases h2 : kind = 2
     ·subst h2
      obtain ⟨p, rfl⟩ : ∃ p, ps = [p] := List.length_eq_one_iff.1 (hone.out rfl)
      have hz := mk_size p
      go_enter Tryz.func59, Tryz.ntmps59
      go_wp2_with (first
       | (go_at_call 60; refine HN.out.mono ?_; rintro e w' ⟨rfl, hb⟩; have hp0 := (hb.cell (p := ⟨W.heap.size, 0, none⟩) hps).trans hpc)
       | (go_at_call 86; refine (HP.out _ (hv1.out.below hb six1)).mono ?_; rintro e w2 ⟨r, rfl, hown, hb2⟩; replace hb2 := below_then hb hb2; have hp2 := (hb2.cell (p := ⟨W.heap.size, 0, none⟩) hps).trans hpc; have hp3 := fun ob => ((below_alloc (Below.refl _ w2) ob).cell (p := ⟨W.heap.size, 0, none⟩) (Nat.lt_of_lt_of_le hps hb2.size)).trans hp2; have e0 := (hb2.cell (p := ⟨bk, o + m * 3, none⟩) hbk1).trans c0; have e1 := (hb2.cell (p := ⟨bk, o + m * 3 + 1, none⟩) hbk1).trans c1; have e2 := (hb2.cell (p := ⟨bk, o + m * 3 + 2, none⟩) hbk1).trans c2; obtain ⟨ra, rc, rfl, _, _, h4⟩ := own_texts (xs := [p]) hown; obtain ⟨bk2, o2, rfl, hbk2, hcell2⟩ := h4 (by simp); have q2 := hcell2 0 _ rfl; clear hown h4 hcell2)
       | (go_at_call 87; refine (kidsOk_calls _ ns m _ (hn1.out.below (below_alloc hb2 _)) hnd).mono ?_; rintro e w3 ⟨kr, rfl, hko, hb3⟩; have d0 := (hb3.cell (p := ⟨w2.heap.size, 0, none⟩) (by simp)).trans (by simp; rfl); have q3 := (((below_alloc (Below.refl _ w2) _).trans (hb3.mono (by simp))).cell (p := ⟨bk2, o2, none⟩) hbk2).trans q2; replace hb3 := below_then (below_alloc hb2 _) hb3; have N3 := Lib.hid (own_nats hko); obtain ⟨ka, kc, rfl⟩ := own_slice hko; clear hko))
      go_ret
      exact ⟨ret_bool (by rw [HU.out]; simp; omega), hbox.trans (hb3.mono hbox.size)⟩
     ·by_cases h4 : kind = 4
      ·subst h4
       have hstep := Lib.hid (show ∀ (w3 : World), Below (W.alloc (.cells #[.slice (some ⟨bk, o, none⟩) ns.length c] 24)).heap.size (W.alloc (.cells #[.slice (some ⟨bk, o, none⟩) ns.length c] 24)) w3 → ∀ (k : Nat) (p : Vp.Txt) (W' : World), k ∈ Tp.kids ns m → p ∈ ps → Below w3.heap.size w3 W' →
         Calls Tryz.prog 88 #[.int .i64 (k : Int), tv p, .pointer (some ⟨W.heap.size, 0, none⟩)] W' fun e w' => e = .returned (.bool (Vp.fits ns n k p)) ∧ Below W'.heap.size W' w' from fun w3 hb3 k p W' hk hp hb' =>
        have hbb := below_then hb3 hb'
        clos_calls n ih W.heap.size _ ns k p W' ((hbb.cell (p := ⟨W.heap.size, 0, none⟩) hps).trans hpc) (hn1.out.below hbb) (hv1.out.below hbb six1) (by unfold Tp.kids Tp.kidsTo at hk; have := (List.mem_filter.1 hk).1; rw [List.mem_range] at this; omega) (by have := hsh.out (show (3 : Int) ≤ 4 by decide) p hp; omega) (hpl.out p hp (show (3 : Int) ≤ 4 by decide)))
       go_enter Tryz.func59, Tryz.ntmps59
       go_wp2_with (first
        | (go_at_call 60; refine HN.out.mono ?_; rintro e w' ⟨rfl, hb⟩; have hp0 := (hb.cell (p := ⟨W.heap.size, 0, none⟩) hps).trans hpc)
        | (go_at_call 86; refine (HP.out _ (hv1.out.below hb six1)).mono ?_; rintro e w2 ⟨r, rfl, hown, hb2⟩; replace hb2 := below_then hb hb2; have hp2 := (hb2.cell (p := ⟨W.heap.size, 0, none⟩) hps).trans hpc; have hp3 := fun ob => ((below_alloc (Below.refl _ w2) ob).cell (p := ⟨W.heap.size, 0, none⟩) (Nat.lt_of_lt_of_le hps hb2.size)).trans hp2; have e0 := (hb2.cell (p := ⟨bk, o + m * 3, none⟩) hbk1).trans c0; have e1 := (hb2.cell (p := ⟨bk, o + m * 3 + 1, none⟩) hbk1).trans c1; have e2 := (hb2.cell (p := ⟨bk, o + m * 3 + 2, none⟩) hbk1).trans c2; have T2 := Lib.hid (own_texts hown); obtain ⟨ra, rc, rfl⟩ := own_slice hown; clear hown)
        | (go_at_call 87; refine (kidsOk_calls _ ns m _ (hn1.out.below (below_alloc hb2 _)) hnd).mono ?_; rintro e w3 ⟨kr, rfl, hko, hb3⟩; have d0 := (hb3.cell (p := ⟨w2.heap.size, 0, none⟩) (by simp)).trans (by simp; rfl); have T3 := Lib.hid ((T2.out.below ((Below.refl _ _).alloc (Nat.le_refl _) _)).below hb3); replace hb3 := below_then (below_alloc hb2 _) hb3; have N3 := Lib.hid (own_nats hko); obtain ⟨ka, kc, rfl⟩ := own_slice hko; clear hko)
        | (go_at_call 89; refine (all_calls _ _ _ 88 (fun k p => Vp.fits ns n k p) _ ps _ enter_fits N3.out T3.out (hstep.out _ hb3)).mono ?_; rintro e w4 ⟨rfl, hb4⟩; replace hb4 := below_then hb3 hb4))
       go_ret
       exact ⟨ret_bool (by rw [HU.out]; rfl), hbox.trans (hb4.mono hbox.size)⟩
      ·have h2' : (kind == 2) = false := by simp [h2]
       have h4' : (kind == 4) = false := by simp [h4]
       by_cases h3 : kind = 3
       ·subst h3
        obtain ⟨k0, hks, hk8⟩ := hko1.out rfl
        have HKS := Lib.hid hks
        clear hks
        have hstep := Lib.hid (show ∀ (w3 : World), Below (W.alloc (.cells #[.slice (some ⟨bk, o, none⟩) ns.length c] 24)).heap.size (W.alloc (.cells #[.slice (some ⟨bk, o, none⟩) ns.length c] 24)) w3 → ∀ (p : Vp.Txt) (W' : World), p ∈ ps → Below w3.heap.size w3 W' →
          Calls Tryz.prog 88 #[.int .i64 (k0 : Int), tv p, .pointer (some ⟨W.heap.size, 0, none⟩)] W' fun e w' => e = .returned (.bool (Vp.fits ns n k0 p)) ∧ Below W'.heap.size W' w' from fun w3 hb3 p W' hp hb' =>
         have hbb := below_then hb3 hb'
         clos_calls n ih W.heap.size _ ns k0 p W' ((hbb.cell (p := ⟨W.heap.size, 0, none⟩) hps).trans hpc) (hn1.out.below hbb) (hv1.out.below hbb six1) hk8 (by have := hsh.out (show (3 : Int) ≤ 3 by decide) p hp; omega) (hpl.out p hp (show (3 : Int) ≤ 3 by decide)))
        go_enter Tryz.func59, Tryz.ntmps59
        go_wp2_with (first
         | (go_at_call 60; refine HN.out.mono ?_; rintro e w' ⟨rfl, hb⟩; have hp0 := (hb.cell (p := ⟨W.heap.size, 0, none⟩) hps).trans hpc)
         | (go_at_call 86; refine (HP.out _ (hv1.out.below hb six1)).mono ?_; rintro e w2 ⟨r, rfl, hown, hb2⟩; replace hb2 := below_then hb hb2; have hp2 := (hb2.cell (p := ⟨W.heap.size, 0, none⟩) hps).trans hpc; have hp3 := fun ob => ((below_alloc (Below.refl _ w2) ob).cell (p := ⟨W.heap.size, 0, none⟩) (Nat.lt_of_lt_of_le hps hb2.size)).trans hp2; have e0 := (hb2.cell (p := ⟨bk, o + m * 3, none⟩) hbk1).trans c0; have e1 := (hb2.cell (p := ⟨bk, o + m * 3 + 1, none⟩) hbk1).trans c1; have e2 := (hb2.cell (p := ⟨bk, o + m * 3 + 2, none⟩) hbk1).trans c2; have T2 := Lib.hid (own_texts hown); obtain ⟨ra, rc, rfl⟩ := own_slice hown; clear hown)
         | (go_at_call 87; refine (kidsOk_calls _ ns m _ (hn1.out.below (below_alloc hb2 _)) hnd).mono ?_; rintro e w3 ⟨kr, rfl, hko, hb3⟩; have d0 := (hb3.cell (p := ⟨w2.heap.size, 0, none⟩) (by simp)).trans (by simp; rfl); have T3 := Lib.hid ((T2.out.below ((Below.refl _ _).alloc (Nat.le_refl _) _)).below hb3); replace hb3 := below_then (below_alloc hb2 _) hb3; rw [HKS.out] at hko; have N3 := Lib.hid (own_nats hko); obtain ⟨ka, kc, rfl⟩ := own_slice hko; clear hko))
        obtain ⟨ra', rc', hva, hpc1, hpc2, hpcell⟩ := T3.out
        obtain ⟨rfl, _, rfl⟩ := Value.slice.inj hva
        obtain ⟨ka', kc', hvk, hkc1, hkc2, hkcell⟩ := N3.out
        obtain ⟨rfl, _, rfl⟩ := Value.slice.inj hvk
        obtain ⟨bkk, ok, rfl, hbkk, hkcell⟩ := hkcell (by simp)
        have k1 := hkcell 0 k0 rfl
        rw [Nat.add_zero] at k1
        unfold maxLen at hpc2
        have hks1 : (Tp.kids ns m).length = 1 := by rw [HKS.out]; rfl
        replace hks1 := Lib.hid hks1
        replace hpcell := Lib.hid hpcell
        clear hkcell hkc2
        have hent := enter_fits
        go_loopw [72] (fun i wr => ∃ k : Nat, k ≤ ps.length ∧ i = .int .i64 k ∧ (∀ j, j < k → Vp.fits ns n k0 (ps.getD j []) = true) ∧ Below w3.heap.size w3 wr) (fun i _ => ps.length - (intOf i).toNat)
        case atStart => exact ⟨0, Nat.zero_le _, rfl, fun j hj => absurd hj (Nat.not_lt_zero _), Below.refl _ _⟩
        case round =>
         obtain ⟨k, hk, rfl, hall, hbw⟩ := hrel
         replace hall := Lib.hid hall
         by_cases hlt : k < ps.length
         ·obtain ⟨bk2, o2, rfl, hbk2, hcell2⟩ := hpcell.out (by intro e; rw [e] at hlt; exact Nat.not_lt_zero _ hlt)
          have q1 := (hbw.cell (p := ⟨bk2, o2 + k, none⟩) hbk2).trans (hcell2 k _ (List.getElem?_eq_getElem hlt))
          have q2 := (hbw.cell (p := ⟨bkk, ok, none⟩) hbkk).trans k1
          have HG := Lib.hid (show ps.getD k [] = ps[k] by rw [List.getD_eq_getElem?_getD, List.getElem?_eq_getElem hlt]; rfl)
          have HC := Lib.hid (fun W' (h : Below w3.heap.size w3 W') => hstep.out w3 hb3 ps[k] W' (List.getElem_mem hlt) h)
          have HM := Lib.hid (List.getElem_mem hlt)
          generalize ps[k] = p at q1 HC HG HM
          clear hcell2 k1
          cases hf : Vp.fits ns n k0 p with
          | true =>
           have HF := Lib.hid hf
           clear hf
           go_wp2_with (refine (HC.out _ (by repeat (first | exact hbw | apply below_drewN | apply below_drew))).mono ?_; rw [HF.out]; rintro e w' ⟨rfl, hb4⟩)
           exact ⟨⟨k + 1, by omega, by go_num, all_snoc (fun j => Vp.fits ns n k0 (ps.getD j [])) k hall.out (by show Vp.fits ns n k0 (ps.getD k []) = true; rw [HG.out]; exact HF.out), below_then hbw hb4⟩, by simp [intOf]; omega⟩
          | false =>
           have HF := Lib.hid hf
           clear hf
           go_wp2_with (refine (HC.out _ (by repeat (first | exact hbw | apply below_drewN | apply below_drew))).mono ?_; rw [HF.out]; rintro e w' ⟨rfl, hb4⟩)
           go_ret
           exact ⟨ret_bool (by rw [HU.out]; rw [if_neg (by simp), if_neg (by simp), if_neg (by decide), if_neg (by decide)]; rw [HKS.out]; rw [show (ps.all fun p => !((3 : Int) == 3 && !(Vp.fits ns n (([k0].getD 0 0 : Nat) : Int) p))) = false from List.all_eq_false.2 ⟨p, HM.out, by simpa using HF.out⟩, Bool.false_and]), hbox.trans ((below_then hb3 (below_then hbw hb4)).mono hbox.size)⟩
         ·obtain rfl : k = ps.length := by omega
          have hal := Lib.hid (Vp.list_all_of _ _ hall.out)
          clear hall
          go_wp2
          go_ret
          exact ⟨ret_bool (by rw [HU.out]; rw [if_neg (by simp), if_neg (by simp), if_neg (by decide), if_neg (by decide)]; rw [HKS.out]; rw [show (ps.all fun p => !((3 : Int) == 3 && !(Vp.fits ns n (([k0].getD 0 0 : Nat) : Int) p))) = true from by simpa using hal.out, Bool.true_and, decide_eq_decide]; omega), hbox.trans ((below_then hb3 hbw).mono hbox.size)⟩
       ·have h3' : (kind == 3) = false := by simp [h3]
        go_enter Tryz.func59, Tryz.ntmps59
        go_wp2_with (first
         | (go_at_call 60; refine HN.out.mono ?_; rintro e w' ⟨rfl, hb⟩; have hp0 := (hb.cell (p := ⟨W.heap.size, 0, none⟩) hps).trans hpc)
         | (go_at_call 86; refine (HP.out _ (hv1.out.below hb six1)).mono ?_; rintro e w2 ⟨r, rfl, hown, hb2⟩; replace hb2 := below_then hb hb2; have hp2 := (hb2.cell (p := ⟨W.heap.size, 0, none⟩) hps).trans hpc; have hp3 := fun ob => ((below_alloc (Below.refl _ w2) ob).cell (p := ⟨W.heap.size, 0, none⟩) (Nat.lt_of_lt_of_le hps hb2.size)).trans hp2; have e0 := (hb2.cell (p := ⟨bk, o + m * 3, none⟩) hbk1).trans c0; have e1 := (hb2.cell (p := ⟨bk, o + m * 3 + 1, none⟩) hbk1).trans c1; have e2 := (hb2.cell (p := ⟨bk, o + m * 3 + 2, none⟩) hbk1).trans c2; have T2 := Lib.hid (own_texts hown); obtain ⟨ra, rc, rfl⟩ := own_slice hown; clear hown)
         | (go_at_call 87; refine (kidsOk_calls _ ns m _ (hn1.out.below (below_alloc hb2 _)) hnd).mono ?_; rintro e w3 ⟨kr, rfl, hko, hb3⟩; have d0 := (hb3.cell (p := ⟨w2.heap.size, 0, none⟩) (by simp)).trans (by simp; rfl); have T3 := Lib.hid ((T2.out.below ((Below.refl _ _).alloc (Nat.le_refl _) _)).below hb3); replace hb3 := below_then (below_alloc hb2 _) hb3; have N3 := Lib.hid (own_nats hko); obtain ⟨ka, kc, rfl⟩ := own_slice hko; clear hko))
        obtain ⟨ra', rc', hva, hpc1, hpc2, hpcell⟩ := T3.out
        obtain ⟨rfl, _, rfl⟩ := Value.slice.inj hva
        unfold maxLen at hpc2
        replace hpcell := Lib.hid hpcell
        go_loopw [72] (fun i wr => ∃ k : Nat, k ≤ ps.length ∧ i = .int .i64 k ∧ (∀ j, j < k → (fun _ => true) (ps.getD j []) = true) ∧ Below w3.heap.size w3 wr) (fun i _ => ps.length - (intOf i).toNat)
        case atStart => exact ⟨0, Nat.zero_le _, rfl, fun j hj => absurd hj (Nat.not_lt_zero _), Below.refl _ _⟩
        case round =>
         obtain ⟨k, hk, rfl, hall, hbw⟩ := hrel
         replace hall := Lib.hid hall
         by_cases hlt : k < ps.length
         ·obtain ⟨bk2, o2, rfl, hbk2, hcell2⟩ := hpcell.out (by intro e; rw [e] at hlt; exact Nat.not_lt_zero _ hlt)
          have q1 := (hbw.cell (p := ⟨bk2, o2 + k, none⟩) hbk2).trans (hcell2 k _ (List.getElem?_eq_getElem hlt))
          have hgd : ps.getD k [] = ps[k] := by rw [List.getD_eq_getElem?_getD, List.getElem?_eq_getElem hlt]; rfl
          go_wp2
          exact ⟨⟨k + 1, by omega, by go_num, fun _ _ => trivial, hbw⟩, by simp [intOf]; omega⟩
         ·obtain rfl : k = ps.length := by omega
          have hal := Lib.hid hall.out
          clear hall
          go_wp2
          go_ret
          exact ⟨ret_bool (by rw [HU.out]; rw [if_neg (by simp [hk1]), if_neg (by simp), if_neg h2, if_neg h4]; simp only [h3', Bool.false_and, Bool.not_false]; rw [show (ps.all fun _ => true) = true from List.all_eq_true.2 (fun _ _ => rfl), Bool.true_and, decide_eq_decide]; omega), hbox.trans ((below_then hb3 hbw).mono hbox.size)⟩
    ·have hkd' : (kind == kd) = false := by simp [hkd]
     go_enter Tryz.func59, Tryz.ntmps59
     go_wp2_with (first
      | (go_at_call 60; refine HN.out.mono ?_; rintro e w' ⟨rfl, hb⟩; have hp0 := (hb.cell (p := ⟨W.heap.size, 0, none⟩) hps).trans hpc)
      | (go_at_call 86; refine (HP.out _ (hv1.out.below hb six1)).mono ?_; rintro e w2 ⟨r, rfl, hown, hb2⟩; replace hb2 := below_then hb hb2; have hp2 := (hb2.cell (p := ⟨W.heap.size, 0, none⟩) hps).trans hpc; have hp3 := fun ob => ((below_alloc (Below.refl _ w2) ob).cell (p := ⟨W.heap.size, 0, none⟩) (Nat.lt_of_lt_of_le hps hb2.size)).trans hp2; have e0 := (hb2.cell (p := ⟨bk, o + m * 3, none⟩) hbk1).trans c0; have e1 := (hb2.cell (p := ⟨bk, o + m * 3 + 1, none⟩) hbk1).trans c1; have e2 := (hb2.cell (p := ⟨bk, o + m * 3 + 2, none⟩) hbk1).trans c2; have T2 := Lib.hid (own_texts hown); obtain ⟨ra, rc, rfl⟩ := own_slice hown; clear hown)
      | (go_at_call 87; refine (kidsOk_calls _ ns m _ (hn1.out.below (below_alloc hb2 _)) hnd).mono ?_; rintro e w3 ⟨kr, rfl, hko, hb3⟩; have d0 := (hb3.cell (p := ⟨w2.heap.size, 0, none⟩) (by simp)).trans (by simp; rfl); have T3 := Lib.hid ((T2.out.below ((Below.refl _ _).alloc (Nat.le_refl _) _)).below hb3); replace hb3 := below_then (below_alloc hb2 _) hb3; have N3 := Lib.hid (own_nats hko); obtain ⟨ka, kc, rfl⟩ := own_slice hko; clear hko))
     go_ret
     exact ⟨ret_bool (by rw [HU.out]; simp [hk1, hkd]), hbox.trans (hb3.mono hbox.size)⟩
  ·have he' : (er == 0) = false := by simp [he]
   go_enter Tryz.func59, Tryz.ntmps59
   go_wp2_with (first
    | (go_at_call 60; refine HN.out.mono ?_; rintro e w' ⟨rfl, hb⟩; have hp0 := (hb.cell (p := ⟨W.heap.size, 0, none⟩) hps).trans hpc)
    | (go_at_call 86; refine (HP.out _ (hv1.out.below hb six1)).mono ?_; rintro e w2 ⟨r, rfl, hown, hb2⟩; replace hb2 := below_then hb hb2; have hp2 := (hb2.cell (p := ⟨W.heap.size, 0, none⟩) hps).trans hpc; have hp3 := fun ob => ((below_alloc (Below.refl _ w2) ob).cell (p := ⟨W.heap.size, 0, none⟩) (Nat.lt_of_lt_of_le hps hb2.size)).trans hp2; have e0 := (hb2.cell (p := ⟨bk, o + m * 3, none⟩) hbk1).trans c0; have e1 := (hb2.cell (p := ⟨bk, o + m * 3 + 1, none⟩) hbk1).trans c1; have e2 := (hb2.cell (p := ⟨bk, o + m * 3 + 2, none⟩) hbk1).trans c2; have T2 := Lib.hid (own_texts hown); obtain ⟨ra, rc, rfl⟩ := own_slice hown; clear hown))
   go_ret
   exact ⟨ret_bool (by rw [HU.out]; simp [he]), hbox.trans ((below_alloc hb2 _).mono hbox.size)⟩
theorem fits_all : ∀ n, FitsOK n
 | 0 => fun _ _ _ _ _ _ _ _ h _ => absurd h (Nat.not_lt_zero _)
 | n + 1 => fits_succ n (fits_all n)
/-- Which value fits: with fuel enough. -/
theorem fits_calls (vv : Value) (ns : List Tp.Nd) (x : Int) (v : Vp.Txt) (W : World) (hn : NodesAt W vv ns) (hv : Vars W) (hx : x ≤ 9223372036854775807) (hl : v.length ≤ 140737488351232) :
  Calls Tryz.prog 59 #[typeV vv, .int .i64 x, tv v] W fun e w' => e = .returned (.bool (Vp.fits ns (v.length + 1) x v)) ∧ Below W.heap.size W w' :=
 fits_all _ vv ns x v W hn hv hx (Nat.lt_succ_self _) hl
end Go.Proofs.YtobhjlchpnpleaaGreatDoor
