/- Several texts in one: BldH, RefBldB. -/
import Derived.Test.YtobhjlchpnpleaaGreatDoorCa21
import Derived.Test.YtobhjlchpnpleaaGreatDoorCa2
import Derived.Laws.ResultCell
import Derived.Test.YtobhjlchpnpleaaGreatDoorCa19
/- Package build: Build, walked. -/
namespace Go.Proofs.YtobhjlchpnpleaaGreatDoor
open Go.RowKit
set_option linter.unusedVariables false
set_option linter.unusedSimpArgs false

theorem results_cell2_row {P : Program} {fn : Func} {p u : Tmp} {ty : TypeId} (h : fn.results = #[.cell p ty, .tmp u]) (tmps : Array Value) (w : World) (g : Nat) (t : TypeId) (cs : Array Value) (fr : Nat × Nat) (d : TypeDesc)
  (hp : tmps.getD p undef = .pointer (some ⟨g, 0, none⟩)) (hg : w.heap[g]? = some (.cells cs t fr))
  (hu : P.underlying ty = some d) (hd : (match d with | .struct _ | .array _ _ => true | _ => false) = true) (hi : (P.info? ty).map (·.size) = some cs.size) :
  (results fn tmps).run P w = .ok (.tuple #[.agg cs, tmps.getD u undef]) w := by
 have hp' : tmps[p]?.getD undef = .pointer (some ⟨g, 0, none⟩) := by simpa using hp
 rw [results_cell_tmp h]
 simp [hp', asAddr, run_loadVar_row w g t ty cs fr d hg hu hd hi, Result.andThen]
theorem build_all (ns : List Tp.Nd) (hm : Tp.may ns = true) : ∀ n, BuildOK ns n
 | 0 => fun i b vs v vv full W hi h => by omega
 | n + 1 => fun i b vs v vv full W hi hin hb ht hn hv h6 hl hf => by
  have hkind := Vp.may_kind ns hm i hi
  cases full with
  | true => exact build_full ns i b vs v vv true W hb ht hl rfl
  | false =>
   rcases Nat.lt_or_ge 64 vs.length with h64 | h64
   ·exact build_big ns i b vs v vv false W hb ht hl h64 rfl (by rw [Vp.build_eq ns hm i hi, if_pos h64])
   ·by_cases k0 : Tp.kindOf ns i = 0
    ·exact build_int ns i b vs v vv W hb ht hn hv hm hi h6 h64 hf k0
    by_cases k1 : Tp.kindOf ns i = 1
    ·exact build_bool ns i b vs v vv W hb ht hn hv hm hi h6 h64 hf k1
    by_cases k2 : Tp.kindOf ns i = 2
    ·exact build_str ns i b vs v vv W hb ht hn hv hm hi h6 h64 hf k2
    by_cases k3 : Tp.kindOf ns i = 3
    ·exact build_list ns i b vs v vv W hb ht hn hv hm hi h6 h64 hf k3 n (build_all ns hm n) hin
    ·exact build_struct ns i b vs v vv W hb ht hn hv hm hi h6 h64 hf (by omega) n (build_all ns hm n) hin

/-- What Build answers. -/
def BuildR (r : Arr × Int) (W : World) (e : Ending) (w' : World) : Prop :=
 ∃ u, e = .returned (.tuple #[u, .int .i64 r.2]) ∧ ArrOwn w' (fun g => W.heap.size ≤ g) r.1 u ∧ Below W.heap.size W w'
theorem none_own (w : World) (A : Nat → Prop) : ArrOwn w A Arr.none (.agg (arrC 0 0 0 [] [] [] (.slice none 0 0))) := ⟨_, rfl, KidsOwn.nil _ _⟩
theorem below_set7 {W w : World} {B R : Nat} (h : Below B W w) (hR : B ≤ R) (x0 x1 x2 x3 x4 x5 x6 : Value) : Below B W (set7 w R x0 x1 x2 x3 x4 x5 x6) :=
 ((((((h.setCell hR _).setCell hR _).setCell hR _).setCell hR _).setCell hR _).setCell hR _).setCell hR _

set_option maxRecDepth 100000 in
set_option maxHeartbeats 3200000 in
theorem buildR_calls (v vv : Value) (ns : List Tp.Nd) (x : Int) (vs : List Vp.Txt) (W : World) (hn : NodesAt W vv ns) (ht : TextsAt W v vs) (hv : Vars W) (hx : x ≤ 9223372036854775807) (hl : ∀ t ∈ vs, t.length ≤ 140737488351232) (hvl : vs.length ≤ 140737488351232) :
  Calls Tryz.prog 37 #[typeV vv, .int .i64 x, v] W (BuildR (Vp.buildR ns x vs) W) := by
 have hb1 : Below W.heap.size W (((W.alloc (.cells #[vv] 24)).alloc (.cells #[.int .i64 x] 3)).alloc (.cells (arrC 0 0 0 [] [] [] (.slice none 0 0)) 27)) := below_alloc (below_alloc (below_alloc (Below.refl _ _) _) _) _
 obtain ⟨W1, hW1⟩ : ∃ W1, ((W.alloc (.cells #[vv] 24)).alloc (.cells #[.int .i64 x] 3)).alloc (.cells (arrC 0 0 0 [] [] [] (.slice none 0 0)) 27) = W1 := ⟨_, rfl⟩
 have k3 : (W.alloc (.cells #[vv] 24)).cell? ⟨W.heap.size, 0, none⟩ = some vv := lit_cell _ _ _ _ 0 _ rfl rfl
 have k4 : ((W.alloc (.cells #[vv] 24)).alloc (.cells #[.int .i64 x] 3)).cell? ⟨W.heap.size + 1, 0, none⟩ = some (.int .i64 x) := lit_cell _ _ _ _ 0 _ (by simp) rfl
 have h3 : W1.cell? ⟨W.heap.size, 0, none⟩ = some vv := by rw [← hW1]; exact cell_alloc (cell_alloc k3 _) _
 have h4 : W1.cell? ⟨W.heap.size + 1, 0, none⟩ = some (.int .i64 x) := by rw [← hW1]; exact cell_alloc k4 _
 have h5 : W1.heap[W.heap.size + 2]? = some (.cells (arrC 0 0 0 [] [] [] (.slice none 0 0)) 27) := by
  rw [← hW1]
  have := heap_alloc_new ((W.alloc (.cells #[vv] 24)).alloc (.cells #[.int .i64 x] 3)) (.cells (arrC 0 0 0 [] [] [] (.slice none 0 0)) 27)
  simpa using this
 have hsz : W1.heap.size = W.heap.size + 3 := by rw [← hW1]; simp
 rw [hW1] at hb1
 have HN := Lib.hid (node_calls vv ns x W1 (hn.below hb1))
 have HND := Lib.hid (hn.below hb1)
 have HTX := Lib.hid (ht.below hb1)
 have HVV := Lib.hid (hv.below hb1 hv.six)
 have HL := Lib.hid hl
 have H5 := Lib.hid h5
 have HB1 := Lib.hid hb1
 have HSIX := Lib.hid hv.six
 have HRW := Lib.hid (show Vp.buildR ns x vs = if Tp.node ns x && Vp.fitAll ns x vs then ((match Vp.build ns x.toNat vs with | none => (Arr.none, 1001) | some a => (a, 0)) : Arr × Int) else ((Arr.none, 1000) : Arr × Int) from rfl)
 obtain ⟨a, c, rfl, hc, hm, h6⟩ := hn
 obtain ⟨ta, tc, rfl, htc, htm, ht6⟩ := ht
 clear h6 ht6 hl hv h5 hb1 k3 k4
 cases hnd : Tp.node ns x with
 | false =>
  rw [hnd] at HN HRW
  rw [Bool.false_and, if_neg (by decide)] at HRW
  go_enter Tryz.func37, Tryz.ntmps37
  go_wp2_with (fail)
  refine HN.out.mono ?_
  rintro e w2 ⟨rfl, hb2⟩
  have h5' := (hb2.block _ (by omega)).trans H5.out
  have h3' := (hb2.cell (p := ⟨W.heap.size, 0, none⟩) (by simp only; omega)).trans h3
  have h4' := (hb2.cell (p := ⟨W.heap.size + 1, 0, none⟩) (by simp only; omega)).trans h4
  have HB2 := Lib.hid hb2
  clear hW1 h3 h4 hb2
  obtain ⟨r0, r1, r2, r3, r4, r5, r6, q0, q1, q2, q3, q4, q5, q6⟩ := zero_cells h5'
  go_wp2
  (try simp only [Exit.inBlock, Exit.then])
  refine bodyPost_ret (results_cell2_row rfl _ _ (W.heap.size + 1 + 1) 27 (arrC 0 0 0 [] [] [] (.slice none 0 0)) (0, 0) _ rfl (set7_at h5' _ _ _ _ _ _ _) Tryz.underlying27 rfl info_array_size) rfl ?_
  rw [HRW.out]
  exact ⟨_, rfl, none_own _ _, below_set7 (HB1.out.trans (HB2.out.mono (by omega))) (by omega) _ _ _ _ _ _ _⟩
 | true =>
  rw [hnd, Bool.true_and] at HRW
  rw [hnd] at HN
  have hxn : 0 ≤ x ∧ x < ns.length := by
   unfold Tp.node at hnd
   rw [Bool.and_eq_true, decide_eq_true_eq] at hnd
   exact hnd.2
  obtain ⟨i, rfl⟩ := Int.eq_ofNat_of_zero_le hxn.1
  have hmi := (Vp.node_of ns i).1 hnd
  go_enter Tryz.func37, Tryz.ntmps37
  go_wp2_with (fail)
  refine HN.out.mono ?_
  rintro e w2 ⟨rfl, hb2⟩
  have h5' := (hb2.block _ (by omega)).trans H5.out
  have h3' := (hb2.cell (p := ⟨W.heap.size, 0, none⟩) (by simp only; omega)).trans h3
  have h4' := (hb2.cell (p := ⟨W.heap.size + 1, 0, none⟩) (by simp only; omega)).trans h4
  have HB2 := Lib.hid hb2
  have HCF := Lib.hid (containsF_calls (.slice ta vs.length tc) vs (fun t => !Vp.fits ns (t.length + 1) (i : Int) t) w2 58 #[.pointer (some ⟨W.heap.size, 0, none⟩), .pointer (some ⟨W.heap.size + 1, 0, none⟩)] _ _ rfl (HTX.out.below hb2) enter_odd
   (fun t htm W' hb => odd_calls W.heap.size (W.heap.size + 1) (.slice a ns.length c) ns i t W' ((hb.cell (p := ⟨W.heap.size, 0, none⟩) (by have := hb2.size; simp only; omega)).trans h3') ((hb.cell (p := ⟨W.heap.size + 1, 0, none⟩) (by have := hb2.size; simp only; omega)).trans h4') ((HND.out.below hb2).below hb) ((HVV.out.below hb2 HVV.out.six).below hb (HVV.out.below hb2 HVV.out.six).six) hx (HL.out t htm)))
  clear hW1 h3 h4 hb2
  have HALL := Lib.hid (show vs.any (fun t => !Vp.fits ns (t.length + 1) (i : Int) t) = !Vp.fitAll ns (i : Int) vs by
   unfold Vp.fitAll
   rw [List.not_all_eq_any_not])
  cases hfa : Vp.fitAll ns (i : Int) vs with
  | false =>
   have H1 : vs.any (fun t => !Vp.fits ns (t.length + 1) (i : Int) t) = true := by rw [HALL.out, hfa]; rfl
   rw [H1] at HCF
   rw [hfa, if_neg (by decide)] at HRW
   clear H1 hfa
   go_wp2_with (go_at_call 61; refine HCF.out.mono ?_; rintro e w3 ⟨rfl, hb3⟩; have h5'' := (hb3.block _ (by have := HB2.out.size; omega)).trans h5'; have HB3 := Lib.hid hb3; obtain ⟨r0, r1, r2, r3, r4, r5, r6, q0, q1, q2, q3, q4, q5, q6⟩ := zero_cells h5''; clear h3' h4' h5' hb3)
   (try simp only [Exit.inBlock, Exit.then])
   refine bodyPost_ret (results_cell2_row rfl _ _ (W.heap.size + 1 + 1) 27 (arrC 0 0 0 [] [] [] (.slice none 0 0)) (0, 0) _ rfl (set7_at h5'' _ _ _ _ _ _ _) Tryz.underlying27 rfl info_array_size) rfl ?_
   rw [HRW.out]
   exact ⟨_, rfl, none_own _ _, below_set7 ((HB1.out.trans (HB2.out.mono (by omega))).trans (HB3.out.mono (by have := HB2.out.size; omega))) (by omega) _ _ _ _ _ _ _⟩
  | true =>
   have H1 : vs.any (fun t => !Vp.fits ns (t.length + 1) (i : Int) t) = false := by rw [HALL.out, hfa]; rfl
   rw [H1] at HCF
   rw [hfa, if_pos rfl, Int.toNat_natCast] at HRW
   have HFIT := Lib.hid ((Vp.fitAll_iff ns i vs).1 hfa)
   clear H1 hfa
   go_wp2_with (go_at_call 61; refine HCF.out.mono ?_; rintro e w3 ⟨rfl, hb3⟩; have h5'' := (hb3.block _ (by have := HB2.out.size; omega)).trans h5'; have h3'' := (hb3.cell (p := ⟨W.heap.size, 0, none⟩) (by have := HB2.out.size; simp only; omega)).trans h3'; have h4'' := (hb3.cell (p := ⟨W.heap.size + 1, 0, none⟩) (by have := HB2.out.size; simp only; omega)).trans h4'; have HB3 := Lib.hid hb3; have hs3 : W.heap.size + 3 ≤ w3.heap.size := (by have := HB2.out.size; have := HB3.out.size; omega); have hs0 : W.heap.size < w3.heap.size := (by omega); have hs1 : W.heap.size + 1 < w3.heap.size := (by omega); have hs2 : W.heap.size + 1 + 1 < w3.heap.size := (by omega); clear h3' h4' h5' hb3)
   have HW3 := Lib.hid (HB1.out.trans ((HB2.out.trans (HB3.out.mono HB2.out.size)).mono (by omega)))
   have HBB : Below W1.heap.size W1 (w3.alloc (.cells #[.slice a ns.length c, .bool false] 89)) := below_alloc (HB2.out.trans (HB3.out.mono HB2.out.size)) _
   have HBU := Lib.hid (build_all ns hmi.1 ns.length i w3.heap.size vs (.slice ta vs.length tc) (.slice a ns.length c) false (w3.alloc (.cells #[.slice a ns.length c, .bool false] 89)) hmi.2 (by omega) (heap_alloc_new w3 _) (HTX.out.below HBB) (HND.out.below HBB) (HVV.out.below HBB HVV.out.six) (by have := HSIX.out; omega) hvl HFIT.out)
   go_wp2_with (fail)
   refine HBU.out.mono ?_
   rintro e w4 ⟨ar, u, f', rfl, hao, hbl, hg, _, hm4⟩
   have hm5 := hm4 rfl
   obtain ⟨k, ac, cc, hk, rfl, hko⟩ := hao.value
   subst hk
   have hR3 := h5''
   have hR4 : w4.heap[W.heap.size + 2]? = some (.cells (arrC 0 0 0 [] [] [] (.slice none 0 0)) 27) := by
    rw [hg.block _ (by simp; omega) (fun e => by have := Option.some.inj e; omega), Below.heap_alloc _ _ _ (by omega)]
    exact hR3
   have hszg := hg.size
   have hsz4 : w3.heap.size + 1 ≤ w4.heap.size := by simpa using hszg
   have c1 := hbl.c1
   obtain ⟨r0, r1, r2, r3, r4, r5, r6, q0, q1, q2, q3, q4, q5, q6⟩ := zero_cells hR4
   have hlt0 : w3.heap.size < w4.heap.size := by omega
   have hlt2 : W.heap.size + 1 + 1 < w4.heap.size := by omega
   have HWG := Lib.hid (below_grown (below_alloc HW3.out (.cells #[.slice a ns.length c, .bool false] 89)) hg (fun b e => by have := Option.some.inj e; have := HW3.out.size; omega))
   have HR4 := Lib.hid hR4
   have HKO := Lib.hid hko
   clear hm4 hR3 hg hszg h3'' h4'' h5'' hbl hR4 hko
   cases f' with
   | true =>
    have HNO := Lib.hid (show Vp.build ns i vs = none by
     cases hb : Vp.build ns i vs with
     | none => rfl
     | some x => rw [hb] at hm5; exact absurd hm5.1 (by decide))
    rw [HNO.out] at HRW
    clear hm5
    go_wp2
    (try simp only [Exit.inBlock, Exit.then])
    refine bodyPost_ret (results_cell2_row rfl _ _ (W.heap.size + 1 + 1) 27 (arrC 0 0 0 [] [] [] (.slice none 0 0)) (0, 0) _ rfl ((Below.heap_alloc _ _ _ (by rw [set7_size]; omega)).trans (set7_at HR4.out _ _ _ _ _ _ _)) Tryz.underlying27 rfl info_array_size) rfl ?_
    rw [HRW.out]
    exact ⟨_, rfl, none_own _ _, below_alloc (below_set7 HWG.out (by omega) _ _ _ _ _ _ _) _⟩
   | false =>
    have HYES := Lib.hid (show Vp.build ns i vs = some ar by
     cases hb : Vp.build ns i vs with
     | none => rw [hb] at hm5; cases hm5
     | some x => rw [hb] at hm5; rw [hm5.2])
    rw [HYES.out] at HRW
    clear hm5
    go_wp2
    (try simp only [Exit.inBlock, Exit.then])
    refine bodyPost_ret (results_cell2_row rfl _ _ (W.heap.size + 1 + 1) 27 (arrC ar.lay ar.off ar.len ar.valid ar.ends ar.data (.slice ac ar.kids.length cc)) (0, 0) _ rfl ((Below.heap_alloc _ _ _ (by rw [set7_size]; omega)).trans (set7_at HR4.out _ _ _ _ _ _ _)) Tryz.underlying27 rfl info_array_size) rfl ?_
    rw [HRW.out]
    refine ⟨_, rfl, ?_, below_alloc (below_set7 HWG.out (by omega) _ _ _ _ _ _ _) _⟩
    have e : Arr.mk ar.lay ar.off ar.len ar.valid ar.ends ar.data ar.kids = ar := by obtain ⟨l, f, n, v, e, d, ks⟩ := ar; rfl
    show ArrOwn _ _ ar _
    rw [← e]
    refine ⟨_, rfl, ?_⟩
    refine KidsOwn.weak ar.kids _ _ _ (fun g (hgl : _ ≤ g) _ => (show W.heap.size ≤ g from Nat.le_trans HW3.out.size (Nat.le_trans (by simp) hgl))) (KidsOwn.same ar.kids _ _ (fun g hgl hc => ?_) HKO.out)
    obtain ⟨cur, hc⟩ := hc
    have hgl' : (w3.alloc (.cells #[.slice a ns.length c, .bool false] 89)).heap.size ≤ g := hgl
    have hgs : (w3.alloc (.cells #[.slice a ns.length c, .bool false] 89)).heap.size = w3.heap.size + 1 := by simp
    have hgw := (Array.getElem?_eq_some_iff.1 hc).1
    exact (Below.heap_alloc _ _ g (by rw [set7_size]; exact hgw)).trans (set7_far w4 (W.heap.size + 2) g (by omega) _ _ _ _ _ _ _)
end Go.Proofs.YtobhjlchpnpleaaGreatDoor

/- The reference's build: its state; too many rows, walked. -/
namespace Go.Proofs.YtobhjlchpnpleaaGreatDoor
open Go.RowKit
set_option linter.unusedVariables false
set_option linter.unusedSimpArgs false

/-- The reference's build under way: the type's box, its result's cell, its array's cell. -/
structure RSt (W wr : World) (O : Nat) (vv : Value) (n : Int) (v e d : Vp.Txt) (k : Value) : Prop where
 bel : Below W.heap.size W wr
 box : wr.heap[W.heap.size]? = some (.cells #[vv] 24)
 res : wr.heap[W.heap.size + 1]? = some (.cells (arrC 0 0 0 [] [] [] (.slice none 0 0)) 27)
 out : wr.heap[O]? = some (.cells (arrC 0 0 n v e d k) 27)
 olt : W.heap.size + 1 < O
theorem RSt.lt {W wr : World} {O : Nat} {vv : Value} {n : Int} {v e d : Vp.Txt} {k : Value} (h : RSt W wr O vv n v e d k) : O < wr.heap.size := (Array.getElem?_eq_some_iff.1 h.out).1
theorem RSt.below {W wr w' : World} {O : Nat} {vv : Value} {n : Int} {v e d : Vp.Txt} {k : Value} (h : RSt W wr O vv n v e d k) (hb : Below wr.heap.size wr w') : RSt W w' O vv n v e d k where
 bel := below_then h.bel hb
 box := (hb.block _ (Array.getElem?_eq_some_iff.1 h.box).1).trans h.box
 res := (hb.block _ (Array.getElem?_eq_some_iff.1 h.res).1).trans h.res
 out := (hb.block _ (Array.getElem?_eq_some_iff.1 h.out).1).trans h.out
 olt := h.olt
/-- Another block alone is written. -/
theorem RSt.far {W w w' : World} {O : Nat} {vv : Value} {n : Int} {v e d : Vp.Txt} {k : Value} {row : Option Nat} (h : RSt W w O vv n v e d k) (hg : w.grownBy w' row) (hr : ∀ g, row = some g → O < g) : RSt W w' O vv n v e d k where
 bel := h.bel.trans (Below.mono ⟨hg.os, hg.tape, hg.output, hg.size, fun j hj => hg.block j (by have := h.lt; omega) (fun e => by have := hr j e.symm; omega)⟩ (show W.heap.size ≤ O by have := h.olt; omega))
 box := (hg.block _ (Array.getElem?_eq_some_iff.1 h.box).1 (fun e => by have := hr _ e.symm; have := h.olt; omega)).trans h.box
 res := (hg.block _ (Array.getElem?_eq_some_iff.1 h.res).1 (fun e => by have := hr _ e.symm; have := h.olt; omega)).trans h.res
 out := (hg.block _ (Array.getElem?_eq_some_iff.1 h.out).1 (fun e => by have := hr _ e.symm; omega)).trans h.out
 olt := h.olt
theorem RSt.set {W wr : World} {O : Nat} {vv : Value} {n : Int} {v e d : Vp.Txt} {k : Value} (h : RSt W wr O vv n v e d k) (j : Nat) (x : Value) (e' d' : Vp.Txt) (k' : Value)
  (hx : (arrC 0 0 n v e d k).setIfInBounds j x = arrC 0 0 n v e' d' k') : RSt W (wr.setCell ⟨O, j, none⟩ x) O vv n v e' d' k' where
 bel := h.bel.setCell (by have := h.olt; simp only; omega) _
 box := (Below.heap_setCell wr ⟨O, j, none⟩ x _ (by have := h.olt; simp only; omega)).trans h.box
 res := (Below.heap_setCell wr ⟨O, j, none⟩ x _ (by have := h.olt; simp only; omega)).trans h.res
 out := by
  have h' := h.out
  rw [← hx]
  simp [World.setCell, Array.getElem?_modify, h']
 olt := h.olt
theorem RSt.put {W wr : World} {O : Nat} {vv : Value} {n : Int} {v e d : Vp.Txt} {k : Value} (h : RSt W wr O vv n v e d k) (g j : Nat) (x : Value) (hg : O < g) : RSt W (wr.setCell ⟨g, j, none⟩ x) O vv n v e d k where
 bel := h.bel.setCell (by have := h.olt; simp only; omega) _
 box := (Below.heap_setCell wr ⟨g, j, none⟩ x _ (by have := h.olt; simp only; omega)).trans h.box
 res := (Below.heap_setCell wr ⟨g, j, none⟩ x _ (by have := h.olt; simp only; omega)).trans h.res
 out := (Below.heap_setCell wr ⟨g, j, none⟩ x _ (by simp only; omega)).trans h.out
 olt := h.olt
theorem RSt.begin {W w1 : World} {vv : Value} (n : Int) (v : Vp.Txt) (HB : Below ((W.alloc (.cells #[vv] 24)).alloc (.cells (arrC 0 0 0 [] [] [] (.slice none 0 0)) 27)).heap.size ((W.alloc (.cells #[vv] 24)).alloc (.cells (arrC 0 0 0 [] [] [] (.slice none 0 0)) 27)) w1) :
  RSt W (w1.alloc (.cells (arrC 0 0 n v [] [] (.slice none 0 0)) 27)) w1.heap.size vv n v [] [] (.slice none 0 0) := by
 have h1 : ((W.alloc (.cells #[vv] 24)).alloc (.cells (arrC 0 0 0 [] [] [] (.slice none 0 0)) 27)).heap[W.heap.size]? = some (.cells #[vv] 24) := (Below.heap_alloc _ _ _ (by simp)).trans (heap_alloc_new W _)
 have h2 : ((W.alloc (.cells #[vv] 24)).alloc (.cells (arrC 0 0 0 [] [] [] (.slice none 0 0)) 27)).heap[W.heap.size + 1]? = some (.cells (arrC 0 0 0 [] [] [] (.slice none 0 0)) 27) := by
  have := heap_alloc_new (W.alloc (.cells #[vv] 24)) (.cells (arrC 0 0 0 [] [] [] (.slice none 0 0)) 27)
  simpa using this
 have hs := HB.size
 simp at hs
 exact {
  bel := below_alloc (below_then (below_alloc (below_alloc (Below.refl _ _) _) _) HB) _
  box := (Below.heap_alloc _ _ _ (by omega)).trans ((HB.block _ (by simp; omega)).trans h1)
  res := (Below.heap_alloc _ _ _ (by omega)).trans ((HB.block _ (by simp)).trans h2)
  out := heap_alloc_new w1 _
  olt := by omega }
def RefBuildQ (ns : List Tp.Nd) (i : Nat) (vs : List Vp.Txt) (W : World) (e : Ending) (w' : World) : Prop :=
 ∃ u b ar, e = .returned (.tuple #[u, .bool b]) ∧ ArrOwn w' (fun g => W.heap.size ≤ g) ar u ∧ (match Vp.build ns i vs with | none => b = false | some x => b = true ∧ ar = x) ∧ Below W.heap.size W w'
theorem RSt.done {W wr : World} {O : Nat} {vv : Value} {n : Int} {v e d : Vp.Txt} {k : Value} {ks : List Arr} {ns : List Tp.Nd} {i : Nat} {vs : List Vp.Txt} {b : Bool} (h : RSt W wr O vv n v e d k)
  (hk : KidsOwn wr (fun g => O < g) ks k) (hres : match Vp.build ns i vs with | none => b = false | some x => b = true ∧ .mk 0 0 n v e d ks = x) :
  RefBuildQ ns i vs W (.returned (.tuple #[.agg (arrC 0 0 n v e d k), .bool b])) (set7 wr (W.heap.size + 1) (.int .i64 0) (.int .i64 0) (.int .i64 n) (tv v) (tv e) (tv d) k) := by
 refine ⟨_, b, .mk 0 0 n v e d ks, rfl, ⟨k, rfl, ?_⟩, hres, below_set7 h.bel (Nat.le_succ _) _ _ _ _ _ _ _⟩
 have h1 : KidsOwn (set7 wr (W.heap.size + 1) (.int .i64 0) (.int .i64 0) (.int .i64 n) (tv v) (tv e) (tv d) k) (fun g => O < g) ks k := KidsOwn.same ks _ k (fun g hg _ => set7_far _ _ _ (by have := h.olt; omega) _ _ _ _ _ _ _) hk
 exact KidsOwn.weak ks _ _ k (fun g hg _ => by have := h.olt; omega) h1
theorem RSt.resAt {W wr : World} {O : Nat} {vv : Value} {n : Int} {v e d : Vp.Txt} {k : Value} (h : RSt W wr O vv n v e d k) :
  (set7 wr (W.heap.size + 1) (.int .i64 0) (.int .i64 0) (.int .i64 n) (tv v) (tv e) (tv d) k).heap[W.heap.size + 1]? = some (.cells (arrC 0 0 n v e d k) 27) := set7_at h.res _ _ _ _ _ _ _

theorem make_rows0 (w : World) : (Instr.makeSlice 101 (.int .i64 0) (.int .i64 0)).run Tryz.prog w = .ok (.slice (some ⟨w.heap.size, 0, none⟩) 0 0) (w.alloc (.cells #[] 39)) :=
 by
 have h := run_make_row' (P := Tryz.prog) 101 39 (.slice none 0 0) 24 Tryz.underlying101 info_strings rfl .i64 .i64 0 (by decide) (by decide) w
 rw [show madeCells #[Value.slice none 0 0] 0 = #[] by unfold madeCells; simp [Array.range_zero']] at h
 exact h
theorem low_str (x : Int) (n : Nat) (W : World) (hp : 0 < n) (hn : n ≤ 8) (h0 : -9223372036854775808 ≤ x) (h1 : x ≤ 9223372036854775807) :
  Calls Tryz.prog 74 #[.int .i64 x, .int .i64 (n : Int)] W fun e w' => ∃ t : Vp.Txt, t.length = n ∧ (⟨t.toArray⟩ : ByteArray).size = n ∧ word x n = t ∧ e = .returned (.string ⟨t.toArray⟩) ∧ Below W.heap.size W w' :=
 (refLow_calls x n W hp hn h0 h1).mono fun e w' ⟨h, hb⟩ => ⟨word x n, word_length x n, by rw [mk_size, word_length], rfl, h, hb⟩
theorem RefBuildQ.drew {ns : List Tp.Nd} {i : Nat} {vs : List Vp.Txt} {W w' : World} {e : Ending} (h : RefBuildQ ns i vs W e w') : RefBuildQ ns i vs W e w'.drew := by
 obtain ⟨u, b, ar, rfl, h1, h2, h3⟩ := h
 exact ⟨u, b, ar, rfl, h1.same (fun g _ _ => rfl), h2, below_drew h3⟩
theorem RSt.resAtD {W wr : World} {O : Nat} {vv : Value} {n : Int} {v e d : Vp.Txt} {k : Value} (h : RSt W wr O vv n v e d k) :
  (set7 wr (W.heap.size + 1) (.int .i64 0) (.int .i64 0) (.int .i64 n) (tv v) (tv e) (tv d) k).drew.heap[W.heap.size + 1]? = some (.cells (arrC 0 0 n v e d k) 27) := by
 rw [show ∀ w : World, w.drew.heap = w.heap from fun _ => rfl]
 exact h.resAt
theorem RSt.fin {W wr w0 : World} {e0 : Ending} {O : Nat} {vv : Value} {n : Int} {v e d : Vp.Txt} {k : Value} {ks : List Arr} {ns : List Tp.Nd} {i : Nat} {vs : List Vp.Txt} {b : Bool} (h : RSt W wr O vv n v e d k)
  (hk : KidsOwn wr (fun g => O < g) ks k) (hres : match Vp.build ns i vs with | none => b = false | some x => b = true ∧ .mk 0 0 n v e d ks = x)
  (he : e0 = .returned (.tuple #[.agg (arrC 0 0 n v e d k), .bool b])) (hw : w0 = (set7 wr (W.heap.size + 1) (.int .i64 0) (.int .i64 0) (.int .i64 n) (tv v) (tv e) (tv d) k).drew) : RefBuildQ ns i vs W e0 w0 := by
 subst he hw
 exact (h.done hk hres).drew
theorem below_drew_then {w w' : World} (hb : Below w.drew.heap.size w.drew w') : Below w.heap.size w w' := below_then (below_drew (Below.refl _ _)) hb
set_option maxRecDepth 100000 in
set_option maxHeartbeats 3200000 in
theorem refBuild_big (ns : List Tp.Nd) (i : Nat) (vs : List Vp.Txt) (v vv : Value) (W : World) (ht : TextsAt W v vs) (hn : vs.length ≤ 140737488351232) (hbig : 64 < vs.length) (hno : Vp.build ns i vs = none) :
  Calls Tryz.prog 44 #[typeV vv, .int .i64 (i : Int), v] W (RefBuildQ ns i vs W) := by
 have hbi : (64 : Int) < (vs.length : Int) := by omega
 have HNO := Lib.hid hno
 clear hno
 have hb1 : Below W.heap.size W ((W.alloc (.cells #[vv] 24)).alloc (.cells (arrC 0 0 0 [] [] [] (.slice none 0 0)) 27)) := below_alloc (below_alloc (Below.refl _ _) _) _
 have HV := Lib.hid (refValid_calls v vs _ (ht.below hb1) hn)
 obtain ⟨a, c, rfl, hc, hm, h3⟩ := ht
 clear h3
 go_enter Tryz.func44, Tryz.ntmps44
 go_wp2_with (fail)
 refine HV.out.mono ?_
 rintro e w1 ⟨rfl, hb2⟩
 have S0 := Lib.hid (RSt.begin (vs.length : Int) (Vp.valid vs) hb2)
 obtain ⟨r0, r1, r2, r3, r4, r5, r6, q0, q1, q2, q3, q4, q5, q6⟩ := zero_cells S0.out.res
 obtain ⟨o0, o1, o2, o3, o4, o5, o6, p0, p1, p2, p3, p4, p5, p6⟩ := zero_cells S0.out.out
 clear hb2 hb1
 go_wp2
 (try simp only [Exit.inBlock, Exit.then])
 refine bodyPost_ret (results_cell2_row rfl _ _ (W.heap.size + 1) 27 (arrC 0 0 vs.length (Vp.valid vs) [] [] (.slice none 0 0)) (0, 0) _ rfl S0.out.resAt Tryz.underlying27 rfl info_array_size) rfl ?_
 exact S0.out.done (KidsOwn.nil _ _) (by rw [HNO.out])
end Go.Proofs.YtobhjlchpnpleaaGreatDoor
