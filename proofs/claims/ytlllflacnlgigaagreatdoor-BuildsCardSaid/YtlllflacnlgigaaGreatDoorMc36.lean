/- The reference's build: its state; too many rows, walked. -/
import Derived.Test.YtlllflacnlgigaaGreatDoorMc35
import Derived.Test.YtlllflacnlgigaaGreatDoorMc24
namespace Go.Proofs.YtlllflacnlgigaaGreatDoor
open Go.RowKit
set_option linter.unusedVariables false
set_option linter.unusedSimpArgs false

/-- The reference's build under way: the type's box, its result's cell, its array's cell. -/
structure RSt (W wr : World) (O : Nat) (vv : Value) (n : Int) (v e d : Vp.Txt) (k : Value) : Prop where
  bel : Below W.heap.size W wr
  box : wr.heap[W.heap.size]? = some (.cells #[vv] 25)
  res : wr.heap[W.heap.size + 1]? = some (.cells (arrC 0 0 0 [] [] [] (.slice none 0 0)) 47)
  out : wr.heap[O]? = some (.cells (arrC 0 0 n v e d k) 47)
  olt : W.heap.size + 1 < O
theorem RSt.lt {W wr : World} {O : Nat} {vv : Value} {n : Int} {v e d : Vp.Txt} {k : Value} (h : RSt W wr O vv n v e d k) : O < wr.heap.size := (Array.getElem?_eq_some_iff.1 h.out).1
theorem RSt.below {W wr w' : World} {O : Nat} {vv : Value} {n : Int} {v e d : Vp.Txt} {k : Value} (h : RSt W wr O vv n v e d k) (hb : Below wr.heap.size wr w') : RSt W w' O vv n v e d k where
  bel := below_then h.bel hb
  box := (hb.block _ (Array.getElem?_eq_some_iff.1 h.box).1).trans h.box
  res := (hb.block _ (Array.getElem?_eq_some_iff.1 h.res).1).trans h.res
  out := (hb.block _ (Array.getElem?_eq_some_iff.1 h.out).1).trans h.out
  olt := h.olt
/-- Another block alone is written. -/
theorem RSt.far {W w w' : World} {O : Nat} {vv : Value} {n : Int} {v e d : Vp.Txt} {k : Value} {row : Option Nat} (h : RSt W w O vv n v e d k) (hg : w.grownBy w' row) (hr : ∀ g, row = some g → O < g) : RSt W w' O vv n v e d k where
  bel := h.bel.trans (Below.mono ⟨hg.os, hg.tape, hg.output, hg.size, fun j hj => hg.block j (by have := h.lt; omega) (fun e => by have := hr j e.symm; omega)⟩ (show W.heap.size ≤ O by have := h.olt; omega))
  box := (hg.block _ (Array.getElem?_eq_some_iff.1 h.box).1 (fun e => by have := hr _ e.symm; have := h.olt; omega)).trans h.box
  res := (hg.block _ (Array.getElem?_eq_some_iff.1 h.res).1 (fun e => by have := hr _ e.symm; have := h.olt; omega)).trans h.res
  out := (hg.block _ (Array.getElem?_eq_some_iff.1 h.out).1 (fun e => by have := hr _ e.symm; omega)).trans h.out
  olt := h.olt
theorem RSt.set {W wr : World} {O : Nat} {vv : Value} {n : Int} {v e d : Vp.Txt} {k : Value} (h : RSt W wr O vv n v e d k) (j : Nat) (x : Value) (e' d' : Vp.Txt) (k' : Value)
    (hx : (arrC 0 0 n v e d k).setIfInBounds j x = arrC 0 0 n v e' d' k') : RSt W (wr.setCell ⟨O, j, none⟩ x) O vv n v e' d' k' where
  bel := h.bel.setCell (by have := h.olt; simp only; omega) _
  box := (Below.heap_setCell wr ⟨O, j, none⟩ x _ (by have := h.olt; simp only; omega)).trans h.box
  res := (Below.heap_setCell wr ⟨O, j, none⟩ x _ (by have := h.olt; simp only; omega)).trans h.res
  out := by
    have h' := h.out
    rw [← hx]
    simp [World.setCell, Array.getElem?_modify, h']
  olt := h.olt
theorem RSt.put {W wr : World} {O : Nat} {vv : Value} {n : Int} {v e d : Vp.Txt} {k : Value} (h : RSt W wr O vv n v e d k) (g j : Nat) (x : Value) (hg : O < g) : RSt W (wr.setCell ⟨g, j, none⟩ x) O vv n v e d k where
  bel := h.bel.setCell (by have := h.olt; simp only; omega) _
  box := (Below.heap_setCell wr ⟨g, j, none⟩ x _ (by have := h.olt; simp only; omega)).trans h.box
  res := (Below.heap_setCell wr ⟨g, j, none⟩ x _ (by have := h.olt; simp only; omega)).trans h.res
  out := (Below.heap_setCell wr ⟨g, j, none⟩ x _ (by simp only; omega)).trans h.out
  olt := h.olt
theorem RSt.begin {W w1 : World} {vv : Value} (n : Int) (v : Vp.Txt) (HB : Below ((W.alloc (.cells #[vv] 25)).alloc (.cells (arrC 0 0 0 [] [] [] (.slice none 0 0)) 47)).heap.size ((W.alloc (.cells #[vv] 25)).alloc (.cells (arrC 0 0 0 [] [] [] (.slice none 0 0)) 47)) w1) :
    RSt W (w1.alloc (.cells (arrC 0 0 n v [] [] (.slice none 0 0)) 47)) w1.heap.size vv n v [] [] (.slice none 0 0) := by
  have h1 : ((W.alloc (.cells #[vv] 25)).alloc (.cells (arrC 0 0 0 [] [] [] (.slice none 0 0)) 47)).heap[W.heap.size]? = some (.cells #[vv] 25) := (Below.heap_alloc _ _ _ (by simp)).trans (heap_alloc_new W _)
  have h2 : ((W.alloc (.cells #[vv] 25)).alloc (.cells (arrC 0 0 0 [] [] [] (.slice none 0 0)) 47)).heap[W.heap.size + 1]? = some (.cells (arrC 0 0 0 [] [] [] (.slice none 0 0)) 47) := by
    have := heap_alloc_new (W.alloc (.cells #[vv] 25)) (.cells (arrC 0 0 0 [] [] [] (.slice none 0 0)) 47)
    simpa using this
  have hs := HB.size
  simp at hs
  exact {
    bel := below_alloc (below_then (below_alloc (below_alloc (Below.refl _ _) _) _) HB) _
    box := (Below.heap_alloc _ _ _ (by omega)).trans ((HB.block _ (by simp; omega)).trans h1)
    res := (Below.heap_alloc _ _ _ (by omega)).trans ((HB.block _ (by simp)).trans h2)
    out := heap_alloc_new w1 _
    olt := by omega }
def RefBuildQ (ns : List Tp.Nd) (i : Nat) (vs : List Vp.Txt) (W : World) (e : Ending) (w' : World) : Prop :=
  ∃ u b ar, e = .returned (.tuple #[u, .bool b]) ∧ ArrOwn w' (fun g => W.heap.size ≤ g) ar u ∧ (match Vp.build ns i vs with | none => b = false | some x => b = true ∧ ar = x) ∧ Below W.heap.size W w'
theorem RSt.done {W wr : World} {O : Nat} {vv : Value} {n : Int} {v e d : Vp.Txt} {k : Value} {ks : List Arr} {ns : List Tp.Nd} {i : Nat} {vs : List Vp.Txt} {b : Bool} (h : RSt W wr O vv n v e d k)
    (hk : KidsOwn wr (fun g => O < g) ks k) (hres : match Vp.build ns i vs with | none => b = false | some x => b = true ∧ .mk 0 0 n v e d ks = x) :
    RefBuildQ ns i vs W (.returned (.tuple #[.agg (arrC 0 0 n v e d k), .bool b])) (set7 wr (W.heap.size + 1) (.int .i64 0) (.int .i64 0) (.int .i64 n) (tv v) (tv e) (tv d) k) := by
  refine ⟨_, b, .mk 0 0 n v e d ks, rfl, ⟨k, rfl, ?_⟩, hres, below_set7 h.bel (Nat.le_succ _) _ _ _ _ _ _ _⟩
  have h1 : KidsOwn (set7 wr (W.heap.size + 1) (.int .i64 0) (.int .i64 0) (.int .i64 n) (tv v) (tv e) (tv d) k) (fun g => O < g) ks k := KidsOwn.same ks _ k (fun g hg _ => set7_far _ _ _ (by have := h.olt; omega) _ _ _ _ _ _ _) hk
  exact KidsOwn.weak ks _ _ k (fun g hg _ => by have := h.olt; omega) h1
theorem RSt.resAt {W wr : World} {O : Nat} {vv : Value} {n : Int} {v e d : Vp.Txt} {k : Value} (h : RSt W wr O vv n v e d k) :
    (set7 wr (W.heap.size + 1) (.int .i64 0) (.int .i64 0) (.int .i64 n) (tv v) (tv e) (tv d) k).heap[W.heap.size + 1]? = some (.cells (arrC 0 0 n v e d k) 47) := set7_at h.res _ _ _ _ _ _ _

theorem make_rows0 (w : World) : (Instr.makeSlice 111 (.int .i64 0) (.int .i64 0)).run Tryz.prog w = .ok (.slice (some ⟨w.heap.size, 0, none⟩) 0 0) (w.alloc (.cells #[] 22)) :=
  by
  have h := run_make_row' (P := Tryz.prog) 111 22 (.slice none 0 0) 24 Tryz.underlying111 info_strings rfl .i64 .i64 0 (by decide) (by decide) w
  rw [show madeCells #[Value.slice none 0 0] 0 = #[] by unfold madeCells; simp [Array.range_zero']] at h
  exact h
theorem low_str (x : Int) (n : Nat) (W : World) (hp : 0 < n) (hn : n ≤ 8) (h0 : -9223372036854775808 ≤ x) (h1 : x ≤ 9223372036854775807) :
    Calls Tryz.prog 85 #[.int .i64 x, .int .i64 (n : Int)] W fun e w' => ∃ t : Vp.Txt, t.length = n ∧ (⟨t.toArray⟩ : ByteArray).size = n ∧ word x n = t ∧ e = .returned (.string ⟨t.toArray⟩) ∧ Below W.heap.size W w' :=
  (refLow_calls x n W hp hn h0 h1).mono fun e w' ⟨h, hb⟩ => ⟨word x n, word_length x n, by rw [mk_size, word_length], rfl, h, hb⟩
theorem RefBuildQ.drew {ns : List Tp.Nd} {i : Nat} {vs : List Vp.Txt} {W w' : World} {e : Ending} (h : RefBuildQ ns i vs W e w') : RefBuildQ ns i vs W e w'.drew := by
  obtain ⟨u, b, ar, rfl, h1, h2, h3⟩ := h
  exact ⟨u, b, ar, rfl, h1.same (fun g _ _ => rfl), h2, below_drew h3⟩
theorem RSt.resAtD {W wr : World} {O : Nat} {vv : Value} {n : Int} {v e d : Vp.Txt} {k : Value} (h : RSt W wr O vv n v e d k) :
    (set7 wr (W.heap.size + 1) (.int .i64 0) (.int .i64 0) (.int .i64 n) (tv v) (tv e) (tv d) k).drew.heap[W.heap.size + 1]? = some (.cells (arrC 0 0 n v e d k) 47) := by
  rw [show ∀ w : World, w.drew.heap = w.heap from fun _ => rfl]
  exact h.resAt
theorem RSt.fin {W wr w0 : World} {e0 : Ending} {O : Nat} {vv : Value} {n : Int} {v e d : Vp.Txt} {k : Value} {ks : List Arr} {ns : List Tp.Nd} {i : Nat} {vs : List Vp.Txt} {b : Bool} (h : RSt W wr O vv n v e d k)
    (hk : KidsOwn wr (fun g => O < g) ks k) (hres : match Vp.build ns i vs with | none => b = false | some x => b = true ∧ .mk 0 0 n v e d ks = x)
    (he : e0 = .returned (.tuple #[.agg (arrC 0 0 n v e d k), .bool b])) (hw : w0 = (set7 wr (W.heap.size + 1) (.int .i64 0) (.int .i64 0) (.int .i64 n) (tv v) (tv e) (tv d) k).drew) : RefBuildQ ns i vs W e0 w0 := by
  subst he hw
  exact (h.done hk hres).drew
theorem below_drew_then {w w' : World} (hb : Below w.drew.heap.size w.drew w') : Below w.heap.size w w' := below_then (below_drew (Below.refl _ _)) hb
set_option maxRecDepth 100000 in
set_option maxHeartbeats 3200000 in
theorem refBuild_big (ns : List Tp.Nd) (i : Nat) (vs : List Vp.Txt) (v vv : Value) (W : World) (ht : TextsAt W v vs) (hn : vs.length ≤ 140737488351232) (hbig : 64 < vs.length) (hno : Vp.build ns i vs = none) :
    Calls Tryz.prog 55 #[typeV vv, .int .i64 (i : Int), v] W (RefBuildQ ns i vs W) := by
  have hbi : (64 : Int) < (vs.length : Int) := by omega
  have HNO := Lib.hid hno
  clear hno
  have hb1 : Below W.heap.size W ((W.alloc (.cells #[vv] 25)).alloc (.cells (arrC 0 0 0 [] [] [] (.slice none 0 0)) 47)) := below_alloc (below_alloc (Below.refl _ _) _) _
  have HV := Lib.hid (refValid_calls v vs _ (ht.below hb1) hn)
  obtain ⟨a, c, rfl, hc, hm, h3⟩ := ht
  clear h3
  go_enter Tryz.func55, Tryz.ntmps55
  go_wp2_with (fail)
  refine HV.out.mono ?_
  rintro e w1 ⟨rfl, hb2⟩
  have S0 := Lib.hid (RSt.begin (vs.length : Int) (Vp.valid vs) hb2)
  obtain ⟨r0, r1, r2, r3, r4, r5, r6, q0, q1, q2, q3, q4, q5, q6⟩ := zero_cells S0.out.res
  obtain ⟨o0, o1, o2, o3, o4, o5, o6, p0, p1, p2, p3, p4, p5, p6⟩ := zero_cells S0.out.out
  clear hb2 hb1
  go_wp2
  (try simp only [Exit.inBlock, Exit.then])
  refine bodyPost_ret (results_cell2_row rfl _ _ (W.heap.size + 1) 47 (arrC 0 0 vs.length (Vp.valid vs) [] [] (.slice none 0 0)) (0, 0) _ rfl S0.out.resAt Tryz.underlying47 rfl info_array_size) rfl ?_
  exact S0.out.done (KidsOwn.nil _ _) (by rw [HNO.out])
end Go.Proofs.YtlllflacnlgigaaGreatDoor
