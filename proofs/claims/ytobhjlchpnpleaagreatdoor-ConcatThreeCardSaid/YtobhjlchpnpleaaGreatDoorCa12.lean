/- Package build: the builder's build, walked. -/
import Derived.Test.YtobhjlchpnpleaaGreatDoorCa11
namespace Go.Proofs.YtobhjlchpnpleaaGreatDoor
open Go.RowKit
set_option linter.unusedVariables false
set_option linter.unusedSimpArgs false

/-- What build answers. -/
def BuildQ (ns : List Tp.Nd) (i : Nat) (vs : List Vp.Txt) (vv : Value) (b : Nat) (full : Bool) (W : World) (e : Ending) (w' : World) : Prop :=
 ∃ (a : Arr) (u : Value) (full' : Bool), e = .returned u ∧ ArrOwn w' (fun g => W.heap.size ≤ g) a u ∧ BldAt w' b vv full' ∧ W.grownBy w' (some b) ∧ (full = true → full' = true) ∧
  (full = false → match Vp.build ns i vs with | none => full' = true | some x => full' = false ∧ a = x)
abbrev arrC (l f n : Int) (v e d : Vp.Txt) (k : Value) : Array Value := #[.int .i64 l, .int .i64 f, .int .i64 n, tv v, tv e, tv d, k]
theorem bld_set {w : World} {b : Nat} {vv : Value} {full : Bool} (h : BldAt w b vv full) (f2 : Bool) : BldAt (w.setCell ⟨b, 1, none⟩ (.bool f2)) b vv f2 := by
 have h' : w.heap[b]? = _ := h
 show (w.setCell ⟨b, 1, none⟩ (.bool f2)).heap[b]? = _
 simp [World.setCell, Array.getElem?_modify, h']
theorem zero_cells {w : World} {g : Nat} {t : TypeId} {c0 c1 c2 c3 c4 c5 c6 : Value} (h : w.heap[g]? = some (.cells #[c0, c1, c2, c3, c4, c5, c6] t)) :
  w.cell? ⟨g, 0, none⟩ = some c0 ∧ w.cell? ⟨g, 1, none⟩ = some c1 ∧ w.cell? ⟨g, 2, none⟩ = some c2 ∧ w.cell? ⟨g, 3, none⟩ = some c3 ∧ w.cell? ⟨g, 4, none⟩ = some c4 ∧ w.cell? ⟨g, 5, none⟩ = some c5 ∧ w.cell? ⟨g, 6, none⟩ = some c6 ∧
  w.frozen? ⟨g, 0, none⟩ = false ∧ w.frozen? ⟨g, 1, none⟩ = false ∧ w.frozen? ⟨g, 2, none⟩ = false ∧ w.frozen? ⟨g, 3, none⟩ = false ∧ w.frozen? ⟨g, 4, none⟩ = false ∧ w.frozen? ⟨g, 5, none⟩ = false ∧ w.frozen? ⟨g, 6, none⟩ = false := by
 simp [World.cell?, World.frozen?, h]
theorem info_array_size : (Tryz.prog.info? 27).map (·.size) = some 7 := by kernel_rfl


abbrev set7 (w : World) (g : Nat) (x0 x1 x2 x3 x4 x5 x6 : Value) : World := ((((((w.setCell ⟨g, 0, none⟩ x0).setCell ⟨g, 1, none⟩ x1).setCell ⟨g, 2, none⟩ x2).setCell ⟨g, 3, none⟩ x3).setCell ⟨g, 4, none⟩ x4).setCell ⟨g, 5, none⟩ x5).setCell ⟨g, 6, none⟩ x6
theorem set7_at {w : World} {g : Nat} {t : TypeId} {c0 c1 c2 c3 c4 c5 c6 : Value} (h : w.heap[g]? = some (.cells #[c0, c1, c2, c3, c4, c5, c6] t)) (x0 x1 x2 x3 x4 x5 x6 : Value) : (set7 w g x0 x1 x2 x3 x4 x5 x6).heap[g]? = some (.cells #[x0, x1, x2, x3, x4, x5, x6] t) := by
 simp [World.setCell, Array.getElem?_modify, h]
theorem set7_far (w : World) (g k : Nat) (hk : k ≠ g) (x0 x1 x2 x3 x4 x5 x6 : Value) : (set7 w g x0 x1 x2 x3 x4 x5 x6).heap[k]? = w.heap[k]? := by
 have e : ∀ (w : World) j x, (w.setCell ⟨g, j, none⟩ x).heap[k]? = w.heap[k]? := fun w j x => Below.heap_setCell w ⟨g, j, none⟩ x k hk
 simp only [set7, e]
theorem set7_size (w : World) (g : Nat) (x0 x1 x2 x3 x4 x5 x6 : Value) : (set7 w g x0 x1 x2 x3 x4 x5 x6).heap.size = w.heap.size := by simp [set7]

theorem set7_rest (w : World) (g : Nat) (x0 x1 x2 x3 x4 x5 x6 : Value) : (set7 w g x0 x1 x2 x3 x4 x5 x6).os = w.os ∧ (set7 w g x0 x1 x2 x3 x4 x5 x6).tape = w.tape ∧ (set7 w g x0 x1 x2 x3 x4 x5 x6).output = w.output := by
 simp only [set7, World.setCell, and_self]

/-- The builder's build under way: its result's cell, its array's cell, the builder. -/
structure BSt (W wr : World) (b O : Nat) (vv : Value) (fl : Bool) (n : Int) (v e d : Vp.Txt) (k : Value) : Prop where
 grown : W.grownBy wr (some b)
 bld : BldAt wr b vv fl
 blt : b < W.heap.size
 res : wr.heap[W.heap.size]? = some (.cells (arrC 0 0 0 [] [] [] (.slice none 0 0)) 27)
 out : wr.heap[O]? = some (.cells (arrC 0 0 n v e d k) 27)
 olt : W.heap.size < O
theorem BSt.below {W wr w' : World} {b O : Nat} {vv : Value} {fl : Bool} {n : Int} {v e d : Vp.Txt} {k : Value} (h : BSt W wr b O vv fl n v e d k) (hb : Below wr.heap.size wr w') : BSt W w' b O vv fl n v e d k where
 grown := ⟨hb.os.trans h.grown.os, hb.tape.trans h.grown.tape, hb.output.trans h.grown.output, Nat.le_trans h.grown.size hb.size, fun j hj hr => (hb.block j (Nat.lt_of_lt_of_le hj h.grown.size)).trans (h.grown.block j hj hr)⟩
 bld := h.bld.below hb
 blt := h.blt
 res := (hb.block _ (Array.getElem?_eq_some_iff.1 h.res).1).trans h.res
 out := (hb.block _ (Array.getElem?_eq_some_iff.1 h.out).1).trans h.out
 olt := h.olt
theorem BSt.lt {W wr : World} {b O : Nat} {vv : Value} {fl : Bool} {n : Int} {v e d : Vp.Txt} {k : Value} (h : BSt W wr b O vv fl n v e d k) : O < wr.heap.size := (Array.getElem?_eq_some_iff.1 h.out).1
theorem BSt.set {W wr : World} {b O : Nat} {vv : Value} {fl : Bool} {n : Int} {v e d : Vp.Txt} {k : Value} (h : BSt W wr b O vv fl n v e d k) (j : Nat) (x : Value) (e' d' : Vp.Txt) (k' : Value)
  (hx : (arrC 0 0 n v e d k).setIfInBounds j x = arrC 0 0 n v e' d' k') : BSt W (wr.setCell ⟨O, j, none⟩ x) b O vv fl n v e' d' k' where
 grown := ⟨h.grown.os, h.grown.tape, h.grown.output, by simpa using h.grown.size, fun i hi hr => (Below.heap_setCell wr ⟨O, j, none⟩ x i (by have := h.olt; simp only; omega)).trans (h.grown.block i hi hr)⟩
 bld := (Below.heap_setCell wr ⟨O, j, none⟩ x b (by have := h.olt; have := h.blt; simp only; omega)).trans h.bld
 blt := h.blt
 res := (Below.heap_setCell wr ⟨O, j, none⟩ x _ (by have := h.olt; simp only; omega)).trans h.res
 out := by
  have h' := h.out
  rw [← hx]
  simp [World.setCell, Array.getElem?_modify, h']
 olt := h.olt
/-- Where it begins. -/
theorem BSt.begin {W w1 : World} {b : Nat} {vv : Value} {full : Bool} (fl : Bool) (n : Int) (v : Vp.Txt) (hb : BldAt W b vv full) (HB : Below W.heap.size W w1)
  (hR : w1.heap[W.heap.size]? = some (.cells (arrC 0 0 0 [] [] [] (.slice none 0 0)) 27)) :
  BSt W ((w1.setCell ⟨b, 1, none⟩ (.bool fl)).alloc (.cells (arrC 0 0 n v [] [] (.slice none 0 0)) 27)) b w1.heap.size vv fl n v [] [] (.slice none 0 0) where
 grown := ⟨HB.os, HB.tape, HB.output, by have := HB.size; simp; omega, fun j hj hr => by
  rw [Below.heap_alloc _ _ j (by have := HB.size; simp; omega), Below.heap_setCell w1 ⟨b, 1, none⟩ _ j (fun e => hr (by rw [e]))]
  exact HB.block j hj⟩
 bld := by
  have h1 : BldAt w1 b vv full := hb.below HB
  exact (Below.heap_alloc _ _ b (by have := h1.lt; simpa using this)).trans (bld_set h1 fl)
 blt := hb.lt
 res := by
  have hlt := (Array.getElem?_eq_some_iff.1 hR).1
  rw [Below.heap_alloc _ _ _ (by simpa using hlt), Below.heap_setCell w1 ⟨b, 1, none⟩ _ _ (by have := hb.lt; simp only; omega)]
  exact hR
 out := by
  have := heap_alloc_new (w1.setCell ⟨b, 1, none⟩ (.bool fl)) (.cells (arrC 0 0 n v [] [] (.slice none 0 0)) 27)
  simpa using this
 olt := (Array.getElem?_eq_some_iff.1 hR).1
/-- Where it ends. -/
theorem BSt.done {W wr : World} {b O : Nat} {vv : Value} {fl full : Bool} {n : Int} {v e d : Vp.Txt} {k : Value} {ks : List Arr} {ns : List Tp.Nd} {i : Nat} {vs : List Vp.Txt} (h : BSt W wr b O vv fl n v e d k)
  (hk : KidsOwn wr (fun g => O < g) ks k) (hfl : full = true → fl = true) (hres : full = false → match Vp.build ns i vs with | none => fl = true | some x => fl = false ∧ .mk 0 0 n v e d ks = x) :
  BuildQ ns i vs vv b full W (.returned (arrV 0 0 n v e d k)) (set7 wr W.heap.size (.int .i64 0) (.int .i64 0) (.int .i64 n) (tv v) (tv e) (tv d) k) := by
 refine ⟨.mk 0 0 n v e d ks, _, fl, rfl, ⟨k, rfl, ?_⟩, ?_, ?_, hfl, hres⟩
 ·have h1 : KidsOwn (set7 wr W.heap.size (.int .i64 0) (.int .i64 0) (.int .i64 n) (tv v) (tv e) (tv d) k) (fun g => O < g) ks k := KidsOwn.same ks _ k (fun g hg _ => set7_far _ _ _ (by have := h.olt; omega) _ _ _ _ _ _ _) hk
  exact KidsOwn.weak ks _ _ k (fun g hg _ => by have := h.olt; omega) h1
 ·exact (set7_far _ _ _ (by have := h.blt; omega) _ _ _ _ _ _ _).trans h.bld
 ·exact ⟨(set7_rest _ _ _ _ _ _ _ _ _).1.trans h.grown.os, (set7_rest _ _ _ _ _ _ _ _ _).2.1.trans h.grown.tape, (set7_rest _ _ _ _ _ _ _ _ _).2.2.trans h.grown.output, by rw [set7_size]; exact h.grown.size, fun j hj hr => (set7_far _ _ _ (by omega) _ _ _ _ _ _ _).trans (h.grown.block j hj hr)⟩
theorem BSt.resAt {W wr : World} {b O : Nat} {vv : Value} {fl : Bool} {n : Int} {v e d : Vp.Txt} {k : Value} (h : BSt W wr b O vv fl n v e d k) :
  (set7 wr W.heap.size (.int .i64 0) (.int .i64 0) (.int .i64 n) (tv v) (tv e) (tv d) k).heap[W.heap.size]? = some (.cells (arrC 0 0 n v e d k) 27) := set7_at h.res _ _ _ _ _ _ _
theorem BSt.alloc {W wr : World} {b O : Nat} {vv : Value} {fl : Bool} {n : Int} {v e d : Vp.Txt} {k : Value} (h : BSt W wr b O vv fl n v e d k) (o : Obj) : BSt W (wr.alloc o) b O vv fl n v e d k := h.below ((Below.refl _ _).alloc (Nat.le_refl _) _)

/-- The arguments, where only the builder's block is written. -/
theorem texts_grown {W wr : World} {b : Nat} {v vv : Value} {xs : List Vp.Txt} {full : Bool} {va : Option Addr} {vn vc : Nat} (h : TextsAt W v xs) (hb : BldAt W b vv full) (hvv : vv = .slice va vn vc) (hg : W.grownBy wr (some b)) : TextsAt wr v xs := by
 obtain ⟨a, c, rfl, h1, h2, h3⟩ := h
 refine ⟨a, c, rfl, h1, h2, fun hn => ?_⟩
 obtain ⟨bk, o, rfl, hk, hc⟩ := h3 hn
 have hne : bk ≠ b := by
  rintro rfl
  obtain ⟨x, hx⟩ : ∃ x, xs[0]? = some x := by
   cases xs with
   | nil => exact absurd rfl hn
   | cons x xs => exact ⟨x, rfl⟩
  have := hc 0 x hx
  have hb' : W.heap[bk]? = _ := hb
  simp only [World.cell?, hb', Option.isSome_none, Bool.false_eq_true, if_false, Nat.add_zero] at this
  subst hvv
  match o, this with
  | 0, this => simp at this
  | 1, this => simp at this
  | o + 2, this => simp at this
 refine ⟨bk, o, rfl, Nat.lt_of_lt_of_le hk hg.size, fun j x hx => ?_⟩
 rw [World.cell?_of_block (w := W) (a := ⟨bk, o + j, none⟩) (hg.block bk hk (fun e => hne (Option.some.inj e)))]
 exact hc j x hx
theorem nodes_grown {W wr : World} {b : Nat} {vv : Value} {ns : List Tp.Nd} {full : Bool} (h : NodesAt W vv ns) (hb : BldAt W b vv full) (hg : W.grownBy wr (some b)) : NodesAt wr vv ns := by
 obtain ⟨a, c, hvv, h1, h2, h3⟩ := h
 refine ⟨a, c, hvv, h1, h2, fun hn => ?_⟩
 obtain ⟨bk, o, ha, hk, hc⟩ := h3 hn
 have hne : bk ≠ b := by
  rintro rfl
  obtain ⟨x, hx⟩ : ∃ x, ns[0]? = some x := by
   cases ns with
   | nil => exact absurd rfl hn
   | cons x xs => exact ⟨x, rfl⟩
  obtain ⟨q0, q1, q2⟩ := hc 0 x hx
  have hb' : W.heap[bk]? = _ := hb
  simp only [World.cell?, hb', Option.isSome_none, Bool.false_eq_true, if_false, Nat.zero_mul, Nat.add_zero] at q0
  subst hvv
  match o, q0 with
  | 0, q0 => simp at q0
  | 1, q0 => simp at q0
  | o + 2, q0 => simp at q0
 refine ⟨bk, o, ha, Nat.lt_of_lt_of_le hk hg.size, fun j x hx => ?_⟩
 have e := fun q => World.cell?_of_block (w := W) (w' := wr) (a := ⟨bk, q, none⟩) (hg.block bk hk (fun e => hne (Option.some.inj e)))
 rw [e, e, e]
 exact hc j x hx
theorem alloc_rest (w : World) (o : Obj) : (w.alloc o).os = w.os ∧ (w.alloc o).tape = w.tape ∧ (w.alloc o).output = w.output := ⟨rfl, rfl, rfl⟩
theorem set_rest (w : World) (p : Addr) (x : Value) : (w.setCell p x).os = w.os ∧ (w.setCell p x).tape = w.tape ∧ (w.setCell p x).output = w.output := ⟨rfl, rfl, rfl⟩
theorem big_end {W w1 : World} {b : Nat} {vv : Value} {full : Bool} {ns : List Tp.Nd} {i : Nat} {vs : List Vp.Txt} {v : Vp.Txt} {n : Int} (o : Obj) (hb : BldAt W b vv full) (HB : Below W.heap.size W w1) (hno : full = false → Vp.build ns i vs = none) :
  BuildQ ns i vs vv b full W (.returned (arrV 0 0 n v [] [] (.slice none 0 0))) ((set7 (w1.setCell ⟨b, 1, none⟩ (.bool true)) W.heap.size (.int .i64 0) (.int .i64 0) (.int .i64 n) (tv v) (tv []) (tv []) (.slice none 0 0)).alloc o) := by
 have hbl1 := hb.below HB
 have hbR : b ≠ W.heap.size := by have := hb.lt; omega
 refine ⟨.mk 0 0 n v [] [] [], _, true, rfl, ⟨_, rfl, KidsOwn.nil _ _⟩, ?_, ?_, fun _ => rfl, fun h => by rw [hno h]⟩
 ·refine (Below.heap_alloc _ _ b (by rw [set7_size]; simp; exact hbl1.lt)).trans ?_
  exact (set7_far (w1.setCell ⟨b, 1, none⟩ (.bool true)) W.heap.size b hbR _ _ _ _ _ _ _).trans (bld_set hbl1 true)
 ·have hr := set7_rest (w1.setCell ⟨b, 1, none⟩ (.bool true)) W.heap.size (.int .i64 0) (.int .i64 0) (.int .i64 n) (tv v) (tv []) (tv []) (.slice none 0 0)
  have hs := set_rest w1 ⟨b, 1, none⟩ (.bool true)
  have ha := alloc_rest (set7 (w1.setCell ⟨b, 1, none⟩ (.bool true)) W.heap.size (.int .i64 0) (.int .i64 0) (.int .i64 n) (tv v) (tv []) (tv []) (.slice none 0 0)) o
  refine ⟨ha.1.trans (hr.1.trans (hs.1.trans HB.os)), ha.2.1.trans (hr.2.1.trans (hs.2.1.trans HB.tape)), ha.2.2.trans (hr.2.2.trans (hs.2.2.trans HB.output)), ?_, fun j hj hjb => ?_⟩
  ·have := HB.size
   have e := set7_size (w1.setCell ⟨b, 1, none⟩ (.bool true)) W.heap.size (.int .i64 0) (.int .i64 0) (.int .i64 n) (tv v) (tv []) (tv []) (.slice none 0 0)
   simp only [World.size_alloc, e]
   simp
   omega
  ·rw [Below.heap_alloc _ _ j (by rw [set7_size]; have := HB.size; simp; omega), set7_far _ _ j (by omega), Below.heap_setCell w1 ⟨b, 1, none⟩ _ j (fun e => hjb (by rw [e]))]
   exact HB.block j hj
set_option maxRecDepth 100000 in
set_option maxHeartbeats 3200000 in
theorem build_big (ns : List Tp.Nd) (i b : Nat) (vs : List Vp.Txt) (v vv : Value) (full : Bool) (W : World) (hb : BldAt W b vv full) (ht : TextsAt W v vs) (hn : vs.length ≤ 140737488351232) (hbig : 64 < vs.length) (hfull : full = false) (hno : Vp.build ns i vs = none) :
  Calls Tryz.prog 62 #[.pointer (some ⟨b, 0, none⟩), .int .i64 (i : Int), v] W (BuildQ ns i vs vv b full W) := by
 subst hfull
 have hbi : (64 : Int) < (vs.length : Int) := by omega
 have HNO := Lib.hid hno
 clear hno
 have hb1 : Below W.heap.size W (W.alloc (.cells #[.int .i64 0, .int .i64 0, .int .i64 0, .string ⟨#[]⟩, .string ⟨#[]⟩, .string ⟨#[]⟩, .slice none 0 0] 27)) := (Below.refl _ _).alloc (Nat.le_refl _) _
 have HV := Lib.hid (valid_calls v vs _ (ht.below hb1) hn)
 have HBL := Lib.hid hb
 have HTX := Lib.hid ht
 obtain ⟨a, c, rfl, hc, hm, h3⟩ := ht
 clear h3 hb
 go_enter Tryz.func62, Tryz.ntmps62
 go_wp2_with (fail)
 refine HV.out.mono ?_
 rintro e w1 ⟨rfl, hb2⟩
 have HB := Lib.hid (below_then hb1 hb2)
 have hbl1 := HBL.out.below HB.out
 have hR : w1.heap[W.heap.size]? = some (.cells #[.int .i64 0, .int .i64 0, .int .i64 0, .string ⟨#[]⟩, .string ⟨#[]⟩, .string ⟨#[]⟩, .slice none 0 0] 27) := (hb2.block _ (by simp)).trans (heap_alloc_new W _)
 have HR := Lib.hid hR
 obtain ⟨r0, r1, r2, r3, r4, r5, r6, q0, q1, q2, q3, q4, q5, q6⟩ := zero_cells hR
 have c0 := hbl1.c0
 have c1 := hbl1.c1
 have hbf := hbl1.f1
 have hblt := hbl1.lt
 have hRlt : W.heap.size < w1.heap.size := by have := hb2.size; simp at this; omega
 have hbR : ¬ b = W.heap.size := by have := HBL.out.lt; omega
 have hRb : ¬ W.heap.size = b := by have := HBL.out.lt; omega
 clear hR hb2 hb1
 go_wp2
 (try simp only [Exit.inBlock, Exit.then])
 refine bodyPost_ret (results_cell_row rfl _ _ W.heap.size 27 (arrC 0 0 vs.length (Vp.valid vs) [] [] (.slice none 0 0)) (0, 0) _ rfl ?_ Tryz.underlying27 rfl info_array_size) rfl ?_
 ·rw [Below.heap_alloc _ _ _ (by simp; omega)]
  exact set7_at (w := w1.setCell ⟨b, 1, none⟩ (.bool true)) ((Below.heap_setCell w1 ⟨b, 1, none⟩ _ _ hRb).trans HR.out) _ _ _ _ _ _ _
 ·exact big_end _ HBL.out HB.out (fun _ => HNO.out)
set_option maxRecDepth 100000 in
set_option maxHeartbeats 3200000 in
theorem build_full (ns : List Tp.Nd) (i b : Nat) (vs : List Vp.Txt) (v vv : Value) (full : Bool) (W : World) (hb : BldAt W b vv full) (ht : TextsAt W v vs) (hn : vs.length ≤ 140737488351232) (hfull : full = true) :
  Calls Tryz.prog 62 #[.pointer (some ⟨b, 0, none⟩), .int .i64 (i : Int), v] W (BuildQ ns i vs vv b full W) := by
 subst hfull
 have hb1 : Below W.heap.size W (W.alloc (.cells #[.int .i64 0, .int .i64 0, .int .i64 0, .string ⟨#[]⟩, .string ⟨#[]⟩, .string ⟨#[]⟩, .slice none 0 0] 27)) := (Below.refl _ _).alloc (Nat.le_refl _) _
 have HV := Lib.hid (valid_calls v vs _ (ht.below hb1) hn)
 have HBL := Lib.hid hb
 have HTX := Lib.hid ht
 obtain ⟨a, c, rfl, hc, hm, h3⟩ := ht
 clear h3 hb
 go_enter Tryz.func62, Tryz.ntmps62
 go_wp2_with (fail)
 refine HV.out.mono ?_
 rintro e w1 ⟨rfl, hb2⟩
 have HB := Lib.hid (below_then hb1 hb2)
 have hbl1 := HBL.out.below HB.out
 have hR : w1.heap[W.heap.size]? = some (.cells #[.int .i64 0, .int .i64 0, .int .i64 0, .string ⟨#[]⟩, .string ⟨#[]⟩, .string ⟨#[]⟩, .slice none 0 0] 27) := (hb2.block _ (by simp)).trans (heap_alloc_new W _)
 have HR := Lib.hid hR
 obtain ⟨r0, r1, r2, r3, r4, r5, r6, q0, q1, q2, q3, q4, q5, q6⟩ := zero_cells hR
 have c0 := hbl1.c0
 have c1 := hbl1.c1
 have hbf := hbl1.f1
 have hblt := hbl1.lt
 have hRlt : W.heap.size < w1.heap.size := by have := hb2.size; simp at this; omega
 have hbR : ¬ b = W.heap.size := by have := HBL.out.lt; omega
 have hRb : ¬ W.heap.size = b := by have := HBL.out.lt; omega
 clear hR hb2 hb1
 go_wp2
 (try simp only [Exit.inBlock, Exit.then])
 refine bodyPost_ret (results_cell_row rfl _ _ W.heap.size 27 (arrC 0 0 vs.length (Vp.valid vs) [] [] (.slice none 0 0)) (0, 0) _ rfl ?_ Tryz.underlying27 rfl info_array_size) rfl ?_
 ·rw [Below.heap_alloc _ _ _ (by simp; omega)]
  exact set7_at (w := w1.setCell ⟨b, 1, none⟩ (.bool true)) ((Below.heap_setCell w1 ⟨b, 1, none⟩ _ _ hRb).trans HR.out) _ _ _ _ _ _ _
 ·exact big_end _ HBL.out HB.out (fun h => by cases h)
end Go.Proofs.YtobhjlchpnpleaaGreatDoor
