/- Several texts in one: RefBldR, RefBldK. -/
import Derived.Test.YtobhjlchpnpleaaGreatDoorCa21
import Derived.Maps.AppendAt
import Derived.Test.YtobhjlchpnpleaaGreatDoorCa22
/- Rows that a call appends to, one at a time; plain law of their memory. -/
namespace Go.Proofs.YtobhjlchpnpleaaGreatDoor
open Go.RowKit
set_option linter.unusedVariables false
set_option linter.unusedSimpArgs false

/-- 'append(v, xs...)' onto a row of the call's own, from a slice of which the cells are known, nil let in; where the row lies. -/
theorem wp_appSA {P : Program} {ops : Array Oper} {rest : List Oper} {o : Oper} {a : Act} {Q : Exit → Act → World → Prop} {w : World}
  (hgd : o.guard = none) (s x : Operand) (t e : TypeId) (ho : o.op = .call { callee := .builtin .append, args := #[s, x], argTypes := #[t, t] })
  (base size bytes : Nat) (z : Value) (ht : P.underlying t = some (.slice e)) (hi : (P.info? e).map (fun i => (i.zero, i.size, i.bytes)) = some (some z, size, bytes)) (hz : z.cells.size = size) (hsz : 0 < size)
  (v : Value) (n : Nat) (xs : List Value) (hs : a.eval s = v) (hown : w.ownsRow base e size v n xs)
  (A : Option Addr) (m c : Nat) (news : List Value) (hx : a.eval x = .slice A m c) (hl : news.length = m * size) (hA : m ≠ 0 → ∃ ad, A = some ad ∧ ∀ j u, news[j]? = some u → w.cell? (ad.add j) = some u)
  (h1 : ∀ u ∈ news, u.oneCell' = true) (hn : (n + m) * bytes ≤ 140737488355328) (hm : n + m < 140737488355328) (hb : base ≤ w.heap.size)
  (h : ∀ v' w', w'.ownsRow base e size v' (n + m) (xs ++ news) → Below base w w' → w.grownBy w' v.ownBlock → (v'.ownBlock = v.ownBlock ∨ v'.ownBlock = some w.heap.size) → wpList P ops Q rest (a.put o.dst v') w') :
  wpList P ops Q (o :: rest) a w := by
 obtain ⟨i0, hi, hz0, hz1, hz2⟩ := info_parts hi
 have hbel : ∀ w', w.grownBy w' v.ownBlock → Below base w w' := fun w' hg => ⟨hg.os, hg.tape, hg.output, hg.size, fun k hk => hg.block k (by omega) (fun e => by have := (hown.lt k e.symm).1; omega)⟩
 cases A with
 | none =>
  have hm0 : m = 0 := by
   rcases Nat.eq_zero_or_pos m with h0 | h0
   ·exact h0
   ·obtain ⟨ad, hh, _⟩ := hA (by omega)
    cases hh
  subst hm0
  have hnews : news = [] := List.eq_nil_of_length_eq_zero (by simpa using hl)
  subst hnews
  have hrun : (Builtin.append_ #[t, t] o.type #[v, .slice none 0 c]).run P w = .ok v w := by
   rcases hown.2 with ⟨rfl, hn0⟩ | ⟨g, cap, cur, rfl, _, _, hnc, _⟩
   ·simp [Builtin.append_, run_underlying ht, sizeOf, typeInfo, hi, Builtin.lenOf, Builtin.firstCells]
   ·simp [Builtin.append_, run_underlying ht, sizeOf, typeInfo, hi, Builtin.lenOf, Builtin.firstCells, hnc, storeCells]
  refine wpList_plain hgd fun K hK => ?_
  unfold Oper.wp
  simp [execOp, ho, resolve, invoke, builtin, hs, hx, hrun, Result.andThen]
  exact hK _ _ (h v w (by simpa using hown) (Below.refl _ _) (World.grownBy.refl w _) (.inl rfl))
 | some ad =>
  have hcells : ∀ j u, news[j]? = some u → w.cell? (ad.add j) = some u := fun j u hu => by
   rcases Nat.eq_zero_or_pos m with h0 | h0
   ·subst h0
    have hnews : news = [] := List.eq_nil_of_length_eq_zero (by simpa using hl)
    subst hnews
    simp at hu
   ·obtain ⟨ad', hh, hc⟩ := hA (by omega)
    obtain rfl := Option.some.inj hh
    exact hc j u hu
  refine wpList_append_own_at _ hgd s x t ho base e i0 z size bytes ht hi hz0 hz1 hz2 hz hsz v n xs hs hown ad m c news hx hl hcells h1 (by unfold maxLen; omega) hn hb ?_
  intro v' w' h2 h3 _ h4
  exact h v' w' h2 (hbel w' h3) h3 h4

/-- Rows of texts in a slice of the call's own, no two of which share a block. -/
def RowsD (w : World) (B RG : Nat) (rows : List (List Vp.Txt)) : Prop :=
 ∃ cs : List Value, w.heap[RG]? = some (.cells cs.toArray 39) ∧ cs.length = rows.length ∧ RG < B ∧
  (∀ (j : Nat) (row : List Vp.Txt) (c : Value), rows[j]? = some row → cs[j]? = some c → w.ownsRow B 9 1 c row.length (row.map tv)) ∧
  (∀ (j j' : Nat) (c c' : Value) (g : Nat), cs[j]? = some c → cs[j']? = some c' → c.ownBlock = some g → c'.ownBlock = some g → j = j')
theorem RowsD.below {w w' : World} {B RG : Nat} {rows : List (List Vp.Txt)} (h : RowsD w B RG rows) (hb : Below w.heap.size w w') : RowsD w' B RG rows := by
 obtain ⟨cs, h1, h2, h3, h4, h5⟩ := h
 exact ⟨cs, (hb.block _ (Array.getElem?_eq_some_iff.1 h1).1).trans h1, h2, h3, fun j row c hj hc => own_below (h4 j row c hj hc) hb, h5⟩
theorem RowsD.keep {w w' : World} {B RG : Nat} {rows : List (List Vp.Txt)} (h : RowsD w B RG rows) (h1' : KeepT 39 w w') (h2' : KeepT 9 w w') : RowsD w' B RG rows := by
 obtain ⟨cs, h1, h2, h3, h4, h5⟩ := h
 exact ⟨cs, (h1' RG ⟨_, h1⟩).trans h1, h2, h3, fun j row c hj hc => h2'.own (h4 j row c hj hc), h5⟩
theorem RowsD.lt {w : World} {B RG : Nat} {rows : List (List Vp.Txt)} (h : RowsD w B RG rows) : RG < w.heap.size := by
 obtain ⟨cs, h1, _⟩ := h
 exact (Array.getElem?_eq_some_iff.1 h1).1
/-- A row, and what comes of an append to it. -/
theorem RowsD.at {w : World} {B RG j : Nat} {rows : List (List Vp.Txt)} {row : List Vp.Txt} (h : RowsD w B RG rows) (hj : rows[j]? = some row) :
  ∃ a c, w.cell? ⟨RG, j, none⟩ = some (.slice a row.length c) ∧ w.frozen? ⟨RG, j, none⟩ = false ∧ w.ownsRow B 9 1 (.slice a row.length c) row.length (row.map tv) ∧
   ∀ (w1 w' : World) (v' : Value) (news : List Vp.Txt), Below w.heap.size w w1 → w'.ownsRow B 9 1 v' (row.length + news.length) (row.map tv ++ news.map tv) → w1.grownBy w' (Value.slice a row.length c).ownBlock → (v'.ownBlock = (Value.slice a row.length c).ownBlock ∨ v'.ownBlock = some w1.heap.size) →
    RowsD (w'.setCell ⟨RG, j, none⟩ v') B RG (rows.set j (row ++ news)) := by
 obtain ⟨cs, h1, h2, h3, h4, h5⟩ := h
 have hjl := (List.getElem?_eq_some_iff.1 hj).1
 obtain ⟨c, hc⟩ : ∃ c, cs[j]? = some c := ⟨_, List.getElem?_eq_getElem (by omega)⟩
 have ho := h4 j row c hj hc
 obtain ⟨a, cc, rfl⟩ := own_slice ho
 refine ⟨a, cc, ?_, ?_, ho, ?_⟩
 ·simp only [World.cell?, h1, Option.isSome_none, Bool.false_eq_true, if_false]
  rw [List.getElem?_toArray]; exact hc
 ·simp [World.frozen?, h1]
 ·intro w1 w' v' news hb1 ho' hg hv
  have hRG : w'.heap[RG]? = some (.cells cs.toArray 39) := by
   rw [hg.block RG (by have := (Array.getElem?_eq_some_iff.1 h1).1; have := hb1.size; omega) (fun e => by have := (ho.lt RG e.symm).1; omega)]
   exact (hb1.block _ (Array.getElem?_eq_some_iff.1 h1).1).trans h1
  have hkeep : KeepT 9 w' (w'.setCell ⟨RG, j, none⟩ v') := KeepT.set (e' := 39) hRG (by decide)
  refine ⟨cs.set j v', ?_, by rw [List.length_set, List.length_set]; exact h2, h3, ?_, ?_⟩
  ·simp [World.setCell, Array.getElem?_modify, hRG]
  ·intro k r d hk hd
   by_cases hkj : k = j
   ·subst hkj
    rw [List.getElem?_set_self (by omega)] at hk hd
    obtain rfl := Option.some.inj hk
    obtain rfl := Option.some.inj hd
    rw [List.length_append, List.map_append]
    exact hkeep.own ho'
   ·rw [List.getElem?_set_ne (fun e => hkj e.symm)] at hk hd
    refine hkeep.own (own_same (own_below (h4 k r d hk hd) hb1) fun g hgd hcur => ?_)
    obtain ⟨cur, hcur⟩ := hcur
    exact hg.block g (Array.getElem?_eq_some_iff.1 hcur).1 (fun e => hkj (h5 k j d _ g hd hc hgd e.symm))
  ·intro k k' d d' g hd hd' hgd hgd'
   by_cases hkj : k = j
   ·subst hkj
    rw [List.getElem?_set_self (by omega)] at hd
    obtain rfl := Option.some.inj hd
    by_cases hk'j : k' = k
    ·exact hk'j.symm
    ·rw [List.getElem?_set_ne (fun e => hk'j e.symm)] at hd'
     rcases hv with e | e
     ·exact h5 k k' _ _ g hc hd' (e.symm.trans hgd) hgd'
     ·exfalso
      have : g = w1.heap.size := Option.some.inj (hgd.symm.trans e)
      have hr := List.getElem?_eq_getElem (l := rows) (i := k') (by have := (List.getElem?_eq_some_iff.1 hd').1; omega)
      have := ((h4 k' _ d' hr hd').lt g hgd').2
      have := hb1.size
      omega
   ·rw [List.getElem?_set_ne (fun e => hkj e.symm)] at hd
    by_cases hk'j : k' = j
    ·subst hk'j
     rw [List.getElem?_set_self (by omega)] at hd'
     obtain rfl := Option.some.inj hd'
     rcases hv with e | e
     ·exact h5 k k' _ _ g hd hc hgd (e.symm.trans hgd')
     ·exfalso
      have : g = w1.heap.size := Option.some.inj (hgd'.symm.trans e)
      have hr := List.getElem?_eq_getElem (l := rows) (i := k) (by have := (List.getElem?_eq_some_iff.1 hd).1; omega)
      have := ((h4 k _ d hr hd).lt g hgd).2
      have := hb1.size
      omega
    ·rw [List.getElem?_set_ne (fun e => hk'j e.symm)] at hd'
     exact h5 k k' d d' g hd hd' hgd hgd'
/-- A row is read. -/
theorem RowsD.text {w : World} {B RG j : Nat} {rows : List (List Vp.Txt)} {row : List Vp.Txt} (h : RowsD w B RG rows) (hj : rows[j]? = some row) :
  ∃ a c, w.cell? ⟨RG, j, none⟩ = some (.slice a row.length c) ∧ TextsAt w (.slice a row.length c) row := by
 obtain ⟨a, c, h1, _, h3, _⟩ := h.at hj
 exact ⟨a, c, h1, own_texts h3⟩
/-- New rows, all empty. -/
theorem RowsD.make {w : World} {RG : Nat} (m : Nat) (hRG : w.heap.size = RG) : RowsD (w.alloc (.cells (madeCells #[Value.slice none 0 0] m) 39)) (RG + 1) RG (List.replicate m []) := by
 subst hRG
 have hm : madeCells #[Value.slice none 0 0] m = (List.replicate m (Value.slice none 0 0)).toArray := by
  apply Array.ext
  ·simp [madeCells]
  ·intro i h1 h2
   simp [madeCells]
   rw [Nat.mod_one]
   rfl
 refine ⟨List.replicate m (.slice none 0 0), by rw [hm]; exact heap_alloc_new w _, by simp, Nat.lt_succ_self _, ?_, ?_⟩
 ·intro j row c hj hc
  have hj' := List.mem_of_getElem? hj
  have hc' := List.mem_of_getElem? hc
  rw [List.mem_replicate] at hj' hc'
  rw [hj'.2, hc'.2]
  exact ⟨rfl, .inl ⟨rfl, rfl⟩⟩
 ·intro j j' c c' g hc _ hg _
  have hc' := List.mem_of_getElem? hc
  rw [List.mem_replicate] at hc'
  rw [hc'.2] at hg
  simp [Value.ownBlock] at hg
end Go.Proofs.YtobhjlchpnpleaaGreatDoor

/- The reference's build of kids: what is known of a kid that is built; plain law of memory. -/
namespace Go.Proofs.YtobhjlchpnpleaaGreatDoor
open Go.RowKit
set_option linter.unusedVariables false
set_option linter.unusedSimpArgs false

theorem RSt.own {W wr w' : World} {O B : Nat} {vv : Value} {n : Int} {v e d : Vp.Txt} {k : Value} (h : RSt W wr O vv n v e d k) (hb : Below B wr w') (hO : O < B) : RSt W w' O vv n v e d k where
 bel := h.bel.trans (hb.mono (by have := h.olt; omega))
 box := (hb.block _ (by have := h.olt; omega)).trans h.box
 res := (hb.block _ (by have := h.olt; omega)).trans h.res
 out := (hb.block _ hO).trans h.out
 olt := h.olt
theorem make_rowsN (m : Nat) (hm : m ≤ 65536) (w : World) : (Instr.makeSlice 101 (.int .i64 (m : Int)) (.int .i64 (m : Int))).run Tryz.prog w = .ok (.slice (some ⟨w.heap.size, 0, none⟩) m m) (w.alloc (.cells (madeCells #[Value.slice none 0 0] m) 39)) :=
 run_make_row' (P := Tryz.prog) 101 39 (.slice none 0 0) 24 Tryz.underlying101 info_strings rfl .i64 .i64 m (by omega) (by omega) w
def RefBuildOK (ns : List Tp.Nd) (n : Nat) : Prop := ∀ (i : Nat) (vs : List Vp.Txt) (v vv : Value) (W : World), i < ns.length → ns.length - i ≤ n → TextsAt W v vs → NodesAt W vv ns → vs.length ≤ 140737488351232 → (∀ x ∈ vs, Vp.Fit ns i x) →
 Calls Tryz.prog 44 #[typeV vv, .int .i64 (i : Int), v] W (RefBuildQ ns i vs W)
/-- A kid that was built: its cell, whether it is not too much. -/
def KidR (ns : List Tp.Nd) (kd : Nat) (vs : List Vp.Txt) (W : World) (s21 s22 : Value) (wx : World) : Prop :=
 ∃ (c : Nat) (b : Bool) (ar : Arr) (k : Value), s21 = .pointer (some ⟨c, 0, none⟩) ∧ s22 = .bool b ∧ W.heap.size ≤ c ∧ wx.heap[c]? = some (.cells (arrC ar.lay ar.off ar.len ar.valid ar.ends ar.data k) 27) ∧
  KidsOwn wx (fun g => W.heap.size ≤ g) ar.kids k ∧ (match Vp.build ns kd vs with | none => b = false | some x => b = true ∧ ar = x) ∧ Below W.heap.size W wx
theorem kidR_alloc {ns : List Tp.Nd} {kd : Nat} {vs : List Vp.Txt} {W w6 : World} {b : Bool} {ar : Arr} {k : Value} (X : Nat) (hX : W.heap.size ≤ X) (hko : KidsOwn w6 (fun g => X ≤ g) ar.kids k)
  (hm : match Vp.build ns kd vs with | none => b = false | some x => b = true ∧ ar = x) (hb : Below W.heap.size W w6) :
  KidR ns kd vs W (.pointer (some ⟨w6.heap.size, 0, none⟩)) (.bool b) (w6.alloc (.cells (arrC ar.lay ar.off ar.len ar.valid ar.ends ar.data k) 27)) :=
 ⟨_, b, ar, k, rfl, rfl, hb.size, heap_alloc_new w6 _, KidsOwn.same _ _ _ (fun g _ hc => KeepT.below (e := 27) ((Below.refl _ _).alloc (Nat.le_refl _) _) g hc) (KidsOwn.weak _ _ _ _ (fun g hg _ => Nat.le_trans hX hg) hko), hm, below_alloc hb _⟩
theorem kidR_set {ns : List Tp.Nd} {kd : Nat} {vs : List Vp.Txt} {W w6 : World} {b : Bool} {ar : Arr} {k c0 c1 c2 c3 c4 c5 c6 : Value} (c : Nat) (hc : W.heap.size ≤ c) (X : Nat) (hX : c < X) (hko : KidsOwn w6 (fun g => X ≤ g) ar.kids k)
  (hm : match Vp.build ns kd vs with | none => b = false | some x => b = true ∧ ar = x) (hb : Below W.heap.size W w6) (hblk : w6.heap[c]? = some (.cells #[c0, c1, c2, c3, c4, c5, c6] 27)) :
  KidR ns kd vs W (.pointer (some ⟨c, 0, none⟩)) (.bool b) (set7 w6 c (.int .i64 ar.lay) (.int .i64 ar.off) (.int .i64 ar.len) (tv ar.valid) (tv ar.ends) (tv ar.data) k) :=
 ⟨c, b, ar, k, rfl, rfl, hc, set7_at hblk _ _ _ _ _ _ _, KidsOwn.weak _ _ _ _ (fun g hg _ => by have : X ≤ g := hg; omega) (KidsOwn.same _ _ _ (fun g hg _ => set7_far _ _ _ (by have : X ≤ g := hg; omega) _ _ _ _ _ _ _) hko), hm, below_set7 hb hc _ _ _ _ _ _ _⟩
/-- Behind an append of a kid. -/
theorem RSt.app {W wc w9 : World} {O : Nat} {vv : Value} {n : Int} {v e d : Vp.Txt} {k : Value} {o : Obj} {row : Option Nat} (hS : RSt W wc O vv n v e d k) (hg : (wc.alloc o).grownBy w9 row) (hr : ∀ g, row = some g → O < g) :
  RSt W w9 O vv n v e d k ∧ w9.cell? ⟨O, 6, none⟩ = some k ∧ w9.frozen? ⟨O, 6, none⟩ = false := by
 have h := (hS.below ((Below.refl _ _).alloc (Nat.le_refl _) o)).far hg hr
 obtain ⟨_, _, _, _, _, _, h6, _, _, _, _, _, _, y6⟩ := zero_cells h.out
 exact ⟨h, h6, y6⟩
theorem wp_app_arr {ops : Array Oper} {rest : List Oper} {o : Oper} {a : Act} {Q : Exit → Act → World → Prop} {w0 : World} (hgd : o.guard = none) (s x : Operand)
  (ho : o.op = .call { callee := .builtin .append, args := #[s, x], argTypes := #[25, 25] }) (kv : Value) (q : Nat) (cs : List Value) (hs : a.eval s = kv) (hown : w0.ownsRow 0 27 7 kv q cs)
  (l f n : Int) (v e d : Vp.Txt) (ka : Option Addr) (km kc : Nat) (hx : a.eval x = .slice (some ⟨w0.heap.size, 0, none⟩) 1 1) (hq : q ≤ 65536)
  (h : ∀ va vc w', w'.ownsRow 0 27 7 (.slice va (q + 1) vc) (q + 1) (cs ++ [.int .i64 l, .int .i64 f, .int .i64 n, tv v, tv e, tv d, .slice ka km kc]) → (w0.alloc (.cells (arrC l f n v e d (.slice ka km kc)) 27)).grownBy w' kv.ownBlock →
   ((Value.slice va (q + 1) vc).ownBlock = kv.ownBlock ∨ (Value.slice va (q + 1) vc).ownBlock = some (w0.alloc (.cells (arrC l f n v e d (.slice ka km kc)) 27)).heap.size) → wpList Tryz.prog ops Q rest (a.put o.dst (.slice va (q + 1) vc)) w') :
  wpList Tryz.prog ops Q (o :: rest) a (w0.alloc (.cells (arrC l f n v e d (.slice ka km kc)) 27)) := by
 refine wp_appSA hgd s x 25 27 ho 0 7 96 (.agg #[.int .i64 0, .int .i64 0, .int .i64 0, .string ⟨#[]⟩, .string ⟨#[]⟩, .string ⟨#[]⟩, .slice none 0 0]) Tryz.underlying25 info_arr rfl (by decide) kv q cs hs (hown.alloc _) (some ⟨w0.heap.size, 0, none⟩) 1 1 [.int .i64 l, .int .i64 f, .int .i64 n, tv v, tv e, tv d, .slice ka km kc] hx rfl (fun _ => ⟨_, rfl, fun j u hj => ?_⟩) (arr_one _ _ _ _ _ _ _ _ _) (by omega) (by omega) (Nat.zero_le _) ?_
 ·rw [add_zero_]
  exact (Row.new w0 27 (arrC l f n v e d (.slice ka km kc))).cell (i := j) hj
 ·intro v9 w9 ho9 _ hg9 hl9
  obtain ⟨va9, vc9, rfl⟩ := own_sliceN ho9
  exact h va9 vc9 w9 ho9 hg9 hl9
end Go.Proofs.YtobhjlchpnpleaaGreatDoor
