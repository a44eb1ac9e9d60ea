/- Rows that a call appends to, one at a time; plain law of their memory. -/
import Derived.Test.YtlllflacnlgigaaGreatDoorMc23
import Derived.Maps.AppendAt
namespace Go.Proofs.YtlllflacnlgigaaGreatDoor
open Go.RowKit
set_option linter.unusedVariables false
set_option linter.unusedSimpArgs false

/-- 'append(v, xs...)' onto a row of the call's own, from a slice of which the cells are known, nil let in; where the row lies. -/
theorem wp_appSA {P : Program} {ops : Array Oper} {rest : List Oper} {o : Oper} {a : Act} {Q : Exit → Act → World → Prop} {w : World}
    (hgd : o.guard = none) (s x : Operand) (t e : TypeId) (ho : o.op = .call { callee := .builtin .append, args := #[s, x], argTypes := #[t, t] })
    (base size bytes : Nat) (z : Value) (ht : P.underlying t = some (.slice e)) (hi : (P.info? e).map (fun i => (i.zero, i.size, i.bytes)) = some (some z, size, bytes)) (hz : z.cells.size = size) (hsz : 0 < size)
    (v : Value) (n : Nat) (xs : List Value) (hs : a.eval s = v) (hown : w.ownsRow base e size v n xs)
    (A : Option Addr) (m c : Nat) (news : List Value) (hx : a.eval x = .slice A m c) (hl : news.length = m * size) (hA : m ≠ 0 → ∃ ad, A = some ad ∧ ∀ j u, news[j]? = some u → w.cell? (ad.add j) = some u)
    (h1 : ∀ u ∈ news, u.oneCell' = true) (hn : (n + m) * bytes ≤ 140737488355328) (hm : n + m < 140737488355328) (hb : base ≤ w.heap.size)
    (h : ∀ v' w', w'.ownsRow base e size v' (n + m) (xs ++ news) → Below base w w' → w.grownBy w' v.ownBlock → (v'.ownBlock = v.ownBlock ∨ v'.ownBlock = some w.heap.size) → wpList P ops Q rest (a.put o.dst v') w') :
    wpList P ops Q (o :: rest) a w := by
  obtain ⟨i0, hi, hz0, hz1, hz2⟩ := info_parts hi
  have hbel : ∀ w', w.grownBy w' v.ownBlock → Below base w w' := fun w' hg => ⟨hg.os, hg.tape, hg.output, hg.size, fun k hk => hg.block k (by omega) (fun e => by have := (hown.lt k e.symm).1; omega)⟩
  cases A with
  | none =>
    have hm0 : m = 0 := by
      rcases Nat.eq_zero_or_pos m with h0 | h0
      · exact h0
      · obtain ⟨ad, hh, _⟩ := hA (by omega)
        cases hh
    subst hm0
    have hnews : news = [] := List.eq_nil_of_length_eq_zero (by simpa using hl)
    subst hnews
    have hrun : (Builtin.append_ #[t, t] o.type #[v, .slice none 0 c]).run P w = .ok v w := by
      rcases hown.2 with ⟨rfl, hn0⟩ | ⟨g, cap, cur, rfl, _, _, hnc, _⟩
      · simp [Builtin.append_, run_underlying ht, sizeOf, typeInfo, hi, Builtin.lenOf, Builtin.firstCells]
      · simp [Builtin.append_, run_underlying ht, sizeOf, typeInfo, hi, Builtin.lenOf, Builtin.firstCells, hnc, storeCells]
    refine wpList_plain hgd fun K hK => ?_
    unfold Oper.wp
    simp [execOp, ho, resolve, invoke, builtin, hs, hx, hrun, Result.andThen]
    exact hK _ _ (h v w (by simpa using hown) (Below.refl _ _) (World.grownBy.refl w _) (.inl rfl))
  | some ad =>
    have hcells : ∀ j u, news[j]? = some u → w.cell? (ad.add j) = some u := fun j u hu => by
      rcases Nat.eq_zero_or_pos m with h0 | h0
      · subst h0
        have hnews : news = [] := List.eq_nil_of_length_eq_zero (by simpa using hl)
        subst hnews
        simp at hu
      · obtain ⟨ad', hh, hc⟩ := hA (by omega)
        obtain rfl := Option.some.inj hh
        exact hc j u hu
    refine wpList_append_own_at _ hgd s x t ho base e i0 z size bytes ht hi hz0 hz1 hz2 hz hsz v n xs hs hown ad m c news hx hl hcells h1 (by unfold maxLen; omega) hn hb ?_
    intro v' w' h2 h3 _ h4
    exact h v' w' h2 (hbel w' h3) h3 h4

/-- Rows of texts in a slice of the call's own, no two of which share a block. -/
def RowsD (w : World) (B RG : Nat) (rows : List (List Vp.Txt)) : Prop :=
  ∃ cs : List Value, w.heap[RG]? = some (.cells cs.toArray 22) ∧ cs.length = rows.length ∧ RG < B ∧
    (∀ (j : Nat) (row : List Vp.Txt) (c : Value), rows[j]? = some row → cs[j]? = some c → w.ownsRow B 9 1 c row.length (row.map tv)) ∧
    (∀ (j j' : Nat) (c c' : Value) (g : Nat), cs[j]? = some c → cs[j']? = some c' → c.ownBlock = some g → c'.ownBlock = some g → j = j')
theorem RowsD.below {w w' : World} {B RG : Nat} {rows : List (List Vp.Txt)} (h : RowsD w B RG rows) (hb : Below w.heap.size w w') : RowsD w' B RG rows := by
  obtain ⟨cs, h1, h2, h3, h4, h5⟩ := h
  exact ⟨cs, (hb.block _ (Array.getElem?_eq_some_iff.1 h1).1).trans h1, h2, h3, fun j row c hj hc => own_below (h4 j row c hj hc) hb, h5⟩
theorem RowsD.keep {w w' : World} {B RG : Nat} {rows : List (List Vp.Txt)} (h : RowsD w B RG rows) (h1' : KeepT 22 w w') (h2' : KeepT 9 w w') : RowsD w' B RG rows := by
  obtain ⟨cs, h1, h2, h3, h4, h5⟩ := h
  exact ⟨cs, (h1' RG ⟨_, h1⟩).trans h1, h2, h3, fun j row c hj hc => h2'.own (h4 j row c hj hc), h5⟩
theorem RowsD.lt {w : World} {B RG : Nat} {rows : List (List Vp.Txt)} (h : RowsD w B RG rows) : RG < w.heap.size := by
  obtain ⟨cs, h1, _⟩ := h
  exact (Array.getElem?_eq_some_iff.1 h1).1
/-- A row, and what comes of an append to it. -/
theorem RowsD.at {w : World} {B RG j : Nat} {rows : List (List Vp.Txt)} {row : List Vp.Txt} (h : RowsD w B RG rows) (hj : rows[j]? = some row) :
    ∃ a c, w.cell? ⟨RG, j, none⟩ = some (.slice a row.length c) ∧ w.frozen? ⟨RG, j, none⟩ = false ∧ w.ownsRow B 9 1 (.slice a row.length c) row.length (row.map tv) ∧
      ∀ (w1 w' : World) (v' : Value) (news : List Vp.Txt), Below w.heap.size w w1 → w'.ownsRow B 9 1 v' (row.length + news.length) (row.map tv ++ news.map tv) → w1.grownBy w' (Value.slice a row.length c).ownBlock → (v'.ownBlock = (Value.slice a row.length c).ownBlock ∨ v'.ownBlock = some w1.heap.size) →
        RowsD (w'.setCell ⟨RG, j, none⟩ v') B RG (rows.set j (row ++ news)) := by
  obtain ⟨cs, h1, h2, h3, h4, h5⟩ := h
  have hjl := (List.getElem?_eq_some_iff.1 hj).1
  obtain ⟨c, hc⟩ : ∃ c, cs[j]? = some c := ⟨_, List.getElem?_eq_getElem (by omega)⟩
  have ho := h4 j row c hj hc
  obtain ⟨a, cc, rfl⟩ := own_slice ho
  refine ⟨a, cc, ?_, ?_, ho, ?_⟩
  · simp only [World.cell?, h1, Option.isSome_none, Bool.false_eq_true, if_false]
    rw [List.getElem?_toArray]; exact hc
  · simp [World.frozen?, h1]
  · intro w1 w' v' news hb1 ho' hg hv
    have hRG : w'.heap[RG]? = some (.cells cs.toArray 22) := by
      rw [hg.block RG (by have := (Array.getElem?_eq_some_iff.1 h1).1; have := hb1.size; omega) (fun e => by have := (ho.lt RG e.symm).1; omega)]
      exact (hb1.block _ (Array.getElem?_eq_some_iff.1 h1).1).trans h1
    have hkeep : KeepT 9 w' (w'.setCell ⟨RG, j, none⟩ v') := KeepT.set (e' := 22) hRG (by decide)
    refine ⟨cs.set j v', ?_, by rw [List.length_set, List.length_set]; exact h2, h3, ?_, ?_⟩
    · simp [World.setCell, Array.getElem?_modify, hRG]
    · intro k r d hk hd
      by_cases hkj : k = j
      · subst hkj
        rw [List.getElem?_set_self (by omega)] at hk hd
        obtain rfl := Option.some.inj hk
        obtain rfl := Option.some.inj hd
        rw [List.length_append, List.map_append]
        exact hkeep.own ho'
      · rw [List.getElem?_set_ne (fun e => hkj e.symm)] at hk hd
        refine hkeep.own (own_same (own_below (h4 k r d hk hd) hb1) fun g hgd hcur => ?_)
        obtain ⟨cur, hcur⟩ := hcur
        exact hg.block g (Array.getElem?_eq_some_iff.1 hcur).1 (fun e => hkj (h5 k j d _ g hd hc hgd e.symm))
    · intro k k' d d' g hd hd' hgd hgd'
      by_cases hkj : k = j
      · subst hkj
        rw [List.getElem?_set_self (by omega)] at hd
        obtain rfl := Option.some.inj hd
        by_cases hk'j : k' = k
        · exact hk'j.symm
        · rw [List.getElem?_set_ne (fun e => hk'j e.symm)] at hd'
          rcases hv with e | e
          · exact h5 k k' _ _ g hc hd' (e.symm.trans hgd) hgd'
          · exfalso
            have : g = w1.heap.size := Option.some.inj (hgd.symm.trans e)
            have hr := List.getElem?_eq_getElem (l := rows) (i := k') (by have := (List.getElem?_eq_some_iff.1 hd').1; omega)
            have := ((h4 k' _ d' hr hd').lt g hgd').2
            have := hb1.size
            omega
      · rw [List.getElem?_set_ne (fun e => hkj e.symm)] at hd
        by_cases hk'j : k' = j
        · subst hk'j
          rw [List.getElem?_set_self (by omega)] at hd'
          obtain rfl := Option.some.inj hd'
          rcases hv with e | e
          · exact h5 k k' _ _ g hd hc hgd (e.symm.trans hgd')
          · exfalso
            have : g = w1.heap.size := Option.some.inj (hgd'.symm.trans e)
            have hr := List.getElem?_eq_getElem (l := rows) (i := k) (by have := (List.getElem?_eq_some_iff.1 hd).1; omega)
            have := ((h4 k _ d hr hd).lt g hgd).2
            have := hb1.size
            omega
        · rw [List.getElem?_set_ne (fun e => hk'j e.symm)] at hd'
          exact h5 k k' d d' g hd hd' hgd hgd'
/-- A row is read. -/
theorem RowsD.text {w : World} {B RG j : Nat} {rows : List (List Vp.Txt)} {row : List Vp.Txt} (h : RowsD w B RG rows) (hj : rows[j]? = some row) :
    ∃ a c, w.cell? ⟨RG, j, none⟩ = some (.slice a row.length c) ∧ TextsAt w (.slice a row.length c) row := by
  obtain ⟨a, c, h1, _, h3, _⟩ := h.at hj
  exact ⟨a, c, h1, own_texts h3⟩
/-- New rows, all empty. -/
theorem RowsD.make {w : World} {RG : Nat} (m : Nat) (hRG : w.heap.size = RG) : RowsD (w.alloc (.cells (madeCells #[Value.slice none 0 0] m) 22)) (RG + 1) RG (List.replicate m []) := by
  subst hRG
  have hm : madeCells #[Value.slice none 0 0] m = (List.replicate m (Value.slice none 0 0)).toArray := by
    apply Array.ext
    · simp [madeCells]
    · intro i h1 h2
      simp [madeCells]
      rw [Nat.mod_one]
      rfl
  refine ⟨List.replicate m (.slice none 0 0), by rw [hm]; exact heap_alloc_new w _, by simp, Nat.lt_succ_self _, ?_, ?_⟩
  · intro j row c hj hc
    have hj' := List.mem_of_getElem? hj
    have hc' := List.mem_of_getElem? hc
    rw [List.mem_replicate] at hj' hc'
    rw [hj'.2, hc'.2]
    exact ⟨rfl, .inl ⟨rfl, rfl⟩⟩
  · intro j j' c c' g hc _ hg _
    have hc' := List.mem_of_getElem? hc
    rw [List.mem_replicate] at hc'
    rw [hc'.2] at hg
    simp [Value.ownBlock] at hg
end Go.Proofs.YtlllflacnlgigaaGreatDoor
