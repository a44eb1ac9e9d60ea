/- Common words: literals in memory, rows of the call's own, append. -/
import Derived.Test.YtlllflacnlgigaaGreatDoorMc8
import Derived.Test.YtlllflacnlgigaaGreatDoorMc9
import Derived.Laws.AppendOwnNone
namespace Go.Proofs.YtlllflacnlgigaaGreatDoor
open Go.RowKit
set_option linter.unusedVariables false
set_option linter.unusedSimpArgs false

theorem texts_lit (w : World) (xs : List Vp.Txt) (hx : xs.length ≤ 65536) : TextsAt (w.alloc (.cells (xs.map tv).toArray 9)) (.slice (some ⟨w.heap.size, 0, none⟩) xs.length xs.length) xs := by
  refine ⟨_, _, rfl, Nat.le_refl _, by unfold maxLen; omega, fun _ => ⟨w.heap.size, 0, rfl, by simp, fun j x hj => ?_⟩⟩
  rw [Nat.zero_add]
  have := (Row.new w 9 (xs.map tv).toArray).cell (i := j) (v := tv x) (by rw [List.getElem?_map, hj]; rfl)
  exact this
theorem texts_at (w : World) (n : Nat) (cs : Array Value) (k : Nat) (xs : List Vp.Txt) (hn : w.heap.size = n) (hk : xs.length = k) (hc : cs = (xs.map tv).toArray) (hx : k ≤ 65536) : TextsAt (w.alloc (.cells cs 9)) (.slice (some ⟨n, 0, none⟩) k k) xs := by
  subst hn hk hc
  exact texts_lit w xs hx
theorem nodes_lit1 (w : World) (k p : Int) (b : Bool) : NodesAt (w.alloc (.cells #[.int .i64 k, .int .i64 p, .bool b] 67)) (.slice (some ⟨w.heap.size, 0, none⟩) 1 1) [⟨k, p, b⟩] := by
  refine ⟨_, _, rfl, Nat.le_refl _, by decide, fun _ => ⟨w.heap.size, 0, rfl, by simp, fun j x hj => ?_⟩⟩
  have h := Row.new w 67 #[.int .i64 k, .int .i64 p, .bool b]
  cases j with
  | zero =>
    obtain rfl : (⟨k, p, b⟩ : Tp.Nd) = x := by simpa using hj
    exact ⟨h.cell (i := 0) rfl, h.cell (i := 1) rfl, h.cell (i := 2) rfl⟩
  | succ j => simp at hj


theorem modN (a : Int) (M : Nat) (h0 : 0 < M) (h : M ≤ 4611686018427387904) : ∃ i : Nat, i < M ∧ wrap64 ((IntKind.u64.wrap a).tmod (M : Int)) = (i : Int) := by
  have hw : IntKind.u64.wrap a = a % 18446744073709551616 := by simp [IntKind.wrap, IntKind.bits, IntKind.signed]
  have h1 := Int.emod_nonneg (a % 18446744073709551616) (b := (M : Int)) (by omega)
  have h2 := Int.emod_lt_of_pos (a % 18446744073709551616) (b := (M : Int)) (by omega)
  have h3 : (a % 18446744073709551616).tmod (M : Int) = (a % 18446744073709551616) % (M : Int) := Int.tmod_eq_emod_of_nonneg (Int.emod_nonneg _ (by decide))
  rw [hw, h3]
  refine ⟨((a % 18446744073709551616) % (M : Int)).toNat, by omega, ?_⟩
  rw [Int.toNat_of_nonneg h1]
  simp only [wrap64]
  omega
/-- A cell of a row of literals. -/
theorem lit_cell (w : World) (t : TypeId) (cs : Array Value) (n j : Nat) (v : Value) (hn : w.heap.size = n) (hv : cs[j]? = some v) : (w.alloc (.cells cs t)).cell? ⟨n, j, none⟩ = some v := by
  subst hn
  exact (Row.new w t cs).cell (i := j) (by rw [Array.getElem?_toList]; exact hv)

theorem i64_le {x : Int} (h : (Lit.int .i64 x).wf = true) : -9223372036854775808 ≤ x ∧ x ≤ 9223372036854775807 := by
  simpa [Lit.wf, IntKind.min, IntKind.max, IntKind.signed, IntKind.bits] using h

/-- Parts of a value, told. -/
theorem partsAt_calls (v : Vp.Txt) (k : Int) (ps : List Vp.Txt) (er : Int) (W : World) (hv : Vars W) (hl : v.length ≤ 140737488351232) (hp : Vp.parts v = (k, ps, er)) :
    Calls Tryz.prog 8 #[.string ⟨v.toArray⟩] W fun e w' => ∃ a c, e = .returned (.tuple #[.int .i64 k, .slice a ps.length c, .int .i64 er]) ∧ TextsAt w' (.slice a ps.length c) ps ∧ Below W.heap.size W w' := by
  have h := parts_calls v W hv hl
  rw [hp] at h
  refine h.mono fun e w' ⟨r, he, ho, hb⟩ => ?_
  obtain ⟨a, c, rfl⟩ := own_slice ho
  exact ⟨a, c, he, own_texts ho, hb⟩
theorem text_one {w : World} {a : Option Addr} {c : Nat} {p : Vp.Txt} (h : TextsAt w (.slice a 1 c) [p]) : ∃ b o, a = some ⟨b, o, none⟩ ∧ b < w.heap.size ∧ w.cell? ⟨b, o, none⟩ = some (tv p) := by
  obtain ⟨a', c', hr, _, _, hc⟩ := h
  obtain ⟨rfl, _, rfl⟩ := Value.slice.inj hr
  obtain ⟨b, o, rfl, hk, hc⟩ := hc (by simp)
  have := hc 0 _ rfl
  rw [Nat.add_zero] at this
  exact ⟨b, o, rfl, hk, this⟩


theorem cell_lt {w : World} {p : Addr} {v : Value} (h : w.cell? p = some v) : p.block < w.heap.size := by
  rcases Nat.lt_or_ge p.block w.heap.size with hlt | hge
  · exact hlt
  · unfold World.cell? at h
    rw [Array.getElem?_eq_none hge] at h
    split at h <;> simp_all
theorem own_below {w w' : World} {base n sz : Nat} {e : TypeId} {v : Value} {xs : List Value} (h : w.ownsRow base e sz v n xs) (hb : Below w.heap.size w w') : w'.ownsRow base e sz v n xs := by
  obtain ⟨h1, h2⟩ := h
  refine ⟨h1, h2.imp id ?_⟩
  rintro ⟨g, cap, cur, h3, h4, h5, h6⟩
  exact ⟨g, cap, cur, h3, h4, by rw [hb.block g (Array.getElem?_eq_some_iff.1 h5).1]; exact h5, h6⟩
theorem below_grown {w w1 w2 : World} {row : Option Nat} (h : Below w.heap.size w w1) (g : w1.grownBy w2 row) (hr : ∀ b, row = some b → w.heap.size ≤ b) : Below w.heap.size w w2 :=
  h.trans ⟨g.os, g.tape, g.output, g.size, fun k hk => g.block k (Nat.lt_of_lt_of_le hk h.size) (fun e => by have := hr k e.symm; omega)⟩


theorem ints_cell {w : World} {a : Option Addr} {len cap : Nat} {zs : List Int} (h : IntsAt .i64 w a len cap zs) {k : Nat} (hk : k < len) :
    ∃ x z, a = some x ∧ x.block < w.heap.size ∧ w.cell? (x.add k) = some (.int .i64 z) ∧ -9223372036854775808 ≤ z ∧ z ≤ 9223372036854775807 := by
  rcases h with ⟨_, rfl, _⟩ | ⟨x, rfl, h1, h2, h3, h4, h5⟩
  · omega
  · have hc := h4 k (by omega)
    have hx : zs.getD k 0 ∈ zs := by
      rw [List.getD_eq_getElem?_getD, List.getElem?_eq_getElem (by omega)]
      exact List.getElem_mem _
    refine ⟨x, _, rfl, ?_, hc, (i64_le (h5 _ hx)).1, (i64_le (h5 _ hx)).2⟩
    have := cell_lt hc
    rwa [show (x.add k).block = x.block by unfold Addr.add; split <;> rfl] at this


theorem nodes_drew {w : World} {v : Value} {ns : List Tp.Nd} (h : NodesAt w v ns) : NodesAt w.drew v ns := h
theorem own_litN (w : World) (base : Nat) (e : TypeId) (sz n : Nat) (xs : List Value) (hb : base ≤ w.heap.size) (hl : xs.length = n * sz) (hm : n ≤ maxLen) :
    (w.alloc (.cells xs.toArray e)).ownsRow base e sz (.slice (some ⟨w.heap.size, 0, none⟩) n n) n xs :=
  ⟨hl, .inr ⟨w.heap.size, n, xs.toArray, rfl, hb, heap_alloc_new w _, Nat.le_refl _, hm, by simpa using hl, by rw [← hl]; simp⟩⟩
/-- 'append(v, u)' onto a row of the call's own, of several cells an element. -/
theorem wp_appN {P : Program} {ops : Array Oper} {rest : List Oper} {o : Oper} {a : Act} {Q : Exit → Act → World → Prop} {w0 : World} {us : List Value}
    (hgd : o.guard = none) (s x : Operand) (t e : TypeId) (ho : o.op = .call { callee := .builtin .append, args := #[s, x], argTypes := #[t, t] })
    (base size bytes : Nat) (z : Value) (ht : P.underlying t = some (.slice e)) (hi : (P.info? e).map (fun i => (i.zero, i.size, i.bytes)) = some (some z, size, bytes)) (hz : z.cells.size = size) (hsz : 0 < size)
    (v : Value) (n : Nat) (xs : List Value) (hul : us.length = size) (hu : ∀ u ∈ us, u.oneCell' = true) (hs : a.eval s = v) {nb : Nat} (hx : a.eval x = .slice (some ⟨nb, 0, none⟩) 1 1) (hnb : w0.heap.size = nb)
    (hown : w0.ownsRow base e size v n xs) (hn : (n + 1) * bytes ≤ 140737488355328) (hm : n < 140737488355328) (hb : base ≤ w0.heap.size)
    (h : ∀ v' w', w'.ownsRow base e size v' (n + 1) (xs ++ us) → Below base w0 w' → w0.grownBy w' v.ownBlock → wpList P ops Q rest (a.put o.dst v') w') :
    wpList P ops Q (o :: rest) a (w0.alloc (.cells us.toArray e)) := by
  obtain ⟨i0, hi, hz0, hz1, hz2⟩ := info_parts hi
  subst hnb
  refine wpList_append_own _ hgd s x t ho base e i0 z size bytes ht hi hz0 hz1 hz2 hz hsz v n xs hs (hown.alloc _) ⟨w0.heap.size, 0, none⟩ 1 1 us hx (by rw [hul, Nat.one_mul]) ?_ hu ?_ hn ?_ ?_
  · intro j y hy
    rw [add_zero_]
    exact (Row.new w0 e us.toArray).cell (i := j) hy
  · unfold maxLen; omega
  · simp; omega
  · intro v' w' ho' hg _
    have hg' : w0.grownBy w' v.ownBlock := ⟨hg.os, hg.tape, hg.output, Nat.le_trans (by simp) hg.size, fun k hk hr => (hg.block k (by simp; omega) hr).trans (Below.heap_alloc w0 _ k hk)⟩
    refine h v' w' ho' ⟨hg'.os, hg'.tape, hg'.output, hg'.size, fun k hk => hg'.block k (by omega) (fun e => ?_)⟩ hg'
    have := (hown.lt k e.symm).1
    omega
def ndv (n : Tp.Nd) : List Value := [.int .i64 n.kind, .int .i64 n.parent, .bool n.null]
theorem ndv_at (ns : List Tp.Nd) : ∀ (j : Nat) (n : Tp.Nd), ns[j]? = some n → (ns.flatMap ndv)[j * 3]? = some (.int .i64 n.kind) ∧ (ns.flatMap ndv)[j * 3 + 1]? = some (.int .i64 n.parent) ∧ (ns.flatMap ndv)[j * 3 + 2]? = some (.bool n.null) := by
  induction ns with
  | nil => intro j n h; simp at h
  | cons m ns ih =>
    intro j n h
    cases j with
    | zero =>
      obtain rfl : m = n := by simpa using h
      simp [ndv]
    | succ j =>
      have := ih j n (by simpa using h)
      rw [List.flatMap_cons, show (j + 1) * 3 = 3 + j * 3 by omega]
      have e : (ndv m).length = 3 := rfl
      refine ⟨?_, ?_, ?_⟩
      · rw [List.getElem?_append_right (by omega), e, Nat.add_sub_cancel_left]; exact this.1
      · rw [List.getElem?_append_right (by omega), e, show 3 + j * 3 + 1 - 3 = j * 3 + 1 by omega]; exact this.2.1
      · rw [List.getElem?_append_right (by omega), e, show 3 + j * 3 + 2 - 3 = j * 3 + 2 by omega]; exact this.2.2
theorem own_nodes {w : World} {base : Nat} {v : Value} {ns : List Tp.Nd} (h : w.ownsRow base 67 3 v ns.length (ns.flatMap ndv)) : NodesAt w v ns := by
  obtain ⟨hl, h⟩ := h
  rcases h with ⟨rfl, hx⟩ | ⟨g, cap, cur, rfl, hb, hh, hnc, hm, hcs, htake⟩
  · have hx' : ns = [] := by
      cases ns with
      | nil => rfl
      | cons n ns => simp [ndv] at hx
    subst hx'
    exact ⟨none, 0, rfl, Nat.le_refl _, by decide, fun h => absurd rfl h⟩
  · refine ⟨_, cap, rfl, hnc, hm, fun _ => ⟨g, 0, rfl, (Array.getElem?_eq_some_iff.1 hh).1, fun j n hn => ?_⟩⟩
    have hc : ∀ (i : Nat) (u : Value), (ns.flatMap ndv)[i]? = some u → w.cell? ⟨g, i, none⟩ = some u := fun i u hi => by
      simp only [World.cell?, hh, Option.isSome_none, Bool.false_eq_true, if_false]
      rw [← Array.getElem?_toList]
      have h1 : (cur.toList.take (ns.length * 3))[i]? = some u := by rw [htake]; exact hi
      rw [List.getElem?_take] at h1
      split at h1
      · exact h1
      · cases h1
    have := ndv_at ns j n hn
    rw [Nat.zero_add]
    exact ⟨hc _ _ this.1, hc _ _ this.2.1, hc _ _ this.2.2⟩
theorem own_sliceN {w : World} {base n sz : Nat} {e : TypeId} {v : Value} {xs : List Value} (h : w.ownsRow base e sz v n xs) : ∃ a c, v = .slice a n c := by
  rcases h.2 with ⟨rfl, hx⟩ | ⟨g, cap, cur, rfl, _⟩
  · subst hx
    exact ⟨none, 0, rfl⟩
  · exact ⟨_, cap, rfl⟩
theorem own_ne {w : World} {base n sz g : Nat} {e t : TypeId} {v : Value} {xs : List Value} {cs : Array Value} {fz : Nat × Nat} (h : w.ownsRow base e sz v n xs) (hg : w.heap[g]? = some (.cells cs t fz)) (hne : e ≠ t) : v.ownBlock = none ∨ v.ownBlock ≠ some g := by
  rcases h.2 with ⟨rfl, _⟩ | ⟨g', cap, cur, rfl, _, hh, _⟩
  · exact .inl rfl
  · refine .inr fun he => ?_
    have : g' = g := by simpa [Value.ownBlock] using he
    subst this
    rw [hh] at hg
    simp only [Option.some.injEq, Obj.cells.injEq] at hg
    exact hne hg.2.1
theorem info_node : (Tryz.prog.info? 67).map (fun i => (i.zero, i.size, i.bytes)) = some (some (.agg #[.int .i64 0, .int .i64 0, .bool false]), 3, 24) := by kernel_rfl

/-- 'append(v, xs...)' onto a row of the call's own, from a slice of which the cells are known, nil let in. -/
theorem wp_appS {P : Program} {ops : Array Oper} {rest : List Oper} {o : Oper} {a : Act} {Q : Exit → Act → World → Prop} {w : World}
    (hgd : o.guard = none) (s x : Operand) (t e : TypeId) (ho : o.op = .call { callee := .builtin .append, args := #[s, x], argTypes := #[t, t] })
    (base size bytes : Nat) (z : Value) (ht : P.underlying t = some (.slice e)) (hi : (P.info? e).map (fun i => (i.zero, i.size, i.bytes)) = some (some z, size, bytes)) (hz : z.cells.size = size) (hsz : 0 < size)
    (v : Value) (n : Nat) (xs : List Value) (hs : a.eval s = v) (hown : w.ownsRow base e size v n xs)
    (A : Option Addr) (m c : Nat) (news : List Value) (hx : a.eval x = .slice A m c) (hl : news.length = m * size) (hA : m ≠ 0 → ∃ ad, A = some ad ∧ ∀ j u, news[j]? = some u → w.cell? (ad.add j) = some u)
    (h1 : ∀ u ∈ news, u.oneCell' = true) (hn : (n + m) * bytes ≤ 140737488355328) (hm : n + m < 140737488355328) (hb : base ≤ w.heap.size)
    (h : ∀ v' w', w'.ownsRow base e size v' (n + m) (xs ++ news) → Below base w w' → w.grownBy w' v.ownBlock → wpList P ops Q rest (a.put o.dst v') w') :
    wpList P ops Q (o :: rest) a w := by
  obtain ⟨i0, hi, hz0, hz1, hz2⟩ := info_parts hi
  have hbel : ∀ w', w.grownBy w' v.ownBlock → Below base w w' := fun w' hg => ⟨hg.os, hg.tape, hg.output, hg.size, fun k hk => hg.block k (by omega) (fun e => by have := (hown.lt k e.symm).1; omega)⟩
  cases A with
  | none =>
    have hm0 : m = 0 := by
      rcases Nat.eq_zero_or_pos m with h0 | h0
      · exact h0
      · obtain ⟨ad, hh, _⟩ := hA (by omega)
        cases hh
    subst hm0
    have hnews : news = [] := List.eq_nil_of_length_eq_zero (by simpa using hl)
    subst hnews
    have hrun : (Builtin.append_ #[t, t] o.type #[v, .slice none 0 c]).run P w = .ok v w := by
      rcases hown.2 with ⟨rfl, hn0⟩ | ⟨g, cap, cur, rfl, _, _, hnc, _⟩
      · simp [Builtin.append_, run_underlying ht, sizeOf, typeInfo, hi, Builtin.lenOf, Builtin.firstCells]
      · simp [Builtin.append_, run_underlying ht, sizeOf, typeInfo, hi, Builtin.lenOf, Builtin.firstCells, hnc, storeCells]
    refine wpList_plain hgd fun K hK => ?_
    unfold Oper.wp
    simp [execOp, ho, resolve, invoke, builtin, hs, hx, hrun, Result.andThen]
    exact hK _ _ (h v w (by simpa using hown) (Below.refl _ _) (World.grownBy.refl w _))
  | some ad =>
    have hcells : ∀ j u, news[j]? = some u → w.cell? (ad.add j) = some u := fun j u hu => by
      rcases Nat.eq_zero_or_pos m with h0 | h0
      · subst h0
        have hnews : news = [] := List.eq_nil_of_length_eq_zero (by simpa using hl)
        subst hnews
        simp at hu
      · obtain ⟨ad', hh, hc⟩ := hA (by omega)
        obtain rfl := Option.some.inj hh
        exact hc j u hu
    refine wpList_append_own _ hgd s x t ho base e i0 z size bytes ht hi hz0 hz1 hz2 hz hsz v n xs hs hown ad m c news hx hl hcells h1 (by unfold maxLen; omega) hn hb ?_
    intro v' w' h2 h3 _
    exact h v' w' h2 (hbel w' h3) h3
end Go.Proofs.YtlllflacnlgigaaGreatDoor
