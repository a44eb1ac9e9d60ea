/- Several texts in one: App, Arr, Own, ArrW, BitsOf. -/
import Derived.Test.YtobhjlchpnpleaaGreatDoorCa5
import Derived.Test.YtobhjlchpnpleaaGreatDoorCa6
import Derived.Laws.AppendOwnNone
import Derived.Test.YtobhjlchpnpleaaGreatDoorCa1
import Derived.WalkKit
import Derived.BigRegion
/- Common words: literals in memory, rows of the call's own, append. -/
namespace Go.Proofs.YtobhjlchpnpleaaGreatDoor
open Go.RowKit
set_option linter.unusedVariables false
set_option linter.unusedSimpArgs false

theorem texts_lit (w : World) (xs : List Vp.Txt) (hx : xs.length ≤ 65536) : TextsAt (w.alloc (.cells (xs.map tv).toArray 9)) (.slice (some ⟨w.heap.size, 0, none⟩) xs.length xs.length) xs := by
 refine ⟨_, _, rfl, Nat.le_refl _, by unfold maxLen; omega, fun _ => ⟨w.heap.size, 0, rfl, by simp, fun j x hj => ?_⟩⟩
 rw [Nat.zero_add]
 have := (Row.new w 9 (xs.map tv).toArray).cell (i := j) (v := tv x) (by rw [List.getElem?_map, hj]; rfl)
 exact this
theorem texts_at (w : World) (n : Nat) (cs : Array Value) (k : Nat) (xs : List Vp.Txt) (hn : w.heap.size = n) (hk : xs.length = k) (hc : cs = (xs.map tv).toArray) (hx : k ≤ 65536) : TextsAt (w.alloc (.cells cs 9)) (.slice (some ⟨n, 0, none⟩) k k) xs := by
 subst hn hk hc
 exact texts_lit w xs hx
/-- A cell of a row of literals. -/
theorem lit_cell (w : World) (t : TypeId) (cs : Array Value) (n j : Nat) (v : Value) (hn : w.heap.size = n) (hv : cs[j]? = some v) : (w.alloc (.cells cs t)).cell? ⟨n, j, none⟩ = some v := by
 subst hn
 exact (Row.new w t cs).cell (i := j) (by rw [Array.getElem?_toList]; exact hv)

theorem i64_le {x : Int} (h : (Lit.int .i64 x).wf = true) : -9223372036854775808 ≤ x ∧ x ≤ 9223372036854775807 := by
 simpa [Lit.wf, IntKind.min, IntKind.max, IntKind.signed, IntKind.bits] using h

theorem cell_lt {w : World} {p : Addr} {v : Value} (h : w.cell? p = some v) : p.block < w.heap.size := by
 rcases Nat.lt_or_ge p.block w.heap.size with hlt | hge
 ·exact hlt
 ·unfold World.cell? at h
  rw [Array.getElem?_eq_none hge] at h
  split at h <;> simp_all
theorem own_below {w w' : World} {base n sz : Nat} {e : TypeId} {v : Value} {xs : List Value} (h : w.ownsRow base e sz v n xs) (hb : Below w.heap.size w w') : w'.ownsRow base e sz v n xs := by
 obtain ⟨h1, h2⟩ := h
 refine ⟨h1, h2.imp id ?_⟩
 rintro ⟨g, cap, cur, h3, h4, h5, h6⟩
 exact ⟨g, cap, cur, h3, h4, by rw [hb.block g (Array.getElem?_eq_some_iff.1 h5).1]; exact h5, h6⟩
theorem below_grown {w w1 w2 : World} {row : Option Nat} (h : Below w.heap.size w w1) (g : w1.grownBy w2 row) (hr : ∀ b, row = some b → w.heap.size ≤ b) : Below w.heap.size w w2 :=
 h.trans ⟨g.os, g.tape, g.output, g.size, fun k hk => g.block k (Nat.lt_of_lt_of_le hk h.size) (fun e => by have := hr k e.symm; omega)⟩


theorem own_litN (w : World) (base : Nat) (e : TypeId) (sz n : Nat) (xs : List Value) (hb : base ≤ w.heap.size) (hl : xs.length = n * sz) (hm : n ≤ maxLen) :
  (w.alloc (.cells xs.toArray e)).ownsRow base e sz (.slice (some ⟨w.heap.size, 0, none⟩) n n) n xs :=
 ⟨hl, .inr ⟨w.heap.size, n, xs.toArray, rfl, hb, heap_alloc_new w _, Nat.le_refl _, hm, by simpa using hl, by rw [← hl]; simp⟩⟩
theorem own_sliceN {w : World} {base n sz : Nat} {e : TypeId} {v : Value} {xs : List Value} (h : w.ownsRow base e sz v n xs) : ∃ a c, v = .slice a n c := by
 rcases h.2 with ⟨rfl, hx⟩ | ⟨g, cap, cur, rfl, _⟩
 ·subst hx
  exact ⟨none, 0, rfl⟩
 ·exact ⟨_, cap, rfl⟩
theorem own_ne {w : World} {base n sz g : Nat} {e t : TypeId} {v : Value} {xs : List Value} {cs : Array Value} {fz : Nat × Nat} (h : w.ownsRow base e sz v n xs) (hg : w.heap[g]? = some (.cells cs t fz)) (hne : e ≠ t) : v.ownBlock = none ∨ v.ownBlock ≠ some g := by
 rcases h.2 with ⟨rfl, _⟩ | ⟨g', cap, cur, rfl, _, hh, _⟩
 ·exact .inl rfl
 ·refine .inr fun he => ?_
  have : g' = g := by simpa [Value.ownBlock] using he
  subst this
  rw [hh] at hg
  simp only [Option.some.injEq, Obj.cells.injEq] at hg
  exact hne hg.2.1
/-- 'append(v, xs...)' onto a row of the call's own, from a slice of which the cells are known, nil let in. -/
theorem wp_appS {P : Program} {ops : Array Oper} {rest : List Oper} {o : Oper} {a : Act} {Q : Exit → Act → World → Prop} {w : World}
  (hgd : o.guard = none) (s x : Operand) (t e : TypeId) (ho : o.op = .call { callee := .builtin .append, args := #[s, x], argTypes := #[t, t] })
  (base size bytes : Nat) (z : Value) (ht : P.underlying t = some (.slice e)) (hi : (P.info? e).map (fun i => (i.zero, i.size, i.bytes)) = some (some z, size, bytes)) (hz : z.cells.size = size) (hsz : 0 < size)
  (v : Value) (n : Nat) (xs : List Value) (hs : a.eval s = v) (hown : w.ownsRow base e size v n xs)
  (A : Option Addr) (m c : Nat) (news : List Value) (hx : a.eval x = .slice A m c) (hl : news.length = m * size) (hA : m ≠ 0 → ∃ ad, A = some ad ∧ ∀ j u, news[j]? = some u → w.cell? (ad.add j) = some u)
  (h1 : ∀ u ∈ news, u.oneCell' = true) (hn : (n + m) * bytes ≤ 140737488355328) (hm : n + m < 140737488355328) (hb : base ≤ w.heap.size)
  (h : ∀ v' w', w'.ownsRow base e size v' (n + m) (xs ++ news) → Below base w w' → w.grownBy w' v.ownBlock → wpList P ops Q rest (a.put o.dst v') w') :
  wpList P ops Q (o :: rest) a w := by
 obtain ⟨i0, hi, hz0, hz1, hz2⟩ := info_parts hi
 have hbel : ∀ w', w.grownBy w' v.ownBlock → Below base w w' := fun w' hg => ⟨hg.os, hg.tape, hg.output, hg.size, fun k hk => hg.block k (by omega) (fun e => by have := (hown.lt k e.symm).1; omega)⟩
 cases A with
 | none =>
  have hm0 : m = 0 := by
   rcases Nat.eq_zero_or_pos m with h0 | h0
   ·exact h0
   ·obtain ⟨ad, hh, _⟩ := hA (by omega)
    cases hh
  subst hm0
  have hnews : news = [] := List.eq_nil_of_length_eq_zero (by simpa using hl)
  subst hnews
  have hrun : (Builtin.append_ #[t, t] o.type #[v, .slice none 0 c]).run P w = .ok v w := by
   rcases hown.2 with ⟨rfl, hn0⟩ | ⟨g, cap, cur, rfl, _, _, hnc, _⟩
   ·simp [Builtin.append_, run_underlying ht, sizeOf, typeInfo, hi, Builtin.lenOf, Builtin.firstCells]
   ·simp [Builtin.append_, run_underlying ht, sizeOf, typeInfo, hi, Builtin.lenOf, Builtin.firstCells, hnc, storeCells]
  refine wpList_plain hgd fun K hK => ?_
  unfold Oper.wp
  simp [execOp, ho, resolve, invoke, builtin, hs, hx, hrun, Result.andThen]
  exact hK _ _ (h v w (by simpa using hown) (Below.refl _ _) (World.grownBy.refl w _))
 | some ad =>
  have hcells : ∀ j u, news[j]? = some u → w.cell? (ad.add j) = some u := fun j u hu => by
   rcases Nat.eq_zero_or_pos m with h0 | h0
   ·subst h0
    have hnews : news = [] := List.eq_nil_of_length_eq_zero (by simpa using hl)
    subst hnews
    simp at hu
   ·obtain ⟨ad', hh, hc⟩ := hA (by omega)
    obtain rfl := Option.some.inj hh
    exact hc j u hu
  refine wpList_append_own _ hgd s x t ho base e i0 z size bytes ht hi hz0 hz1 hz2 hz hsz v n xs hs hown ad m c news hx hl hcells h1 (by unfold maxLen; omega) hn hb ?_
  intro v' w' h2 h3 _
  exact h v' w' h2 (hbel w' h3) h3
end Go.Proofs.YtobhjlchpnpleaaGreatDoor

/- Arrays: in plain Lean, and in memory. -/
namespace Go.Proofs.YtobhjlchpnpleaaGreatDoor
open Go.RowKit
set_option linter.unusedVariables false
set_option linter.unusedSimpArgs false

/-- An array's seven cells. -/
abbrev arrV (l o n : Int) (v e d : Vp.Txt) (k : Value) : Value := .agg #[.int .i64 l, .int .i64 o, .int .i64 n, tv v, tv e, tv d, k]

mutual
/-- The kids' slice reads as these arrays. -/
def KidsAt (w : World) : List Arr → Value → Prop
 | ks, k => ∃ a c, k = .slice a ks.length c ∧ ks.length ≤ c ∧ c ≤ maxLen ∧ (ks ≠ [] → ∃ bk o, a = some ⟨bk, o, none⟩ ∧ bk < w.heap.size ∧ CellsAt w bk o ks)
/-- From a place on lie the cells of these arrays. -/
def CellsAt (w : World) (bk : Nat) : Nat → List Arr → Prop
 | _, [] => True
 | o, .mk l f n v e d ks :: r => (w.cell? ⟨bk, o, none⟩ = some (.int .i64 l) ∧ w.cell? ⟨bk, o + 1, none⟩ = some (.int .i64 f) ∧ w.cell? ⟨bk, o + 2, none⟩ = some (.int .i64 n) ∧
   w.cell? ⟨bk, o + 3, none⟩ = some (tv v) ∧ w.cell? ⟨bk, o + 4, none⟩ = some (tv e) ∧ w.cell? ⟨bk, o + 5, none⟩ = some (tv d) ∧
   ∃ k, w.cell? ⟨bk, o + 6, none⟩ = some k ∧ KidsAt w ks k) ∧ CellsAt w bk (o + 7) r
end

mutual
theorem KidsAt.below {w w' : World} (hb : Below w.heap.size w w') : ∀ (ks : List Arr) (k : Value), KidsAt w ks k → KidsAt w' ks k
 | ks, k, h => by
  rw [KidsAt] at h ⊢
  obtain ⟨a, c, rfl, h1, h2, h3⟩ := h
  refine ⟨a, c, rfl, h1, h2, fun hn => ?_⟩
  obtain ⟨bk, o, rfl, hk, hc⟩ := h3 hn
  exact ⟨bk, o, rfl, Nat.lt_of_lt_of_le hk hb.size, CellsAt.below hb bk hk o ks hc⟩
theorem CellsAt.below {w w' : World} (hb : Below w.heap.size w w') (bk : Nat) (hk : bk < w.heap.size) : ∀ (o : Nat) (ks : List Arr), CellsAt w bk o ks → CellsAt w' bk o ks
 | _, [], _ => by rw [CellsAt]; trivial
 | o, .mk l f n v e d ks :: r, h => by
  rw [CellsAt] at h ⊢
  obtain ⟨⟨c0, c1, c2, c3, c4, c5, k, c6, hks⟩, hr⟩ := h
  have cc := fun j => hb.cell (p := ⟨bk, j, none⟩) hk
  exact ⟨⟨(cc _).trans c0, (cc _).trans c1, (cc _).trans c2, (cc _).trans c3, (cc _).trans c4, (cc _).trans c5, k, (cc _).trans c6, KidsAt.below hb ks k hks⟩, CellsAt.below hb bk hk (o + 7) r hr⟩
end
/-- One kid of them. -/
theorem CellsAt.at {w : World} {bk : Nat} : ∀ (ks : List Arr) (o j : Nat) (l f n : Int) (v e d : Vp.Txt) (ys : List Arr), CellsAt w bk o ks → ks[j]? = some (.mk l f n v e d ys) →
  w.cell? ⟨bk, o + j * 7, none⟩ = some (.int .i64 l) ∧ w.cell? ⟨bk, o + j * 7 + 1, none⟩ = some (.int .i64 f) ∧ w.cell? ⟨bk, o + j * 7 + 2, none⟩ = some (.int .i64 n) ∧
  w.cell? ⟨bk, o + j * 7 + 3, none⟩ = some (tv v) ∧ w.cell? ⟨bk, o + j * 7 + 4, none⟩ = some (tv e) ∧ w.cell? ⟨bk, o + j * 7 + 5, none⟩ = some (tv d) ∧
  ∃ k, w.cell? ⟨bk, o + j * 7 + 6, none⟩ = some k ∧ KidsAt w ys k
 | [], o, j, l, f, n, v, e, d, ys, _, hj => by simp at hj
 | .mk .. :: r, o, 0, l, f, n, v, e, d, ys, h, hj => by
  rw [CellsAt] at h
  simp only [List.getElem?_cons_zero, Option.some.injEq, Arr.mk.injEq] at hj
  obtain ⟨rfl, rfl, rfl, rfl, rfl, rfl, rfl⟩ := hj
  simpa using h.1
 | .mk .. :: r, o, j + 1, l, f, n, v, e, d, ys, h, hj => by
  rw [CellsAt] at h
  have := CellsAt.at r (o + 7) j l f n v e d ys h.2 (by simpa using hj)
  rwa [show o + 7 + j * 7 = o + (j + 1) * 7 by omega] at this

/-! Arrays compared. -/
mutual
def Arr.same : Arr → Arr → Bool
 | .mk l f n v e d ks, .mk l' f' n' v' e' d' ks' => decide (l = l' ∧ f = f' ∧ n = n' ∧ v = v' ∧ e = e' ∧ d = d') && sameAll ks ks'
def sameAll : List Arr → List Arr → Bool
 | [], [] => true
 | x :: r, y :: q => Arr.same x y && sameAll r q
 | _, _ => false
end
mutual
theorem Arr.same_eq : ∀ a b : Arr, Arr.same a b = true ↔ a = b
 | .mk l f n v e d ks, .mk l' f' n' v' e' d' ks' => by
  rw [Arr.same, Bool.and_eq_true, decide_eq_true_eq, sameAll_eq ks ks']
  constructor
  ·rintro ⟨⟨rfl, rfl, rfl, rfl, rfl, rfl⟩, rfl⟩; rfl
  ·intro h
   simp only [Arr.mk.injEq] at h
   obtain ⟨rfl, rfl, rfl, rfl, rfl, rfl, rfl⟩ := h
   exact ⟨⟨rfl, rfl, rfl, rfl, rfl, rfl⟩, rfl⟩
theorem sameAll_eq : ∀ ks qs : List Arr, sameAll ks qs = true ↔ ks = qs
 | [], [] => by simp [sameAll]
 | x :: r, y :: q => by rw [sameAll, Bool.and_eq_true, Arr.same_eq x y, sameAll_eq r q]; simp
 | [], _ :: _ => by simp [sameAll]
 | _ :: _, [] => by simp [sameAll]
end
end Go.Proofs.YtobhjlchpnpleaaGreatDoor

/- Rows of texts and nodes: where their cells lie. -/
namespace Go.Proofs.YtobhjlchpnpleaaGreatDoor
open Go.RowKit
set_option linter.unusedVariables false
set_option linter.unusedSimpArgs false

theorem add_off (g o j : Nat) : (⟨g, o, none⟩ : Addr).add j = ⟨g, o + j, none⟩ := by unfold Addr.add; split <;> simp_all
theorem texts_src {w : World} {a : Option Addr} {c : Nat} {xs : List Vp.Txt} (h : TextsAt w (.slice a xs.length c) xs) :
  xs.length ≠ 0 → ∃ ad, a = some ad ∧ ∀ j u, (xs.map tv)[j]? = some u → w.cell? (ad.add j) = some u := by
 obtain ⟨a', c', e, _, _, h3⟩ := h
 obtain ⟨rfl, _, rfl⟩ := Value.slice.inj e
 intro hn
 obtain ⟨bk, o, rfl, _, hc⟩ := h3 (fun e => hn (by rw [e]; rfl))
 refine ⟨_, rfl, fun j u hu => ?_⟩
 rw [add_off]
 rw [List.getElem?_map] at hu
 cases hx : xs[j]? with
 | none => rw [hx] at hu; cases hu
 | some x => rw [hx] at hu; obtain rfl := Option.some.inj hu; exact hc j x hx
theorem tvs_one (xs : List Vp.Txt) : ∀ u ∈ xs.map tv, u.oneCell' = true := by
 intro u hu
 obtain ⟨x, _, rfl⟩ := List.mem_map.1 hu
 rfl
theorem own_max {w : World} {base n : Nat} {e : TypeId} {v : Value} {xs : List Value} (h : w.ownsRow base e 1 v n xs) : n ≤ maxLen := by
 rcases h.2 with ⟨rfl, hx⟩ | ⟨g, cap, cur, rfl, hb, hh, hnc, hm, _⟩
 ·have := h.1; rw [hx] at this; simp at this; omega
 ·omega
end Go.Proofs.YtobhjlchpnpleaaGreatDoor

/- SameArray, walked. -/
namespace Go.Proofs.YtobhjlchpnpleaaGreatDoor
open Go.RowKit
set_option linter.unusedVariables false
set_option linter.unusedSimpArgs false

def SameOK (N : Nat) : Prop := ∀ (l f n : Int) (v e d : Vp.Txt) (ks : List Arr) (l' f' n' : Int) (v' e' d' : Vp.Txt) (ks' : List Arr) (k k' : Value) (W : World), SizeOf.sizeOf ks < N → KidsAt W ks k → KidsAt W ks' k' →
 Calls Tryz.prog 16 #[arrV l f n v e d k, arrV l' f' n' v' e' d' k'] W fun x w' => x = .returned (.bool (Arr.same (.mk l f n v e d ks) (.mk l' f' n' v' e' d' ks'))) ∧ Below W.heap.size W w'

theorem same_no {l f n : Int} {v e d : Vp.Txt} {ks : List Arr} {l' f' n' : Int} {v' e' d' : Vp.Txt} {ks' : List Arr}
  (h : ¬ (l = l' ∧ f = f' ∧ n = n' ∧ v = v' ∧ e = e' ∧ d = d' ∧ ks = ks')) : Arr.same (.mk l f n v e d ks) (.mk l' f' n' v' e' d' ks') = false := by
 rw [Bool.eq_false_iff]
 intro hs
 rw [Arr.same_eq] at hs
 simp only [Arr.mk.injEq] at hs
 exact h hs
theorem same_yes (l f n : Int) (v e d : Vp.Txt) (ks : List Arr) : Arr.same (.mk l f n v e d ks) (.mk l f n v e d ks) = true := (Arr.same_eq _ _).2 rfl

theorem kids_open {w : World} {ks : List Arr} {a : Option Addr} {c : Nat} (h : KidsAt w ks (.slice a ks.length c)) : ks ≠ [] → ∃ bk o, a = some ⟨bk, o, none⟩ ∧ bk < w.heap.size ∧ CellsAt w bk o ks := by
 rw [KidsAt] at h
 obtain ⟨a', c', hv, _, _, h3⟩ := h
 obtain ⟨rfl, _, rfl⟩ := Value.slice.inj hv
 exact h3
theorem take_next {α : Type} {xs ys : List α} {q : Nat} {x y : α} (h : xs.take q = ys.take q) (hx : xs[q]? = some x) (hy : ys[q]? = some y) (hxy : x = y) : xs.take (q + 1) = ys.take (q + 1) := by
 subst hxy
 rw [List.take_add_one, List.take_add_one, h, hx, hy]
set_option maxRecDepth 100000 in
set_option maxHeartbeats 3200000 in
theorem same_succ (N : Nat) (ih : SameOK N) : SameOK (N + 1) := by
 intro l f n v e d ks l' f' n' v' e' d' ks' k k' W hsz hk hk'
 have hb1 : Below W.heap.size W (W.alloc (.cells #[.int .i64 l, .int .i64 f, .int .i64 n, tv v, tv e, tv d, k] 27)) := (Below.refl _ _).alloc (Nat.le_refl _) _
 have hb2 := hb1.alloc (Nat.le_of_lt (by simp)) (.cells #[.int .i64 l', .int .i64 f', .int .i64 n', tv v', tv e', tv d', k'] 27)
 have hA := Lib.hid (KidsAt.below hb2 _ _ hk)
 have hA' := Lib.hid (KidsAt.below hb2 _ _ hk')
 rw [KidsAt] at hk hk'
 obtain ⟨a, c, rfl, _, hm, _⟩ := hk
 obtain ⟨a', c', rfl, _, hm', _⟩ := hk'
 unfold maxLen at hm hm'
 simp only [tv] at hb1 hb2 hA hA'
 simp only [arrV, tv]
 by_cases hx0 : l = l'
 ·subst hx0
  by_cases hx1 : f = f'
  ·subst hx1
   by_cases hx2 : n = n'
   ·subst hx2
    by_cases hx3 : v = v'
    ·subst hx3
     by_cases hx4 : e = e'
     ·subst hx4
      by_cases hx5 : d = d'
      ·subst hx5
       by_cases hlen : ks.length = ks'.length
       ·have hleni : ((ks.length : Int) != (ks'.length : Int)) = false := by simp; omega
        have HLEN := Lib.hid hlen
        clear hlen
        have hp6 : ((W.alloc (.cells #[.int .i64 l, .int .i64 f, .int .i64 n, .string ⟨v.toArray⟩, .string ⟨e.toArray⟩, .string ⟨d.toArray⟩, .slice a ks.length c] 27)).alloc (.cells #[.int .i64 l, .int .i64 f, .int .i64 n, .string ⟨v.toArray⟩, .string ⟨e.toArray⟩, .string ⟨d.toArray⟩, .slice a' ks'.length c'] 27)).cell? ⟨W.heap.size, 6, none⟩ = some (.slice a ks.length c) := by simp
        have hq6 : ((W.alloc (.cells #[.int .i64 l, .int .i64 f, .int .i64 n, .string ⟨v.toArray⟩, .string ⟨e.toArray⟩, .string ⟨d.toArray⟩, .slice a ks.length c] 27)).alloc (.cells #[.int .i64 l, .int .i64 f, .int .i64 n, .string ⟨v.toArray⟩, .string ⟨e.toArray⟩, .string ⟨d.toArray⟩, .slice a' ks'.length c'] 27)).cell? ⟨W.heap.size + 1, 6, none⟩ = some (.slice a' ks'.length c') := by simp
        have hs0 : W.heap.size + 1 < ((W.alloc (.cells #[.int .i64 l, .int .i64 f, .int .i64 n, .string ⟨v.toArray⟩, .string ⟨e.toArray⟩, .string ⟨d.toArray⟩, .slice a ks.length c] 27)).alloc (.cells #[.int .i64 l, .int .i64 f, .int .i64 n, .string ⟨v.toArray⟩, .string ⟨e.toArray⟩, .string ⟨d.toArray⟩, .slice a' ks'.length c'] 27)).heap.size := by simp
        go_enter Tryz.func16, Tryz.ntmps16
        go_wp2
        obtain ⟨W2, hW2⟩ : ∃ W2, (W.alloc (.cells #[.int .i64 l, .int .i64 f, .int .i64 n, .string ⟨v.toArray⟩, .string ⟨e.toArray⟩, .string ⟨d.toArray⟩, .slice a ks.length c] 27)).alloc (.cells #[.int .i64 l, .int .i64 f, .int .i64 n, .string ⟨v.toArray⟩, .string ⟨e.toArray⟩, .string ⟨d.toArray⟩, .slice a' ks'.length c'] 27) = W2 := ⟨_, rfl⟩
        rw [hW2] at hb2 hA hA' hp6 hq6 hs0 ⊢
        clear hW2 hb1
        have HK := Lib.hid (kids_open hA.out)
        have HK' := Lib.hid (kids_open hA'.out)
        clear hA hA'
        go_loopw [5] (fun i wr => ∃ q : Nat, q ≤ ks.length ∧ i = .int .i64 q ∧ ks.take q = ks'.take q ∧ Below W2.heap.size W2 wr) (fun i _ => ks.length - (intOf i).toNat)
        case atStart => exact ⟨0, Nat.zero_le _, rfl, by simp, Below.refl _ _⟩
        case round =>
         obtain ⟨q, hq, rfl, htk, hb⟩ := hrel
         have HT := Lib.hid htk
         clear htk
         have p6 := (hb.cell (p := ⟨W.heap.size, 6, none⟩) (Nat.lt_of_succ_lt hs0)).trans hp6
         have q6 := (hb.cell (p := ⟨W.heap.size + 1, 6, none⟩) hs0).trans hq6
         by_cases hlt : q < ks.length
         ·have hlt' : q < ks'.length := by have := HLEN.out; omega
          have hi : (q : Int) < (ks.length : Int) := by omega
          have hi' : (q : Int) < (ks'.length : Int) := by omega
          obtain ⟨bk, o, rfl, hbk, hc⟩ := HK.out (by intro h; rw [h] at hlt; exact Nat.not_lt_zero _ hlt)
          obtain ⟨bk', o', rfl, hbk', hc'⟩ := HK'.out (by intro h; rw [h] at hlt'; exact Nat.not_lt_zero _ hlt')
          have hx := List.getElem?_eq_getElem hlt
          have hy := List.getElem?_eq_getElem hlt'
          have hsx : SizeOf.sizeOf ks[q] < SizeOf.sizeOf ks := List.sizeOf_lt_of_mem (List.getElem_mem hlt)
          have HX := Lib.hid hx
          have HY := Lib.hid hy
          generalize ks[q] = x at hx hsx HX
          generalize ks'[q] = y at hy HY
          obtain ⟨xl, xf, xn, xv, xe, xd, xs⟩ := x
          obtain ⟨yl, yf, yn, yv, ye, yd, ys⟩ := y
          obtain ⟨g0, g1, g2, g3, g4, g5, kx, g6, hkx⟩ := CellsAt.at ks o q _ _ _ _ _ _ _ hc hx
          obtain ⟨h0, h1, h2, h3, h4, h5, ky, h6, hky⟩ := CellsAt.at ks' o' q _ _ _ _ _ _ _ hc' hy
          have cc := fun j => hb.cell (p := ⟨bk, j, none⟩) hbk
          have cc' := fun j => hb.cell (p := ⟨bk', j, none⟩) hbk'
          replace g0 := (cc _).trans g0
          replace g1 := (cc _).trans g1
          replace g2 := (cc _).trans g2
          replace g3 := (cc _).trans g3
          replace g4 := (cc _).trans g4
          replace g5 := (cc _).trans g5
          replace g6 := (cc _).trans g6
          replace h0 := (cc' _).trans h0
          replace h1 := (cc' _).trans h1
          replace h2 := (cc' _).trans h2
          replace h3 := (cc' _).trans h3
          replace h4 := (cc' _).trans h4
          replace h5 := (cc' _).trans h5
          replace h6 := (cc' _).trans h6
          simp only [tv] at g3 g4 g5 h3 h4 h5
          have HC := Lib.hid (fun W' (h : Below W2.heap.size W2 W') => ih xl xf xn xv xe xd xs yl yf yn yv ye yd ys kx ky W' (by simp only [Arr.mk.sizeOf_spec] at hsx; omega) (KidsAt.below h _ _ hkx) (KidsAt.below h _ _ hky))
          simp only [arrV, tv] at HC
          obtain ⟨bb, hbb⟩ : ∃ bb, Arr.same (.mk xl xf xn xv xe xd xs) (.mk yl yf yn yv ye yd ys) = bb := ⟨_, rfl⟩
          rw [hbb] at HC
          have HBB := Lib.hid hbb
          clear hbb cc cc' hc hc' hx hy hsx hkx hky
          cases bb with
          | true =>
           go_wp2
           go_region_with (refine (HC.out _ (by repeat (first | exact hb | apply below_drewN | apply below_drew))).mono ?_; rintro e w' ⟨rfl, hb4⟩)
           all_goals
            have hb5 := Below.trans (below_drew hb) (hb4.mono (by simpa using hb.size))
            go_wp2
            exact ⟨⟨q + 1, by omega, by go_num, take_next HT.out HX.out HY.out ((Arr.same_eq _ _).1 HBB.out), hb5⟩, by simp [intOf]; omega⟩
          | false =>
           go_wp2
           go_region_with (refine (HC.out _ (by repeat (first | exact hb | apply below_drewN | apply below_drew))).mono ?_; rintro e w' ⟨rfl, hb4⟩)
           all_goals
            have hb5 := Below.trans (below_drew hb) (hb4.mono (by simpa using hb.size))
            go_wp2
            go_ret
            exact ⟨ret_bool (by rw [same_no]; rintro ⟨_, _, _, _, _, _, rfl⟩; have := Option.some.inj (HX.out.symm.trans HY.out); rw [this, (Arr.same_eq _ _).2 rfl] at HBB; exact absurd HBB.out (by simp)), hb2.trans (hb5.mono hb2.size)⟩
         ·obtain rfl : q = ks.length := by omega
          have HE := Lib.hid (show ks = ks' by have := HT.out; rwa [List.take_length, HLEN.out, List.take_length] at this)
          go_wp2
          go_ret
          exact ⟨ret_bool (by rw [← HE.out, same_yes]), hb2.trans (hb.mono hb2.size)⟩
       ·have HU := Lib.hid (same_no (l := l) (f := f) (n := n) (v := v) (e := e) (d := d) (ks := ks) (l' := l) (f' := f) (n' := n) (v' := v) (e' := e) (d' := d) (ks' := ks') (fun h => hlen (by rw [h.2.2.2.2.2.2])))
        have hne : ((ks.length : Int) != (ks'.length : Int)) = true := by simp; omega
        clear hA hA' hlen
        go_enter Tryz.func16, Tryz.ntmps16
        go_wp2
        go_ret
        exact ⟨by rw [HU.out]; rfl, hb2⟩
      ·have HU := Lib.hid (same_no (l := l) (f := f) (n := n) (v := v) (e := e) (d := d) (ks := ks) (l' := l) (f' := f) (n' := n) (v' := v) (e' := e) (d' := d') (ks' := ks') (fun h => hx5 h.2.2.2.2.2.1))
       have hne : (d != d') = true := bne_iff_ne.2 hx5
       have heq : (d == d') = false := beq_eq_false_iff_ne.2 hx5
       clear hx5 hA hA'
       go_enter Tryz.func16, Tryz.ntmps16
       go_wp2
       go_ret
       exact ⟨by rw [HU.out]; rfl, hb2⟩
     ·have HU := Lib.hid (same_no (l := l) (f := f) (n := n) (v := v) (e := e) (d := d) (ks := ks) (l' := l) (f' := f) (n' := n) (v' := v) (e' := e') (d' := d') (ks' := ks') (fun h => hx4 h.2.2.2.2.1))
      have hne : (e != e') = true := bne_iff_ne.2 hx4
      have heq : (e == e') = false := beq_eq_false_iff_ne.2 hx4
      clear hx4 hA hA'
      go_enter Tryz.func16, Tryz.ntmps16
      go_wp2
      go_ret
      exact ⟨by rw [HU.out]; rfl, hb2⟩
    ·have HU := Lib.hid (same_no (l := l) (f := f) (n := n) (v := v) (e := e) (d := d) (ks := ks) (l' := l) (f' := f) (n' := n) (v' := v') (e' := e') (d' := d') (ks' := ks') (fun h => hx3 h.2.2.2.1))
     have hne : (v != v') = true := bne_iff_ne.2 hx3
     have heq : (v == v') = false := beq_eq_false_iff_ne.2 hx3
     clear hx3 hA hA'
     go_enter Tryz.func16, Tryz.ntmps16
     go_wp2
     go_ret
     exact ⟨by rw [HU.out]; rfl, hb2⟩
   ·have HU := Lib.hid (same_no (l := l) (f := f) (n := n) (v := v) (e := e) (d := d) (ks := ks) (l' := l) (f' := f) (n' := n') (v' := v') (e' := e') (d' := d') (ks' := ks') (fun h => hx2 h.2.2.1))
    have hne : (n != n') = true := bne_iff_ne.2 hx2
    have heq : (n == n') = false := beq_eq_false_iff_ne.2 hx2
    clear hx2 hA hA'
    go_enter Tryz.func16, Tryz.ntmps16
    go_wp2
    go_ret
    exact ⟨by rw [HU.out]; rfl, hb2⟩
  ·have HU := Lib.hid (same_no (l := l) (f := f) (n := n) (v := v) (e := e) (d := d) (ks := ks) (l' := l) (f' := f') (n' := n') (v' := v') (e' := e') (d' := d') (ks' := ks') (fun h => hx1 h.2.1))
   have hne : (f != f') = true := bne_iff_ne.2 hx1
   have heq : (f == f') = false := beq_eq_false_iff_ne.2 hx1
   clear hx1 hA hA'
   go_enter Tryz.func16, Tryz.ntmps16
   go_wp2
   go_ret
   exact ⟨by rw [HU.out]; rfl, hb2⟩
 ·have HU := Lib.hid (same_no (l := l) (f := f) (n := n) (v := v) (e := e) (d := d) (ks := ks) (l' := l') (f' := f') (n' := n') (v' := v') (e' := e') (d' := d') (ks' := ks') (fun h => hx0 h.1))
  have hne : (l != l') = true := bne_iff_ne.2 hx0
  have heq : (l == l') = false := beq_eq_false_iff_ne.2 hx0
  clear hx0 hA hA'
  go_enter Tryz.func16, Tryz.ntmps16
  go_wp2
  go_ret
  exact ⟨by rw [HU.out]; rfl, hb2⟩
theorem same_all : ∀ N, SameOK N
 | 0 => fun _ _ _ _ _ _ _ _ _ _ _ _ _ _ _ _ _ h _ _ => absurd h (Nat.not_lt_zero _)
 | N + 1 => same_succ N (same_all N)
/-- An array's value. -/
def ArrAt (w : World) : Arr → Value → Prop
 | .mk l f n v e d ks, u => ∃ k, u = arrV l f n v e d k ∧ KidsAt w ks k
theorem sameArray_calls (a b : Arr) (u v : Value) (W : World) (ha : ArrAt W a u) (hb : ArrAt W b v) :
  Calls Tryz.prog 16 #[u, v] W fun x w' => x = .returned (.bool (Arr.same a b)) ∧ Below W.heap.size W w' := by
 obtain ⟨l, f, n, x, e, d, ks⟩ := a
 obtain ⟨l', f', n', x', e', d', ks'⟩ := b
 obtain ⟨k, rfl, hk⟩ := ha
 obtain ⟨k', rfl, hk'⟩ := hb
 exact same_all _ l f n x e d ks l' f' n' x' e' d' ks' k k' W (Nat.lt_succ_self _) hk hk'
end Go.Proofs.YtobhjlchpnpleaaGreatDoor

/- bits.Of, walked. -/
namespace Go.Proofs.YtobhjlchpnpleaaGreatDoor
open Go.RowKit
set_option linter.unusedVariables false
set_option linter.unusedSimpArgs false
open Bt
theorem mask_int (k : Nat) : ((2 : Int) ^ (k % 8) % 256) = ((mask (k % 8)).toNat : Int) := by
 have hk : k % 8 < 8 := Nat.mod_lt _ (by decide)
 rw [mask_toNat _ hk]
 have : (2 : Nat) ^ (k % 8) < 2 ^ 8 := Nat.pow_lt_pow_right (by decide) hk
 have e : ((2 ^ (k % 8) : Nat) : Int) = (2 : Int) ^ (k % 8) := by simp
 rw [← e]
 generalize (2 : Nat) ^ (k % 8) = y at this ⊢
 omega
theorem or_mask (c : UInt8) (k : Nat) : bits .or .u8 (c.toNat : Int) ((2 : Int) ^ (k % 8) % 256) = ((c ||| mask (k % 8)).toNat : Int) := by
 rw [mask_int, u8_or_nat _ _ c.toNat_lt (mask (k % 8)).toNat_lt, UInt8.toNat_or]
def bools (xs : List Bool) : List Value := xs.map Value.bool
theorem bitsBytes_calls (n : Int) (w : World) (h0 : 0 ≤ n) (h1 : n ≤ 1125899906842624) : Calls Tryz.prog 109 #[.int .i64 n] w fun e w' => e = .returned (.int .i64 ((n + 7) / 8)) ∧ w = w' := by
 go_enter Tryz.func109, Tryz.ntmps109
 go_wp2
 go_ret
 exact ⟨rfl, rfl⟩
theorem info_u8b : (Tryz.prog.info? 5).map (fun i => (i.zero, i.size, i.bytes)) = some (some (.int .u8 0), 1, 1) := by kernel_rfl
set_option maxHeartbeats 1600000 in
theorem bitsOf_calls (base : Nat) (v : Value) (xs : List Bool) (w : World) (hown : w.ownsRow base 4 1 v xs.length (bools xs)) (hn : xs.length ≤ 1125899906842624) :
  Calls Tryz.prog 124 #[v] w fun e w' => e = .returned (.string ⟨(packed xs).toArray⟩) ∧ Below w.heap.size w w' := by
 have hmk := fun W => run_makeBytes (P := Tryz.prog) 132 5 Tryz.underlying132 info_u8b ((xs.length + 7) / 8) (by omega) W
 have em : (((xs.length + 7) / 8 : Nat) : Int) = ((xs.length : Int) + 7) / 8 := by omega
 rw [em] at hmk
 clear em
 have HK := Lib.hid (packed_none xs ((xs.length + 7) / 8))
 have HA := Lib.hid (packed_all xs)
 have hlen := bytesOf_length (upto xs xs.length) ((xs.length + 7) / 8)
 rcases Nat.eq_zero_or_pos xs.length with hz | hpos
 ·have hx : xs = [] := List.eq_nil_of_length_eq_zero hz
  subst hx
  have hv : ∃ A c, v = .slice A 0 c := by
   rcases hown.2 with ⟨rfl, _⟩ | ⟨g, cap, cur, rfl, _⟩
   ·exact ⟨none, 0, rfl⟩
   ·exact ⟨_, cap, rfl⟩
  obtain ⟨A, c, rfl⟩ := hv
  have hmk : ∀ W, (Instr.makeSlice 132 (.int .i64 0) (.int .i64 0)).run Tryz.prog W = .ok (.slice (some ⟨W.heap.size, 0, none⟩) 0 0) (W.alloc (.cells #[] 5)) := fun W => run_makeBytes (P := Tryz.prog) 132 5 Tryz.underlying132 info_u8b 0 (by omega) W
  have hs := fun W n => run_string (P := Tryz.prog) (w := W) 132 9 5 Tryz.underlying132 Tryz.underlying5 Tryz.underlying9 n 0 0 [] rfl
  clear hn hlen HK HA hown
  go_enter Tryz.func124, Tryz.ntmps124
  go_wp2_with (go_at_call 109; refine (bitsBytes_calls _ _ (by omega) (by omega)).mono ?_; rintro e w' ⟨rfl, rfl⟩)
  refine wp_loop_rounds 1 ?_
  rw [rounds_succ]
  have hs := hs (w.alloc (.cells #[] 5)) w.heap.size (Row.new w 5 #[])
  go_wp2
  go_ret
  exact ⟨rfl, (Below.refl _ _).alloc (Nat.le_refl _) _⟩
 ·obtain ⟨g, cap, rfl, _, _, hxl, hrow⟩ := own_row hown hpos
  have hg := hrow.lt
  clear hown hxl
  go_enter Tryz.func124, Tryz.ntmps124
  go_wp2_with (go_at_call 109; refine (bitsBytes_calls _ _ (by omega) (by omega)).mono ?_; rintro e w' ⟨rfl, rfl⟩)
  clear hmk
  go_loopw [4, 5, 12] (fun _ _ i wr => ∃ k : Nat, k ≤ xs.length ∧ i = .int .i64 k ∧ Row wr w.heap.size 5 ((bytesOf (upto xs k) ((xs.length + 7) / 8)).map bv) ∧ Below w.heap.size w wr) (fun _ _ i _ => xs.length - (intOf i).toNat)
  case atStart => exact ⟨0, Nat.zero_le _, rfl, by have := Row.new w 5 (List.map bv (List.replicate ((xs.length + 7) / 8) 0)).toArray; rw [HK.out]; simpa [List.map_const'] using this, (Below.refl _ _).alloc (Nat.le_refl _) _⟩
  case round =>
   obtain ⟨k, hk, rfl, hout, hb⟩ := hrel
   have hol := bytesOf_length (upto xs k) ((xs.length + 7) / 8)
   by_cases hlt : k < xs.length
   ·have hc := (hrow.below hb hg).cell (i := k) (v := .bool (xs.getD k false)) (by rw [bools, List.getElem?_map, List.getD_eq_getElem?_getD, List.getElem?_eq_getElem hlt]; rfl)
    have hm : k / 8 < (xs.length + 7) / 8 := by omega
    have hm' : (k : Int) / 8 < ((xs.length : Int) + 7) / 8 := by omega
    have hv := hout.cell (i := k / 8) (v := bv (packB (upto xs k) (k / 8))) (by rw [List.getElem?_map, bytesOf, List.getElem?_map, List.getElem?_range hm]; rfl)
    have hf := hout.free (i := k / 8) (by rw [List.length_map, hol]; exact hm)
    have HR := Lib.hid hout
    have HP := Lib.hid (packed_set xs k ((xs.length + 7) / 8))
    have HQ := Lib.hid (packed_skip xs k ((xs.length + 7) / 8))
    generalize hx : xs.getD k false = x at hc
    rw [hx] at HP HQ
    clear hout hx hol
    cases x
    ·go_wp2
     go_roundw
     case rel => exact ⟨k + 1, by omega, by go_num, by rw [← HQ.out rfl]; exact HR.out, hb⟩
     case measure => simp [intOf]; omega
    ·generalize packB (upto xs k) (k / 8) = c at hv HP
     have hc8 := c.toNat_lt
     unfold bv at hv
     go_wp2
     go_region
     go_wp2
     go_roundw
     case rel =>
      refine ⟨k + 1, by omega, by go_num, ?_, (hb.setCell (Nat.le_refl _) _).drew⟩
      have := (HR.out.set (k / 8) (bv (c ||| mask (k % 8)))).drew
      rw [← List.map_set, HP.out trivial hm] at this
      rwa [or_mask]
     case measure => simp [intOf]; omega
   ·obtain rfl : k = xs.length := by omega
    have hs := run_string (P := Tryz.prog) (w := wr) 132 9 5 Tryz.underlying132 Tryz.underlying5 Tryz.underlying9 w.heap.size ((xs.length + 7) / 8) ((xs.length + 7) / 8) _ hol.symm hout
    rw [HA.out] at hs
    clear hout hol
    go_wp2
    go_ret
    exact ⟨rfl, hb⟩
end Go.Proofs.YtobhjlchpnpleaaGreatDoor
