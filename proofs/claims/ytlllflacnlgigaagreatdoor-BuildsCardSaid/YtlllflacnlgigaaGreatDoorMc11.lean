/- Several texts in one: Arr, Own. -/
import Derived.Test.YtlllflacnlgigaaGreatDoorMc10
import Derived.Test.YtlllflacnlgigaaGreatDoorMc1
import Derived.WalkKit
/- Arrays: in plain Lean, and in memory. -/
namespace Go.Proofs.YtlllflacnlgigaaGreatDoor
open Go.RowKit
set_option linter.unusedVariables false
set_option linter.unusedSimpArgs false

/-- An array's seven cells. -/
abbrev arrV (l o n : Int) (v e d : Vp.Txt) (k : Value) : Value := .agg #[.int .i64 l, .int .i64 o, .int .i64 n, tv v, tv e, tv d, k]

mutual
/-- The kids' slice reads as these arrays. -/
def KidsAt (w : World) : List Arr → Value → Prop
  | ks, k => ∃ a c, k = .slice a ks.length c ∧ ks.length ≤ c ∧ c ≤ maxLen ∧ (ks ≠ [] → ∃ bk o, a = some ⟨bk, o, none⟩ ∧ bk < w.heap.size ∧ CellsAt w bk o ks)
/-- From a place on lie the cells of these arrays. -/
def CellsAt (w : World) (bk : Nat) : Nat → List Arr → Prop
  | _, [] => True
  | o, .mk l f n v e d ks :: r => (w.cell? ⟨bk, o, none⟩ = some (.int .i64 l) ∧ w.cell? ⟨bk, o + 1, none⟩ = some (.int .i64 f) ∧ w.cell? ⟨bk, o + 2, none⟩ = some (.int .i64 n) ∧
      w.cell? ⟨bk, o + 3, none⟩ = some (tv v) ∧ w.cell? ⟨bk, o + 4, none⟩ = some (tv e) ∧ w.cell? ⟨bk, o + 5, none⟩ = some (tv d) ∧
      ∃ k, w.cell? ⟨bk, o + 6, none⟩ = some k ∧ KidsAt w ks k) ∧ CellsAt w bk (o + 7) r
end

mutual
theorem KidsAt.below {w w' : World} (hb : Below w.heap.size w w') : ∀ (ks : List Arr) (k : Value), KidsAt w ks k → KidsAt w' ks k
  | ks, k, h => by
    rw [KidsAt] at h ⊢
    obtain ⟨a, c, rfl, h1, h2, h3⟩ := h
    refine ⟨a, c, rfl, h1, h2, fun hn => ?_⟩
    obtain ⟨bk, o, rfl, hk, hc⟩ := h3 hn
    exact ⟨bk, o, rfl, Nat.lt_of_lt_of_le hk hb.size, CellsAt.below hb bk hk o ks hc⟩
theorem CellsAt.below {w w' : World} (hb : Below w.heap.size w w') (bk : Nat) (hk : bk < w.heap.size) : ∀ (o : Nat) (ks : List Arr), CellsAt w bk o ks → CellsAt w' bk o ks
  | _, [], _ => by rw [CellsAt]; trivial
  | o, .mk l f n v e d ks :: r, h => by
    rw [CellsAt] at h ⊢
    obtain ⟨⟨c0, c1, c2, c3, c4, c5, k, c6, hks⟩, hr⟩ := h
    have cc := fun j => hb.cell (p := ⟨bk, j, none⟩) hk
    exact ⟨⟨(cc _).trans c0, (cc _).trans c1, (cc _).trans c2, (cc _).trans c3, (cc _).trans c4, (cc _).trans c5, k, (cc _).trans c6, KidsAt.below hb ks k hks⟩, CellsAt.below hb bk hk (o + 7) r hr⟩
end
/-- One kid of them. -/
theorem CellsAt.at {w : World} {bk : Nat} : ∀ (ks : List Arr) (o j : Nat) (l f n : Int) (v e d : Vp.Txt) (ys : List Arr), CellsAt w bk o ks → ks[j]? = some (.mk l f n v e d ys) →
    w.cell? ⟨bk, o + j * 7, none⟩ = some (.int .i64 l) ∧ w.cell? ⟨bk, o + j * 7 + 1, none⟩ = some (.int .i64 f) ∧ w.cell? ⟨bk, o + j * 7 + 2, none⟩ = some (.int .i64 n) ∧
    w.cell? ⟨bk, o + j * 7 + 3, none⟩ = some (tv v) ∧ w.cell? ⟨bk, o + j * 7 + 4, none⟩ = some (tv e) ∧ w.cell? ⟨bk, o + j * 7 + 5, none⟩ = some (tv d) ∧
    ∃ k, w.cell? ⟨bk, o + j * 7 + 6, none⟩ = some k ∧ KidsAt w ys k
  | [], o, j, l, f, n, v, e, d, ys, _, hj => by simp at hj
  | .mk .. :: r, o, 0, l, f, n, v, e, d, ys, h, hj => by
    rw [CellsAt] at h
    simp only [List.getElem?_cons_zero, Option.some.injEq, Arr.mk.injEq] at hj
    obtain ⟨rfl, rfl, rfl, rfl, rfl, rfl, rfl⟩ := hj
    simpa using h.1
  | .mk .. :: r, o, j + 1, l, f, n, v, e, d, ys, h, hj => by
    rw [CellsAt] at h
    have := CellsAt.at r (o + 7) j l f n v e d ys h.2 (by simpa using hj)
    rwa [show o + 7 + j * 7 = o + (j + 1) * 7 by omega] at this

/-! Arrays compared. -/
mutual
def Arr.same : Arr → Arr → Bool
  | .mk l f n v e d ks, .mk l' f' n' v' e' d' ks' => decide (l = l' ∧ f = f' ∧ n = n' ∧ v = v' ∧ e = e' ∧ d = d') && sameAll ks ks'
def sameAll : List Arr → List Arr → Bool
  | [], [] => true
  | x :: r, y :: q => Arr.same x y && sameAll r q
  | _, _ => false
end
mutual
theorem Arr.same_eq : ∀ a b : Arr, Arr.same a b = true ↔ a = b
  | .mk l f n v e d ks, .mk l' f' n' v' e' d' ks' => by
    rw [Arr.same, Bool.and_eq_true, decide_eq_true_eq, sameAll_eq ks ks']
    constructor
    · rintro ⟨⟨rfl, rfl, rfl, rfl, rfl, rfl⟩, rfl⟩; rfl
    · intro h
      simp only [Arr.mk.injEq] at h
      obtain ⟨rfl, rfl, rfl, rfl, rfl, rfl, rfl⟩ := h
      exact ⟨⟨rfl, rfl, rfl, rfl, rfl, rfl⟩, rfl⟩
theorem sameAll_eq : ∀ ks qs : List Arr, sameAll ks qs = true ↔ ks = qs
  | [], [] => by simp [sameAll]
  | x :: r, y :: q => by rw [sameAll, Bool.and_eq_true, Arr.same_eq x y, sameAll_eq r q]; simp
  | [], _ :: _ => by simp [sameAll]
  | _ :: _, [] => by simp [sameAll]
end
end Go.Proofs.YtlllflacnlgigaaGreatDoor

/- Rows of texts and nodes: where their cells lie. -/
namespace Go.Proofs.YtlllflacnlgigaaGreatDoor
open Go.RowKit
set_option linter.unusedVariables false
set_option linter.unusedSimpArgs false

theorem add_off (g o j : Nat) : (⟨g, o, none⟩ : Addr).add j = ⟨g, o + j, none⟩ := by unfold Addr.add; split <;> simp_all
theorem texts_src {w : World} {a : Option Addr} {c : Nat} {xs : List Vp.Txt} (h : TextsAt w (.slice a xs.length c) xs) :
    xs.length ≠ 0 → ∃ ad, a = some ad ∧ ∀ j u, (xs.map tv)[j]? = some u → w.cell? (ad.add j) = some u := by
  obtain ⟨a', c', e, _, _, h3⟩ := h
  obtain ⟨rfl, _, rfl⟩ := Value.slice.inj e
  intro hn
  obtain ⟨bk, o, rfl, _, hc⟩ := h3 (fun e => hn (by rw [e]; rfl))
  refine ⟨_, rfl, fun j u hu => ?_⟩
  rw [add_off]
  rw [List.getElem?_map] at hu
  cases hx : xs[j]? with
  | none => rw [hx] at hu; cases hu
  | some x => rw [hx] at hu; obtain rfl := Option.some.inj hu; exact hc j x hx
theorem ndv_length (ns : List Tp.Nd) : (ns.flatMap ndv).length = ns.length * 3 := by
  induction ns with
  | nil => rfl
  | cons n ns ih => rw [List.flatMap_cons, List.length_append, ih, List.length_cons]; simp [ndv]; omega
theorem nodes_src {w : World} {a : Option Addr} {c : Nat} {ns : List Tp.Nd} (h : NodesAt w (.slice a ns.length c) ns) :
    ns.length ≠ 0 → ∃ ad, a = some ad ∧ ∀ j u, (ns.flatMap ndv)[j]? = some u → w.cell? (ad.add j) = some u := by
  obtain ⟨a', c', e, _, _, h3⟩ := h
  obtain ⟨rfl, _, rfl⟩ := Value.slice.inj e
  intro hn
  obtain ⟨bk, o, rfl, _, hc⟩ := h3 (fun e => hn (by rw [e]; rfl))
  refine ⟨_, rfl, fun j u hu => ?_⟩
  rw [add_off]
  have hlen : (ns.flatMap ndv).length = ns.length * 3 := ndv_length ns
  have hj : j < ns.length * 3 := by rw [← hlen]; exact (List.getElem?_eq_some_iff.1 hu).1
  have hq : j / 3 < ns.length := by omega
  obtain ⟨q0, q1, q2⟩ := ndv_at ns (j / 3) _ (List.getElem?_eq_getElem hq)
  obtain ⟨r0, r1, r2⟩ := hc (j / 3) _ (List.getElem?_eq_getElem hq)
  have hm : j % 3 = 0 ∨ j % 3 = 1 ∨ j % 3 = 2 := by omega
  rcases hm with h0 | h0 | h0
  · have e : j / 3 * 3 = j := by omega
    rw [e] at q0 r0
    rw [r0, ← hu, q0]
  · have e : j / 3 * 3 + 1 = j := by omega
    rw [e] at q1
    rw [Nat.add_assoc, e] at r1
    rw [r1, ← hu, q1]
  · have e : j / 3 * 3 + 2 = j := by omega
    rw [e] at q2
    rw [Nat.add_assoc, e] at r2
    rw [r2, ← hu, q2]
theorem tvs_one (xs : List Vp.Txt) : ∀ u ∈ xs.map tv, u.oneCell' = true := by
  intro u hu
  obtain ⟨x, _, rfl⟩ := List.mem_map.1 hu
  rfl
theorem ndv_one (ns : List Tp.Nd) : ∀ u ∈ ns.flatMap ndv, u.oneCell' = true := by
  intro u hu
  obtain ⟨x, _, hx⟩ := List.mem_flatMap.1 hu
  unfold ndv at hx
  simp only [List.mem_cons, List.not_mem_nil, or_false] at hx
  rcases hx with rfl | rfl | rfl <;> rfl

theorem own_max {w : World} {base n : Nat} {e : TypeId} {v : Value} {xs : List Value} (h : w.ownsRow base e 1 v n xs) : n ≤ maxLen := by
  rcases h.2 with ⟨rfl, hx⟩ | ⟨g, cap, cur, rfl, hb, hh, hnc, hm, _⟩
  · have := h.1; rw [hx] at this; simp at this; omega
  · omega
end Go.Proofs.YtlllflacnlgigaaGreatDoor
