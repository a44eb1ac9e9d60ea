/- Rows of texts and nodes: where their cells lie. -/
import Derived.Test.YtlllflacnlgigaaDoorApp
import Derived.Test.YtlllflacnlgigaaDoorValLaw
import Derived.WalkKit
namespace Go.Proofs.YtlllflacnlgigaaDoor
open Go.RowKit
set_option linter.unusedVariables false
set_option linter.unusedSimpArgs false

theorem add_off (g o j : Nat) : (⟨g, o, none⟩ : Addr).add j = ⟨g, o + j, none⟩ := by unfold Addr.add; split <;> simp_all
theorem texts_src {w : World} {a : Option Addr} {c : Nat} {xs : List Vp.Txt} (h : TextsAt w (.slice a xs.length c) xs) :
    xs.length ≠ 0 → ∃ ad, a = some ad ∧ ∀ j u, (xs.map tv)[j]? = some u → w.cell? (ad.add j) = some u := by
  obtain ⟨a', c', e, _, _, h3⟩ := h
  obtain ⟨rfl, _, rfl⟩ := Value.slice.inj e
  intro hn
  obtain ⟨bk, o, rfl, _, hc⟩ := h3 (fun e => hn (by rw [e]; rfl))
  refine ⟨_, rfl, fun j u hu => ?_⟩
  rw [add_off]
  rw [List.getElem?_map] at hu
  cases hx : xs[j]? with
  | none => rw [hx] at hu; cases hu
  | some x => rw [hx] at hu; obtain rfl := Option.some.inj hu; exact hc j x hx
theorem ndv_length (ns : List Tp.Nd) : (ns.flatMap ndv).length = ns.length * 3 := by
  induction ns with
  | nil => rfl
  | cons n ns ih => rw [List.flatMap_cons, List.length_append, ih, List.length_cons]; simp [ndv]; omega
theorem nodes_src {w : World} {a : Option Addr} {c : Nat} {ns : List Tp.Nd} (h : NodesAt w (.slice a ns.length c) ns) :
    ns.length ≠ 0 → ∃ ad, a = some ad ∧ ∀ j u, (ns.flatMap ndv)[j]? = some u → w.cell? (ad.add j) = some u := by
  obtain ⟨a', c', e, _, _, h3⟩ := h
  obtain ⟨rfl, _, rfl⟩ := Value.slice.inj e
  intro hn
  obtain ⟨bk, o, rfl, _, hc⟩ := h3 (fun e => hn (by rw [e]; rfl))
  refine ⟨_, rfl, fun j u hu => ?_⟩
  rw [add_off]
  have hlen : (ns.flatMap ndv).length = ns.length * 3 := ndv_length ns
  have hj : j < ns.length * 3 := by rw [← hlen]; exact (List.getElem?_eq_some_iff.1 hu).1
  have hq : j / 3 < ns.length := by omega
  obtain ⟨q0, q1, q2⟩ := ndv_at ns (j / 3) _ (List.getElem?_eq_getElem hq)
  obtain ⟨r0, r1, r2⟩ := hc (j / 3) _ (List.getElem?_eq_getElem hq)
  have hm : j % 3 = 0 ∨ j % 3 = 1 ∨ j % 3 = 2 := by omega
  rcases hm with h0 | h0 | h0
  · have e : j / 3 * 3 = j := by omega
    rw [e] at q0 r0
    rw [r0, ← hu, q0]
  · have e : j / 3 * 3 + 1 = j := by omega
    rw [e] at q1
    rw [Nat.add_assoc, e] at r1
    rw [r1, ← hu, q1]
  · have e : j / 3 * 3 + 2 = j := by omega
    rw [e] at q2
    rw [Nat.add_assoc, e] at r2
    rw [r2, ← hu, q2]
theorem tvs_one (xs : List Vp.Txt) : ∀ u ∈ xs.map tv, u.oneCell' = true := by
  intro u hu
  obtain ⟨x, _, rfl⟩ := List.mem_map.1 hu
  rfl
theorem ndv_one (ns : List Tp.Nd) : ∀ u ∈ ns.flatMap ndv, u.oneCell' = true := by
  intro u hu
  obtain ⟨x, _, hx⟩ := List.mem_flatMap.1 hu
  unfold ndv at hx
  simp only [List.mem_cons, List.not_mem_nil, or_false] at hx
  rcases hx with rfl | rfl | rfl <;> rfl

theorem own_max {w : World} {base n : Nat} {e : TypeId} {v : Value} {xs : List Value} (h : w.ownsRow base e 1 v n xs) : n ≤ maxLen := by
  rcases h.2 with ⟨rfl, hx⟩ | ⟨g, cap, cur, rfl, hb, hh, hnc, hm, _⟩
  · have := h.1; rw [hx] at this; simp at this; omega
  · omega
end Go.Proofs.YtlllflacnlgigaaDoor
