/- What is built can be read: Build's answer, in plain Lean. No program. -/
import Derived.Test.YtlllflacnlgigaaGreatDoorMc2
import Derived.Test.YtlllflacnlgigaaGreatDoorMc11
namespace Go.Proofs.YtlllflacnlgigaaGreatDoor
open Go.RowKit
set_option linter.unusedVariables false
set_option linter.unusedSimpArgs false

theorem buildR_none (ns : List Tp.Nd) (x : Int) (vs : List Vp.Txt) (h : (Vp.buildR ns x vs).2 ≠ 0) : (Vp.buildR ns x vs).1 = Arr.none := by
  unfold Vp.buildR at h ⊢
  split
  · rename_i hc
    rw [if_pos hc] at h
    split
    · rfl
    · rename_i hb
      rw [hb] at h
      exact absurd rfl h
  · rfl
/-- What is built can be read. -/
theorem buildR_ok (ns : List Tp.Nd) (x : Int) (vs : List Vp.Txt) (h : (Vp.buildR ns x vs).2 = 0) : Tp.node ns x = true ∧ (∀ v ∈ vs, Vp.Fit ns x.toNat v) ∧ Vp.build ns x.toNat vs = some (Vp.buildR ns x vs).1 := by
  unfold Vp.buildR at h ⊢
  split at h
  · rename_i hc
    rw [Bool.and_eq_true] at hc
    rw [if_pos (by rw [Bool.and_eq_true]; exact hc)]
    have hx : (x.toNat : Int) = x := by
      have := hc.1
      unfold Tp.node at this
      simp only [Bool.and_eq_true, decide_eq_true_eq] at this
      omega
    refine ⟨hc.1, (Vp.fitAll_iff ns x.toNat vs).1 (by rw [hx]; exact hc.2), ?_⟩
    split at h
    · exact absurd h (by decide)
    · rename_i a ha
      rw [ha]
  · exact absurd h (by decide)
theorem buildR_vals (ns : List Tp.Nd) (x : Int) (vs : List Vp.Txt) (h : (Vp.buildR ns x vs).2 = 0) : Vp.mayA ns (Vp.buildR ns x vs).1 x.toNat = true ∧ Vp.valsA ns (Vp.buildR ns x vs).1 x.toNat = vs ∧ (Vp.buildR ns x vs).1.len = vs.length := by
  obtain ⟨h1, h2, h3⟩ := buildR_ok ns x vs h
  have hx : (x.toNat : Int) = x := by
    unfold Tp.node at h1
    simp only [Bool.and_eq_true, decide_eq_true_eq] at h1
    omega
  obtain ⟨hm, hi⟩ := (Vp.node_of ns x.toNat).1 (by rw [hx]; exact h1)
  obtain ⟨g1, g2, g3, _, _⟩ := Vp.build_vals hm hi h2 h3
  exact ⟨g1, g2, g3⟩
theorem same_vals (ns : List Tp.Nd) (x : Int) (vs ws : List Vp.Txt) (h : (Vp.buildR ns x vs).2 = 0) (k : (Vp.buildR ns x ws).2 = 0) : Arr.same (Vp.buildR ns x vs).1 (Vp.buildR ns x ws).1 = (vs == ws) := by
  rw [Bool.eq_iff_iff, Arr.same_eq, beq_iff_eq]
  constructor
  · intro e
    rw [← (buildR_vals ns x vs h).2.1, ← (buildR_vals ns x ws k).2.1, e]
  · rintro rfl; rfl
end Go.Proofs.YtlllflacnlgigaaGreatDoor
