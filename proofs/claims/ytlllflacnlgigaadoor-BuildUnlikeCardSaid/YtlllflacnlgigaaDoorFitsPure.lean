/- Which values fit a node, in plain Lean. No program. -/
import Derived.Test.YtlllflacnlgigaaDoorValPure
import Derived.Test.YtlllflacnlgigaaDoorTypPure
namespace Go.Proofs.YtlllflacnlgigaaDoor.Vp
set_option linter.unusedVariables false
open Tp

def allOf (f : Nat → Txt → Bool) (ks : List Nat) (ps : List Txt) : Bool :=
  (List.range (min ks.length ps.length)).all (fun i => f (ks.getD i 0) (ps.getD i [])) && (ks.length == ps.length)

/-- The fuel: more than the text's length. -/
def fits (ns : List Nd) : Nat → Int → Txt → Bool
  | 0, _, _ => false
  | n + 1, x, v =>
    if node ns x then
      let r := parts v
      let nd := ns.getD x.toNat default
      if r.2.2 ≠ 0 ∨ r.1 = -1 then (r.2.2 == 0) && nd.null
      else if r.1 ≠ nd.kind then false
      else if r.1 = 2 then decide ((r.2.1.getD 0 []).length ≤ 16)
      else if r.1 = 4 then allOf (fun k p => fits ns n k p) (kids ns x) r.2.1
      else (r.2.1.all fun p => !(r.1 == 3 && !(fits ns n ((kids ns x).getD 0 0) p))) && decide (r.2.1.length ≤ 64)
    else false

/-! The parts of a list or a struct are shorter than it; bytes and numbers have one part. -/
theorem rowLoop_short (f : Tk → Tk) (e : UInt8) (m : Nat) (hf : ∀ t, (f t).rest.length ≤ t.rest.length) : ∀ (n : Nat) (t : Tk) (out : List Txt), t.rest.length ≤ m → (∀ p ∈ out, p.length ≤ m) → ∀ p ∈ (rowLoop f e n t out).1, p.length ≤ m
  | 0, t, out, _, ho, p, hp => ho p (by simpa [rowLoop] using hp)
  | n + 1, t, out, ht, ho, p, hp => by
    rw [rowLoop] at hp
    split at hp
    · refine rowLoop_short f e m hf n _ _ (Nat.le_trans (hf t) ht) ?_ p hp
      intro q hq
      rw [List.mem_append, List.mem_singleton] at hq
      rcases hq with hq | rfl
      · exact ho q hq
      · exact Nat.le_trans (by simp) ht
    · exact ho p hp
theorem row_short (f : Tk → Tk) (e : UInt8) (hf : ∀ t, (f t).rest.length ≤ t.rest.length) (t : Tk) : ∀ p ∈ (row f e t).1, p.length ≤ t.rest.length :=
  rowLoop_short f e _ hf _ t [] (Nat.le_refl _) (fun p hp => by simp at hp)
theorem value_short (d : Nat) (t : Tk) (h : t.rest ≠ []) (hk : 3 ≤ (value d t).1) : ∀ p ∈ (value d t).2.1, p.length < t.rest.length := by
  cases d with
  | zero => simp [value] at hk
  | succ d =>
    have hb := byte_lt t h
    have hr : ∀ e, ∀ p ∈ (row (fun t => (value d t).2.2) e (byte t).2).1, p.length < t.rest.length := fun e p hp => Nat.lt_of_le_of_lt (row_short _ e (value_le d) _ p hp) hb
    simp only [value] at hk ⊢
    split at hk
    · simp at hk
    split at hk
    · simp at hk
    split at hk
    · simp at hk
    split at hk
    · simp at hk
    rename_i h1 h2 h3 h4
    rw [if_neg h1, if_neg h2, if_neg h3, if_neg h4]
    split
    · exact hr 93
    split
    · exact hr 125
    · intro p hp; simp at hp
theorem parts_short (v : Txt) (hk : 3 ≤ (parts v).1) : ∀ p ∈ (parts v).2.1, p.length < v.length := by
  unfold parts at hk ⊢
  split at hk
  · simp at hk
  · rename_i hl
    rw [if_neg hl]
    simp only at hk ⊢
    split at hk
    · simp at hk
    · rename_i hb
      rw [if_neg hb]
      cases v with
      | nil => simp [value, byte] at hb
      | cons c r => exact value_short 5 ⟨c :: r, false⟩ (by simp) hk
theorem value_one (d : Nat) (t : Tk) (hk : (value d t).1 = 2) : (value d t).2.1.length = 1 := by
  cases d with
  | zero => simp [value] at hk
  | succ d =>
    simp only [value] at hk ⊢
    split at hk
    · simp at hk
    split at hk
    · simp at hk
    split at hk
    · simp at hk
    rename_i h1 h2 h3
    rw [if_neg h1, if_neg h2, if_neg h3]
    split at hk
    · rename_i h4
      rw [if_pos h4]; rfl
    split at hk
    · simp at hk
    split at hk
    · simp at hk
    · simp at hk
theorem parts_one (v : Txt) (hk : (parts v).1 = 2) : (parts v).2.1.length = 1 := by
  unfold parts at hk ⊢
  split at hk
  · simp at hk
  · rename_i hl
    rw [if_neg hl]
    simp only at hk ⊢
    split at hk
    · simp at hk
    · rename_i hb
      rw [if_neg hb]
      exact value_one 5 _ hk
theorem parts_len (v : Txt) (p : Txt) (hp : p ∈ (parts v).2.1) (hk : 3 ≤ (parts v).1) : p.length ≤ 65536 := by
  have := parts_short v hk p hp
  unfold parts at hk
  split at hk
  · simp at hk
  · omega
theorem list_all_of (f : Txt → Bool) (ps : List Txt) (h : ∀ j, j < ps.length → f (ps.getD j []) = true) : ∀ p ∈ ps, f p = true := by
  intro p hp
  obtain ⟨j, hj, rfl⟩ := List.getElem_of_mem hp
  have := h j hj
  rwa [List.getD_eq_getElem?_getD, List.getElem?_eq_getElem hj] at this
end Go.Proofs.YtlllflacnlgigaaDoor.Vp
