/- The parts of a value, by where its parts end; plain Lean. No program. -/
import Derived.Test.YtlllflacnlgigaaDoorEndPure
namespace Go.Proofs.YtlllflacnlgigaaDoor.Vp
set_option linter.unusedVariables false
open Go

theorem is_made {d : Nat} {V : Txt} {k : Int} {ps : List Txt} (h : Is d V k ps) : Made k ps V ∧ (3 ≤ k → ∃ d', d = d' + 1 ∧ ∀ p ∈ ps, IsV d' p) := by
  have h0 := h []
  rw [List.append_nil] at h0
  obtain ⟨V', hV, _, hM, h3⟩ := inv_all d V k ps [] h0
  rw [List.append_nil] at hV
  subst hV
  exact ⟨hM, h3⟩
theorem mem_len (p : Txt) (ps : List Txt) (h : p ∈ ps) : p.length ≤ (join ps).length := by
  induction ps with
  | nil => simp at h
  | cons q ps ih =>
    have e : (join (q :: ps)).length = q.length + (join ps).length := by simp [join]
    rw [e]
    rcases List.mem_cons.1 h with rfl | h
    · omega
    · have := ih h
      omega
theorem is_mono : ∀ (d : Nat) (V : Txt) (k : Int) (ps : List Txt), V.length ≤ 9223372036854775807 → Is d V k ps → Is (d + 1) V k ps := by
  intro d
  induction d with
  | zero =>
    intro V k ps _ h
    have := h []
    simp [value] at this
  | succ d ih =>
    intro V k ps hl h
    obtain ⟨hM, h3⟩ := is_made h
    cases hM with
    | null => exact is_null _
    | int x h0 h1 => exact is_int _ x h0 h1
    | bool b => exact is_bool _ b
    | str s => exact is_str _ s (by simp [str] at hl; omega)
    | list vs =>
      obtain ⟨d', hd, hp⟩ := h3 (by decide)
      obtain rfl : d' = d := by omega
      refine is_list _ _ fun p hp' => ?_
      obtain ⟨k', ps', h'⟩ := hp p hp'
      refine ⟨k', ps', ih p k' ps' ?_ h'⟩
      have := mem_len p ps hp'
      simp [list] at hl
      omega
    | struct vs =>
      obtain ⟨d', hd, hp⟩ := h3 (by decide)
      obtain rfl : d' = d := by omega
      refine is_struct _ _ fun p hp' => ?_
      obtain ⟨k', ps', h'⟩ := hp p hp'
      refine ⟨k', ps', ih p k' ps' ?_ h'⟩
      have := mem_len p ps hp'
      simp [struct] at hl
      omega
theorem endP_whole (v : Txt) (h : v.length ≤ 65536) : endP v 0 4 = (v.length : Int) ↔ (parts v).2.2 = 0 := by
  have hp : (parts v).2.2 = 0 ↔ ((value 5 ⟨v, false⟩).2.2.bad = false ∧ (value 5 ⟨v, false⟩).2.2.rest = []) := by
    unfold parts
    rw [if_neg (by omega)]
    simp only
    split
    · rename_i hb
      constructor
      · intro h; simp at h
      · rintro ⟨h1, h2⟩
        rcases hb with hb | hb
        · rw [h1] at hb; cases hb
        · exact absurd h2 hb
    · rename_i hb
      simp only [not_or] at hb
      constructor
      · intro _
        exact ⟨by simpa using hb.1, Classical.not_not.1 hb.2⟩
      · intro _; rfl
  rw [hp]
  unfold endP
  rw [List.drop_zero]
  split
  · rename_i hb
    rw [hb]
    constructor
    · intro h; omega
    · intro h; cases h.1
  · rename_i hb
    have hb' : (value (4 + 1) ⟨v, false⟩).2.2.bad = false := by simpa using hb
    constructor
    · intro h
      have h' : (v.length : Int) - ((value 5 ⟨v, false⟩).2.2.rest.length : Int) = v.length := h
      exact ⟨hb', List.eq_nil_of_length_eq_zero (by omega)⟩
    · rintro ⟨_, h2⟩
      have h2' : (value (4 + 1) ⟨v, false⟩).2.2.rest = [] := h2
      rw [h2', List.length_nil]
      omega
/-- Where a part ends. -/
theorem endP_part (v V r : Txt) (p : Nat) (hp : p ≤ v.length) (hv : v.drop p = V ++ r) (hl : V.length ≤ 65536) (h : IsV 4 V) : endP v p 4 = (p : Int) + V.length := by
  obtain ⟨k, ps, h⟩ := h
  have h5 := is_mono 4 V k ps (by omega) h r
  have hlen : (v.drop p).length = V.length + r.length := by rw [hv, List.length_append]
  rw [List.length_drop] at hlen
  unfold endP
  rw [hv, h5]
  simp only [Bool.false_eq_true, if_false]
  omega
/-- Where the parts of a row stand. -/
theorem row_drop (ps : List Txt) (c e : UInt8) (j : Nat) (h : j < ps.length) : (c :: (join ps ++ [e])).drop (1 + (join (ps.take j)).length) = ps[j] ++ ((join (ps.drop (j + 1))) ++ [e]) := by
  have h1 : join ps = join (ps.take j) ++ (ps[j] ++ join (ps.drop (j + 1))) := by
    have : ps = ps.take j ++ (ps[j] :: ps.drop (j + 1)) := by rw [← List.drop_eq_getElem_cons h, List.take_append_drop]
    have h2 : join ps = join (ps.take j ++ (ps[j] :: ps.drop (j + 1))) := congrArg join this
    rw [h2]
    unfold join
    rw [List.flatten_append, List.flatten_cons]
  rw [Nat.add_comm, List.drop_succ_cons, h1, List.append_assoc, List.drop_left, List.append_assoc]
theorem join_take_eq (ps : List Txt) (j : Nat) (h : ps.length ≤ j) : (join (ps.take j)).length = (join ps).length := by rw [List.take_of_length_le h]
theorem take_drop_part (v V r : Txt) (p : Nat) (hv : v.drop p = V ++ r) : (v.take (p + V.length)).drop p = V := by
  have h := List.drop_take (i := p) (j := p + V.length) (l := v)
  rw [h, hv, Nat.add_sub_cancel_left, List.take_left]
end Go.Proofs.YtlllflacnlgigaaDoor.Vp
