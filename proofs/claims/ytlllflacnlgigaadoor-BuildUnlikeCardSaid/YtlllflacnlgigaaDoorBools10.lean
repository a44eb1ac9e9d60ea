/- Chapter 10: truths that are built; plain Lean. No program. -/
import Derived.Test.YtlllflacnlgigaaDoorBackPure
namespace Go.Proofs.YtlllflacnlgigaaDoor
set_option linter.unusedVariables false
set_option linter.unusedSimpArgs false
def tyB10 : List Tp.Nd := [⟨1, -1, false⟩]
theorem there_bool (xs : List Bool) : Vp.there (xs.map Vp.bool) = List.replicate xs.length true := by
  unfold Vp.there
  rw [List.map_map]
  induction xs with
  | nil => rfl
  | cons b xs ih => rw [List.map_cons, ih, List.length_cons, List.replicate_succ]; cases b <;> rfl
theorem bool_row (b : Bool) : Vp.partOr [[102]] (Vp.bool b) = [Vp.bool b] := by cases b <;> kernel_rfl
theorem truths_bool (xs : List Bool) : Vp.truths (Vp.pts [[102]] (xs.map Vp.bool)) = xs := by
  unfold Vp.truths Vp.pts
  rw [List.map_map, List.map_map]
  conv => rhs; rw [← List.map_id xs]
  refine List.map_congr_left fun b _ => ?_
  show decide ((Vp.partOr [[102]] (Vp.bool b)).getD 0 [] = [116]) = b
  rw [bool_row]
  cases b <;> rfl
theorem fits_bool (b : Bool) : Vp.fits tyB10 ((Vp.bool b).length + 1) 0 (Vp.bool b) = true := by cases b <;> kernel_rfl
theorem bools_built (xs : List Bool) (h : xs.length ≤ 64) : Vp.buildR tyB10 0 (xs.map Vp.bool) = (.mk 0 0 xs.length [] [] (Bt.packed xs) [], 0) := by
  have h1 : Tp.node tyB10 0 = true := by kernel_rfl
  have h2 : Vp.fitAll tyB10 0 (xs.map Vp.bool) = true := by
    unfold Vp.fitAll
    rw [List.all_eq_true]
    intro v hv
    obtain ⟨b, _, rfl⟩ := List.mem_map.1 hv
    exact fits_bool b
  have hv : Vp.valid (xs.map Vp.bool) = [] := by
    unfold Vp.valid
    rw [there_bool, if_neg]
    simp [List.contains_eq_mem, List.mem_replicate]
  have h3 : Vp.build tyB10 0 (xs.map Vp.bool) = some (.mk 0 0 xs.length [] [] (Bt.packed xs) []) := by
    unfold Vp.build
    rw [show tyB10.length + 1 = 1 + 1 from rfl, Vp.bld, if_neg (by rw [List.length_map]; omega), if_neg (by decide), if_pos (by decide), hv, List.length_map]
    unfold Vp.bools
    rw [truths_bool]
  unfold Vp.buildR
  rw [h1, h2, show (true && true) = true from rfl, if_pos rfl, show Int.toNat 0 = 0 from rfl, h3]
end Go.Proofs.YtlllflacnlgigaaDoor
