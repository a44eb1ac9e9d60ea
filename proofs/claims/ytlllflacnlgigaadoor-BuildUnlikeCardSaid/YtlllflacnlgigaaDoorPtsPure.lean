/- The parts of values that fit, as the builder takes them; plain Lean. No program. -/
import Derived.Test.YtlllflacnlgigaaDoorFitPure
namespace Go.Proofs.YtlllflacnlgigaaDoor.Vp
set_option linter.unusedVariables false
set_option linter.unusedSimpArgs false
open Tp Go

theorem ne_nul_int (x : Int) : int x ≠ nul := by simp [int, nul]
theorem ne_nul_bool (b : Bool) : bool b ≠ nul := by cases b <;> simp [bool, nul]
theorem ne_nul_str (s : Txt) : str s ≠ nul := by simp [str, nul]
theorem ne_nul_list (ps : List Txt) : list ps ≠ nul := by simp [list, nul]
theorem ne_nul_struct (ps : List Txt) : struct ps ≠ nul := by simp [struct, nul]
theorem partOr_nul (o : List Txt) : partOr o nul = o := if_pos rfl
theorem partOr_int (o : List Txt) (x : Int) (h0 : -9223372036854775808 ≤ x) (h1 : x ≤ 9223372036854775807) : partOr o (int x) = [Lib.itoa x] := by
  rw [partOr, if_neg (ne_nul_int x), parts_int x h0 h1]
theorem partOr_bool (o : List Txt) (b : Bool) : partOr o (bool b) = [bool b] := by
  rw [partOr, if_neg (ne_nul_bool b), parts_bool]
theorem partOr_str (o : List Txt) (s : Txt) (h : s.length ≤ 16) : partOr o (str s) = [s] := by
  rw [partOr, if_neg (ne_nul_str s), parts_str s h]
theorem partOr_list (o : List Txt) (ps : List Txt) (h : (list ps).length ≤ 65536) (hp : ∀ p ∈ ps, IsV 4 p) : partOr o (list ps) = ps := by
  rw [partOr, if_neg (ne_nul_list ps), parts_list ps h hp]
theorem partOr_struct (o : List Txt) (ps : List Txt) (h : (struct ps).length ≤ 65536) (hp : ∀ p ∈ ps, IsV 4 p) : partOr o (struct ps) = ps := by
  rw [partOr, if_neg (ne_nul_struct ps), parts_struct ps h hp]

theorem atoi_zero : atoi [48] = (0, true) := by decide +kernel
theorem itoa_zero : Lib.itoa 0 = [48] := by decide +kernel
/-- A whole number's row. -/
theorem row_int {ns : List Nd} {i : Nat} {v : Txt} (hk : kindOf ns i = 0) (h : Fit ns i v) : ∃ x, -9223372036854775808 ≤ x ∧ x ≤ 9223372036854775807 ∧ partOr [[48]] v = [Lib.itoa x] ∧ (v = nul ∧ x = 0 ∨ v = int x) := by
  cases fit_inv h with
  | null _ => exact ⟨0, by decide, by decide, by rw [partOr_nul, itoa_zero], .inl ⟨rfl, rfl⟩⟩
  | int _ x h0 h1 => exact ⟨x, h0, h1, partOr_int _ x h0 h1, .inr rfl⟩
  | bool h' _ => rw [hk] at h'; cases h'
  | str h' _ => rw [hk] at h'; cases h'
  | list h' _ => rw [hk] at h'; cases h'
  | struct h' _ => rw [hk] at h'; cases h'
theorem row_bool {ns : List Nd} {i : Nat} {v : Txt} (hk : kindOf ns i = 1) (h : Fit ns i v) : ∃ b, partOr [[102]] v = [bool b] ∧ (v = nul ∧ b = false ∨ v = bool b) := by
  cases fit_inv h with
  | null _ => exact ⟨false, by rw [partOr_nul]; rfl, .inl ⟨rfl, rfl⟩⟩
  | bool _ b => exact ⟨b, partOr_bool _ b, .inr rfl⟩
  | int h' _ => rw [hk] at h'; cases h'
  | str h' _ => rw [hk] at h'; cases h'
  | list h' _ => rw [hk] at h'; cases h'
  | struct h' _ => rw [hk] at h'; cases h'
theorem row_str {ns : List Nd} {i : Nat} {v : Txt} (hk : kindOf ns i = 2) (h : Fit ns i v) : ∃ s, s.length ≤ 16 ∧ partOr [[]] v = [s] ∧ (v = nul ∧ s = [] ∨ v = str s) := by
  cases fit_inv h with
  | null _ => exact ⟨[], by simp, by rw [partOr_nul], .inl ⟨rfl, rfl⟩⟩
  | str _ s hs => exact ⟨s, hs, partOr_str _ s hs, .inr rfl⟩
  | int h' _ => rw [hk] at h'; cases h'
  | bool h' _ => rw [hk] at h'; cases h'
  | list h' _ => rw [hk] at h'; cases h'
  | struct h' _ => rw [hk] at h'; cases h'
theorem row_list {ns : List Nd} {i : Nat} {v : Txt} (hk : kindOf ns i = 3) (h : Fit ns i v) : (partOr [] v).length ≤ 64 ∧ (∀ p ∈ partOr [] v, Fit ns ((kids ns i).getD 0 0) p) ∧ (v = nul ∧ partOr [] v = [] ∨ v = list (partOr [] v)) := by
  cases fit_inv h with
  | null _ => rw [partOr_nul]; exact ⟨by simp, by simp, .inl ⟨rfl, rfl⟩⟩
  | list _ ps hl hp hv his => rw [partOr_list [] ps hv his]; exact ⟨hl, hp, .inr rfl⟩
  | int h' _ => rw [hk] at h'; cases h'
  | bool h' _ => rw [hk] at h'; cases h'
  | str h' _ => rw [hk] at h'; cases h'
  | struct h' _ => rw [hk] at h'; cases h'
theorem row_struct {ns : List Nd} (hm : may ns = true) {i : Nat} (hi : i < ns.length) {v : Txt} (hk : kindOf ns i = 4) (h : Fit ns i v) :
    (partOr ((kids ns i).map (zero ns)) v).length = (kids ns i).length ∧ (∀ j, j < (kids ns i).length → Fit ns ((kids ns i).getD j 0) ((partOr ((kids ns i).map (zero ns)) v).getD j [])) ∧
      (v = nul ∧ partOr ((kids ns i).map (zero ns)) v = (kids ns i).map (zero ns) ∨ v = struct (partOr ((kids ns i).map (zero ns)) v)) := by
  cases fit_inv h with
  | null _ =>
    rw [partOr_nul]
    refine ⟨by simp, fun j hj => ?_, .inl ⟨rfl, rfl⟩⟩
    rw [List.getD_eq_getElem?_getD (l := (kids ns (i : Int)).map (zero ns)), List.getElem?_map, List.getElem?_eq_getElem hj, List.getD_eq_getElem?_getD, List.getElem?_eq_getElem hj]
    exact (zero_fit hm _ _ (kids_gt ns hm i _ (List.getElem_mem hj)).2 (Nat.le_refl _)).1
  | struct _ ps hl hp hv his => rw [partOr_struct _ ps hv his]; exact ⟨hl, fun j hj => hp j (by omega), .inr rfl⟩
  | int h' _ => rw [hk] at h'; cases h'
  | bool h' _ => rw [hk] at h'; cases h'
  | str h' _ => rw [hk] at h'; cases h'
  | list h' _ => rw [hk] at h'; cases h'
/-- A leaf has no kids. -/
theorem leaf_kids {ns : List Nd} (h : may ns = true) {i : Nat} (hi : i < ns.length) (hk : kindOf ns i ≤ 2) : (kids ns (i : Int)).length = 0 := by
  rw [← refMay_eq] at h
  unfold refMay at h
  simp only [Bool.and_eq_true, List.all_eq_true, List.mem_range] at h
  have := h.2.2 i hi
  unfold rowOk Tp.kindOk kidsOf at this
  rw [if_neg (by omega), if_neg (by omega)] at this
  simp only [Bool.and_eq_true, beq_iff_eq] at this
  exact this.1.2
end Go.Proofs.YtlllflacnlgigaaDoor.Vp
