/- Types: the reference's rule is the program's; plain Lean. No program. -/
import Derived.Test.YtlllflacnlgigaaDoorTypPure
namespace Go.Proofs.YtlllflacnlgigaaDoor.Tp
set_option linter.unusedVariables false

/-- How deep a node stands. -/
def dp (ns : List Nd) (i : Nat) : Nat := (way ns (i + 1) (i : Int)).length - 1
def kidsOf (ns : List Nd) (i : Nat) : Nat := (kids ns (i : Int)).length
/-- A row of the reference's test: the kinds and the kids. -/
def kindOk (k : Int) (m : Nat) : Bool := decide (0 ≤ k ∧ k ≤ 4) && (if k = 3 then m == 1 else if k = 4 then decide (1 ≤ m) else m == 0)
def upOk (ns : List Nd) (i : Nat) : Bool := i == 0 || (decide (0 ≤ parentOf ns i ∧ parentOf ns i < i) && decide (dp ns (parentOf ns i).toNat < 4))
def rowOk (ns : List Nd) (i : Nat) : Bool := kindOk (kindOf ns i) (kidsOf ns i) && upOk ns i
def refMay (ns : List Nd) : Bool := decide (1 ≤ ns.length ∧ ns.length ≤ 8) && (parentOf ns 0 == -1 && (List.range ns.length).all (rowOk ns))

/-- Below a node all stand behind their parents. -/
def Behind (ns : List Nd) (i : Nat) : Prop := ∀ j, j ≤ i → (j = 0 → parentOf ns j = -1) ∧ (0 < j → 0 ≤ parentOf ns j ∧ parentOf ns j < j)
theorem way_neg (ns : List Nd) (n : Nat) : way ns n (-1) = [] := by cases n <;> simp [way]
theorem way_behind (ns : List Nd) : ∀ (i : Nat) (n : Nat), Behind ns i → i + 1 ≤ n → way ns n (i : Int) = way ns (i + 1) (i : Int) := by
  intro i
  induction i using Nat.strongRecOn with
  | ind i ih =>
    intro n hB hn
    obtain ⟨m, rfl⟩ : ∃ m, n = m + 1 := ⟨n - 1, by omega⟩
    have h0 : (0 : Int) ≤ (i : Int) := by omega
    simp only [way, if_pos h0, Int.toNat_natCast]
    congr 1
    obtain ⟨h1, h2⟩ := hB i (Nat.le_refl _)
    rcases Nat.eq_zero_or_pos i with hi | hi
    · rw [h1 hi, way_neg, way_neg]
    · obtain ⟨h3, h4⟩ := h2 hi
      obtain ⟨q, hq⟩ := Int.eq_ofNat_of_zero_le h3
      rw [hq] at h4 ⊢
      have hqi : q < i := by omega
      have hBq : Behind ns q := fun j hj => hB j (by omega)
      rw [ih q hqi m hBq (by omega), ih q hqi i hBq (by omega)]
theorem way_length (ns : List Nd) (i : Nat) (hB : Behind ns i) : (way ns (i + 1) (i : Int)).length = dp ns i + 1 := by
  have h0 : (0 : Int) ≤ (i : Int) := by omega
  unfold dp
  simp only [way, if_pos h0, List.length_cons]
  omega
theorem dp_zero (ns : List Nd) (h : parentOf ns 0 = -1) : dp ns 0 = 0 := by
  unfold dp
  simp [way]
theorem dp_step (ns : List Nd) (i : Nat) (hB : Behind ns i) (hi : 0 < i) : dp ns i = dp ns (parentOf ns i).toNat + 1 := by
  have h0 : (0 : Int) ≤ (i : Int) := by omega
  obtain ⟨h3, h4⟩ := (hB i (Nat.le_refl _)).2 hi
  obtain ⟨q, hq⟩ := Int.eq_ofNat_of_zero_le h3
  have hBq : Behind ns q := fun j hj => hB j (by omega)
  have h5 : dp ns i = (way ns i (parentOf ns i)).length := by
    unfold dp
    simp only [way, if_pos h0, List.length_cons, Int.toNat_natCast]
    omega
  rw [h5, hq, Int.toNat_natCast, way_behind ns q i hBq (by omega), way_length ns q hBq]
theorem behind_of_up (ns : List Nd) (n : Nat) (h0 : parentOf ns 0 = -1) (h : ∀ j, j < n → upOk ns j = true) : ∀ i, i < n → Behind ns i := by
  intro i hi j hj
  constructor
  · rintro rfl; exact h0
  · intro hj0
    have := h j (by omega)
    unfold upOk at this
    simp only [Bool.or_eq_true, beq_iff_eq, Bool.and_eq_true, decide_eq_true_eq] at this
    omega
theorem kid_mem (ns : List Nd) (p i : Nat) (hi : i < ns.length) (h0 : 0 < i) (hp : parentOf ns i = (p : Int)) : 0 < kidsOf ns p := by
  unfold kidsOf kids kidsTo
  apply List.length_pos_of_mem (a := i)
  rw [List.mem_filter, List.mem_range]
  exact ⟨hi, by simp [isKid, h0, hp]⟩
theorem kid_inv (ns : List Nd) (p : Nat) (h : 0 < kidsOf ns p) : ∃ i, i < ns.length ∧ 0 < i ∧ parentOf ns i = (p : Int) := by
  unfold kidsOf kids kidsTo at h
  obtain ⟨i, hi⟩ := List.exists_mem_of_length_pos h
  rw [List.mem_filter, List.mem_range] at hi
  obtain ⟨h1, h2⟩ := hi
  simp only [isKid, Bool.and_eq_true, decide_eq_true_eq, beq_iff_eq] at h2
  exact ⟨i, h1, h2.1, h2.2⟩
theorem refMay_eq (ns : List Nd) : refMay ns = may ns := by
  rw [Bool.eq_iff_iff]
  unfold refMay may
  simp only [Bool.and_eq_true, decide_eq_true_eq, beq_iff_eq, List.all_eq_true, List.mem_range]
  constructor
  · rintro ⟨⟨h1, h8⟩, hp0, hrow⟩
    have hup : ∀ j, j < ns.length → upOk ns j = true := fun j hj => by
      have := hrow j hj
      unfold rowOk at this
      rw [Bool.and_eq_true] at this
      exact this.2
    have hkd : ∀ j, j < ns.length → kindOk (kindOf ns j) (kidsOf ns j) = true := fun j hj => by
      have := hrow j hj
      unfold rowOk at this
      rw [Bool.and_eq_true] at this
      exact this.1
    have hB := behind_of_up ns ns.length hp0 hup
    have hst : ∀ i, i < ns.length → stands ns i = true := by
      intro i hi
      unfold stands
      split
      · rename_i h0; subst h0; rw [hp0]; rfl
      · rename_i h0
        obtain ⟨h3, h4⟩ := (hB i hi i (Nat.le_refl _)).2 (by omega)
        obtain ⟨q, hq⟩ := Int.eq_ofNat_of_zero_le h3
        have hk := kid_mem ns q i hi (by omega) hq
        have hkq := hkd q (by omega)
        rw [hq] at h4 ⊢
        rw [Int.toNat_natCast]
        unfold kindOk at hkq
        rw [Bool.and_eq_true] at hkq
        have hin : inner (kindOf ns q) = true := by
          have hkq2 := hkq.2
          unfold inner
          by_cases h3 : kindOf ns q = 3
          · rw [h3]; rfl
          · rw [if_neg h3] at hkq2
            by_cases h4 : kindOf ns q = 4
            · rw [h4]; rfl
            · rw [if_neg h4, beq_iff_eq] at hkq2
              omega
        rw [hin]
        simp
        omega
    refine ⟨⟨fun e => by rw [e] at h1; simp at h1, h8⟩, fun i hi => ?_, fun i hi => ?_⟩
    · unfold okOne
      have hk := hkd i hi
      unfold kindOk at hk
      simp only [Bool.and_eq_true, decide_eq_true_eq] at hk
      rw [hst i hi]
      simp
      exact hk.1
    · unfold okTwo
      have hk := hkd i hi
      unfold kindOk at hk
      rw [Bool.and_eq_true] at hk
      have hw : (way ns (ns.length + 1) (i : Int)).length = dp ns i + 1 := by
        rw [way_behind ns i _ (hB i hi) (by omega), way_length ns i (hB i hi)]
      have hd : dp ns i ≤ 4 := by
        rcases Nat.eq_zero_or_pos i with h0 | h0
        · subst h0; rw [dp_zero ns hp0]; omega
        · rw [dp_step ns i (hB i hi) h0]
          have := hup i hi
          unfold upOk at this
          simp only [Bool.or_eq_true, beq_iff_eq, Bool.and_eq_true, decide_eq_true_eq] at this
          omega
      have hk2 := hk.2
      rw [hw]
      have hkk : (kids ns (i : Int)).length = kidsOf ns i := rfl
      rw [hkk]
      by_cases h3 : kindOf ns i = 3
      · rw [if_pos h3, beq_iff_eq] at hk2
        rw [h3, hk2]
        simp
        omega
      · rw [if_neg h3] at hk2
        by_cases h4 : kindOf ns i = 4
        · rw [if_pos h4, decide_eq_true_eq] at hk2
          rw [h4]
          simp
          omega
        · simp [h3, h4]
          omega
  · rintro ⟨⟨hne, h8⟩, hone, htwo⟩
    have h1 : 1 ≤ ns.length := List.length_pos_iff.2 hne
    have hst : ∀ i, i < ns.length → stands ns i = true := fun i hi => by
      have := hone i hi
      unfold okOne at this
      simp only [Bool.and_eq_true] at this
      exact this.2.2
    have hst2 : ∀ i, i < ns.length → 0 < i → 0 ≤ parentOf ns i ∧ parentOf ns i < i ∧ inner (kindOf ns (parentOf ns i).toNat) = true := fun i hi h0 => by
      have := hst i hi
      unfold stands at this
      rw [if_neg (by omega)] at this
      simp only [Bool.and_eq_true, decide_eq_true_eq] at this
      exact this
    have hp0 : parentOf ns 0 = -1 := by
      have := hst 0 h1
      unfold stands at this
      rw [if_pos rfl, beq_iff_eq] at this
      exact this
    have hB : ∀ i, i < ns.length → Behind ns i := fun i hi j hj => ⟨by rintro rfl; exact hp0, fun h0 => by
      have := hst2 j (by omega) h0
      exact ⟨this.1, this.2.1⟩⟩
    refine ⟨⟨h1, h8⟩, hp0, fun i hi => ?_⟩
    unfold rowOk
    rw [Bool.and_eq_true]
    have ht := htwo i hi
    unfold okTwo at ht
    have hw : (way ns (ns.length + 1) (i : Int)).length = dp ns i + 1 := by
      rw [way_behind ns i _ (hB i hi) (by omega), way_length ns i (hB i hi)]
    rw [hw] at ht
    simp only [Bool.not_eq_true', Bool.or_eq_false_iff, Bool.and_eq_false_iff, beq_eq_false_iff_ne, bne_eq_false_iff_eq, decide_eq_false_iff_not] at ht
    have hkk : (kids ns (i : Int)).length = kidsOf ns i := rfl
    rw [hkk] at ht
    constructor
    · unfold kindOk
      have ho := hone i hi
      unfold okOne at ho
      simp only [Bool.and_eq_true, decide_eq_true_eq] at ho
      rw [Bool.and_eq_true]
      refine ⟨by simp; omega, ?_⟩
      by_cases h3 : kindOf ns i = 3
      · rw [if_pos h3, beq_iff_eq]
        rcases ht.1 with h | h
        · exact absurd h3 h
        · exact h
      · rw [if_neg h3]
        by_cases h4 : kindOf ns i = 4
        · rw [if_pos h4, decide_eq_true_eq]
          rcases ht.2.1 with h | h
          · exact absurd h4 h
          · omega
        · rw [if_neg h4, beq_iff_eq]
          rcases Nat.eq_zero_or_pos (kidsOf ns i) with h | h
          · exact h
          · obtain ⟨c, hc, hc0, hcp⟩ := kid_inv ns i h
            have := (hst2 c hc hc0).2.2
            rw [hcp, Int.toNat_natCast] at this
            unfold inner at this
            simp [h3, h4] at this
    · unfold upOk
      rcases Nat.eq_zero_or_pos i with h0 | h0
      · simp [h0]
      · obtain ⟨ha, hb, _⟩ := hst2 i hi h0
        have hd := dp_step ns i (hB i hi) h0
        simp only [Bool.or_eq_true, beq_iff_eq, Bool.and_eq_true, decide_eq_true_eq]
        refine .inr ⟨⟨ha, hb⟩, ?_⟩
        have := ht.2.2
        omega
end Go.Proofs.YtlllflacnlgigaaDoor.Tp
