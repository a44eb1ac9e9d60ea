/- Which values fit a node, as a rule one can take apart and build up; plain Lean. No program. -/
import Derived.Test.YtlllflacnlgigaaDoorBldPure
import Derived.Test.YtlllflacnlgigaaDoorPartsPure
import Derived.Test.YtlllflacnlgigaaDoorMayPure
namespace Go.Proofs.YtlllflacnlgigaaDoor.Vp
set_option linter.unusedVariables false
set_option linter.unusedSimpArgs false
open Tp Go

theorem fits_fuel (ns : List Nd) : ∀ (n m : Nat) (x : Int) (v : Txt), v.length < n → v.length < m → fits ns n x v = fits ns m x v := by
  intro n
  induction n with
  | zero => intro m x v h; omega
  | succ n ih =>
    intro m x v h1 h2
    obtain ⟨m, rfl⟩ : ∃ q, m = q + 1 := ⟨m - 1, by omega⟩
    rw [fits, fits]
    by_cases hn : node ns x = true
    · rw [if_pos hn, if_pos hn]
      simp only
      by_cases h3 : 3 ≤ (parts v).1
      · have hs := parts_short v h3
        have hp : ∀ p ∈ (parts v).2.1, ∀ k : Int, fits ns n k p = fits ns m k p := fun p hp k => ih m k p (by have := hs p hp; omega) (by have := hs p hp; omega)
        have hall : allOf (fun k p => fits ns n k p) (kids ns x) (parts v).2.1 = allOf (fun k p => fits ns m k p) (kids ns x) (parts v).2.1 := by
          have : ∀ F G : Nat → Txt → Bool, (∀ k, ∀ p ∈ (parts v).2.1, F k p = G k p) → allOf F (kids ns x) (parts v).2.1 = allOf G (kids ns x) (parts v).2.1 := by
            intro F G hFG
            unfold allOf
            congr 1
            rw [Bool.eq_iff_iff, List.all_eq_true, List.all_eq_true]
            have e : ∀ i ∈ List.range (min (kids ns x).length (parts v).2.1.length), F ((kids ns x).getD i 0) ((parts v).2.1.getD i []) = G ((kids ns x).getD i 0) ((parts v).2.1.getD i []) := fun i hi => by
              have hi2 : i < (parts v).2.1.length := by have := List.mem_range.1 hi; omega
              refine hFG _ _ ?_
              rw [List.getD_eq_getElem?_getD, List.getElem?_eq_getElem hi2]
              exact List.getElem_mem _
            constructor
            · intro h i hi; rw [← e i hi]; exact h i hi
            · intro h i hi; rw [e i hi]; exact h i hi
          exact this _ _ fun k p hp' => hp p hp' k
        have hall2 : ((parts v).2.1.all fun p => !((parts v).1 == 3 && !(fits ns n ((kids ns x).getD 0 0) p))) = ((parts v).2.1.all fun p => !((parts v).1 == 3 && !(fits ns m ((kids ns x).getD 0 0) p))) := by
          rw [Bool.eq_iff_iff, List.all_eq_true, List.all_eq_true]
          constructor
          · intro h p hp'; rw [← hp p hp']; exact h p hp'
          · intro h p hp'; rw [hp p hp']; exact h p hp'
        rw [hall, hall2]
      · have h4 : (parts v).1 ≠ 4 := by omega
        have h33 : ((parts v).1 == 3) = false := by rw [beq_eq_false_iff_ne]; omega
        simp only [h33, if_neg h4, Bool.false_and]
    · rw [if_neg hn, if_neg hn]

/-- A value fits a node. -/
def Fit (ns : List Nd) (i : Nat) (v : Txt) : Prop := fits ns (v.length + 1) (i : Int) v = true
instance (ns : List Nd) (i : Nat) (v : Txt) : Decidable (Fit ns i v) := inferInstanceAs (Decidable (_ = true))

theorem kid0_mem {ns : List Nd} {i : Nat} {j : Nat} (h : j < (kids ns (i : Int)).length) : (kids ns (i : Int)).getD j 0 ∈ kids ns (i : Int) := by
  rw [List.getD_eq_getElem?_getD, List.getElem?_eq_getElem h]
  exact List.getElem_mem _
theorem kids_one' {ns : List Nd} (h : may ns = true) {i : Nat} (hi : i < ns.length) (hk : kindOf ns i = 3) : kids ns (i : Int) = [(kids ns (i : Int)).getD 0 0] := by
  obtain ⟨k, hk, _⟩ := kids_one ns i hi ((node_of ns i).2 ⟨h, hi⟩) hk
  rw [hk]; rfl
theorem kid_one_lt {ns : List Nd} (h : may ns = true) {i : Nat} (hi : i < ns.length) (hk : kindOf ns i = 3) : i < (kids ns (i : Int)).getD 0 0 ∧ (kids ns (i : Int)).getD 0 0 < ns.length := by
  refine kids_gt ns h i _ (kid0_mem ?_)
  rw [kids_one' h hi hk]; simp
theorem kid_lt {ns : List Nd} (h : may ns = true) {i j : Nat} (hj : j < (kids ns (i : Int)).length) : i < (kids ns (i : Int)).getD j 0 ∧ (kids ns (i : Int)).getD j 0 < ns.length := kids_gt ns h i _ (kid0_mem hj)

theorem parts_nul : parts nul = (-1, [], 0) := by decide +kernel
theorem made_null {k : Int} {ps : List Txt} {v : Txt} (h : Made k ps v) : k = -1 ↔ v = nul := by
  cases h with
  | null => simp [nul]
  | int x => simp [nul, int]
  | bool b => cases b <;> simp [nul, bool]
  | str s => simp [nul, str]
  | list vs => simp [nul, list]
  | struct vs => simp [nul, struct]
theorem nd_kind (ns : List Nd) (i : Nat) : (ns.getD i default).kind = kindOf ns i := rfl

/-- What a value that fits is. -/
inductive FitC (ns : List Nd) (i : Nat) : Txt → Prop where
  | null (h : isNull ns i = true) : FitC ns i nul
  | int (h : kindOf ns i = 0) (x : Int) (h0 : -9223372036854775808 ≤ x) (h1 : x ≤ 9223372036854775807) : FitC ns i (int x)
  | bool (h : kindOf ns i = 1) (b : Bool) : FitC ns i (bool b)
  | str (h : kindOf ns i = 2) (s : Txt) (hs : s.length ≤ 16) : FitC ns i (str s)
  | list (h : kindOf ns i = 3) (ps : List Txt) (hl : ps.length ≤ 64) (hp : ∀ p ∈ ps, Fit ns ((kids ns i).getD 0 0) p) (hv : (list ps).length ≤ 65536) (his : ∀ p ∈ ps, IsV 4 p) : FitC ns i (list ps)
  | struct (h : kindOf ns i = 4) (ps : List Txt) (hl : ps.length = (kids ns i).length) (hp : ∀ j, j < ps.length → Fit ns ((kids ns i).getD j 0) (ps.getD j [])) (hv : (struct ps).length ≤ 65536) (his : ∀ p ∈ ps, IsV 4 p) : FitC ns i (struct ps)

theorem fit_inv {ns : List Nd} {i : Nat} {v : Txt} (h : Fit ns i v) : FitC ns i v := by
  unfold Fit at h
  rw [fits] at h
  split at h
  · rename_i hn
    simp only [Int.toNat_natCast] at h
    by_cases he : (parts v).2.2 = 0
    · obtain ⟨hlen, his, hM, hp4⟩ := is_of_parts he
      by_cases hk : (parts v).1 = -1
      · rw [if_pos (.inr hk)] at h
        simp only [Bool.and_eq_true] at h
        rw [(made_null hM).1 hk]
        exact .null h.2
      · rw [if_neg (by simp [he, hk])] at h
        by_cases hkind' : (parts v).1 = (ns.getD i default).kind
        · rw [if_neg (show ¬ ((parts v).1 ≠ (ns.getD i default).kind) from fun hne => hne hkind')] at h
          have hshort := fun h3 => parts_short v h3
          have hml := fun p hp h3 => parts_len v p hp h3
          generalize (parts v).1 = k at hkind' h hM hk hp4 hshort hml
          generalize (parts v).2.1 = ps at h hM hp4 hshort hml
          have hkk : kindOf ns i = k := hkind'.symm
          clear hkind'
          cases hM with
          | null => exact absurd rfl hk
          | int x h0 h1 => exact .int hkk x h0 h1
          | bool b => exact .bool hkk b
          | str s =>
            rw [if_pos (by decide)] at h
            exact .str hkk s (by simpa using h)
          | list ps =>
            rw [if_neg (by decide), if_neg (by decide)] at h
            simp only [Bool.and_eq_true, decide_eq_true_eq, List.all_eq_true] at h
            refine .list hkk ps h.2 (fun p hp => ?_) hlen (hp4 (by decide))
            have h1 := h.1 p hp
            have h2 := hshort (by decide) p hp
            unfold Fit
            rw [fits_fuel ns (p.length + 1) (list ps).length _ p (by omega) h2]
            simpa using h1
          | struct ps =>
            rw [if_neg (by decide), if_pos (by decide)] at h
            unfold allOf at h
            simp only [Bool.and_eq_true, beq_iff_eq, List.all_eq_true, List.mem_range] at h
            refine .struct hkk ps h.2.symm (fun j hj => ?_) hlen (hp4 (by decide))
            have h1 := h.1 j (by omega)
            have hm : ps.getD j [] ∈ ps := by
              rw [List.getD_eq_getElem?_getD, List.getElem?_eq_getElem hj]
              exact List.getElem_mem _
            have h2 := hshort (by decide) _ hm
            unfold Fit
            rw [fits_fuel ns ((ps.getD j []).length + 1) (struct ps).length _ _ (by omega) h2]
            exact h1
        · rw [if_pos (show (parts v).1 ≠ (ns.getD i default).kind from hkind')] at h
          cases h
    · rw [if_pos (.inl he)] at h
      simp [he] at h
  · cases h

/-! And back: what is so fits. -/
theorem parts_int (x : Int) (h0 : -9223372036854775808 ≤ x) (h1 : x ≤ 9223372036854775807) : parts (int x) = (0, [Lib.itoa x], 0) :=
  parts_of_is (by have := digitsLen x h0 h1; simp [int]; omega) (is_int 4 x h0 h1)
theorem parts_bool (b : Bool) : parts (bool b) = (1, [bool b], 0) := parts_of_is (by cases b <;> simp [bool]) (is_bool 4 b)
theorem str_length (s : Txt) (h : s.length ≤ 16) : (str s).length ≤ 38 := by
  have := digitsLen (s.length : Int) (by omega) (by omega)
  have e : (str s).length = (Lib.itoa (s.length : Int)).length + s.length + 2 := by simp [str]; omega
  omega
theorem parts_str (s : Txt) (h : s.length ≤ 16) : parts (str s) = (2, [s], 0) := parts_of_is (by have := str_length s h; omega) (is_str 4 s (by omega))
theorem parts_list (ps : List Txt) (h : (list ps).length ≤ 65536) (hp : ∀ p ∈ ps, IsV 4 p) : parts (list ps) = (3, ps, 0) := parts_of_is h (is_list 4 ps hp)
theorem parts_struct (ps : List Txt) (h : (struct ps).length ≤ 65536) (hp : ∀ p ∈ ps, IsV 4 p) : parts (struct ps) = (4, ps, 0) := parts_of_is h (is_struct 4 ps hp)

theorem fit_of {ns : List Nd} (hm : may ns = true) {i : Nat} (hi : i < ns.length) {v : Txt} (h : FitC ns i v) : Fit ns i v := by
  have hn : node ns (i : Int) = true := (node_of ns i).2 ⟨hm, hi⟩
  unfold Fit
  rw [fits, if_pos hn]
  simp only [Int.toNat_natCast]
  cases h with
  | null h =>
    rw [parts_nul]
    have : (ns.getD i default).null = true := h
    rw [if_pos (.inr rfl), Bool.and_eq_true]
    exact ⟨rfl, this⟩
  | int h x h0 h1 => rw [parts_int x h0 h1]; have hk : 0 = (ns.getD i default).kind := h.symm; simp only []; rw [if_neg (by decide), if_neg (by rw [← hk]; decide)]; simp []
  | bool h b => rw [parts_bool]; have hk : 1 = (ns.getD i default).kind := h.symm; simp only []; rw [if_neg (by decide), if_neg (by rw [← hk]; decide)]; simp []
  | str h s hs => rw [parts_str s hs]; have hk : 2 = (ns.getD i default).kind := h.symm; simp only []; rw [if_neg (by decide), if_neg (by rw [← hk]; decide)]; simp [hs]
  | list h ps hl hp hv his =>
    have hsh := parts_short (list ps)
    rw [parts_list ps hv his] at hsh ⊢
    have hk : (ns.getD i default).kind = 3 := h
    simp only [hk, hl]
    simp only [decide_true, Bool.and_true]
    rw [if_neg (by decide), if_neg (by decide), if_neg (by decide), if_neg (by decide)]
    rw [List.all_eq_true]
    intro p hp'
    have h2 := hp p hp'
    unfold Fit at h2
    rw [fits_fuel ns (p.length + 1) (list ps).length _ p (by omega) (hsh (show (3 : Int) ≤ 3 by decide) p hp')] at h2
    rw [h2]; rfl
  | struct h ps hl hp hv his =>
    have hsh := parts_short (struct ps)
    rw [parts_struct ps hv his] at hsh ⊢
    have hk : (ns.getD i default).kind = 4 := h
    simp only [hk]
    rw [if_neg (by decide), if_neg (by decide), if_neg (by decide), if_pos trivial]
    unfold allOf
    simp only [Bool.and_eq_true, beq_iff_eq, List.all_eq_true, List.mem_range]
    refine ⟨fun j hj => ?_, hl.symm⟩
    have hj' : j < ps.length := by omega
    have hm : ps.getD j [] ∈ ps := by
      rw [List.getD_eq_getElem?_getD, List.getElem?_eq_getElem hj']
      exact List.getElem_mem _
    have h2 := hp j hj'
    unfold Fit at h2
    rw [fits_fuel ns ((ps.getD j []).length + 1) (struct ps).length _ _ (by omega) (hsh (show (3 : Int) ≤ 4 by decide) _ hm)] at h2
    exact h2
/-! How deep. -/
theorem may_behind {ns : List Nd} (h : may ns = true) (i : Nat) (hi : i < ns.length) : Behind ns i := by
  rw [← refMay_eq] at h
  unfold refMay at h
  simp only [Bool.and_eq_true, beq_iff_eq, List.all_eq_true, List.mem_range] at h
  refine behind_of_up ns ns.length h.2.1 (fun j hj => ?_) i hi
  have := h.2.2 j hj
  unfold rowOk at this
  rw [Bool.and_eq_true] at this
  exact this.2
theorem dp_kid {ns : List Nd} (h : may ns = true) {i k : Nat} (hk : k ∈ kids ns (i : Int)) : dp ns k = dp ns i + 1 := by
  obtain ⟨h1, h2⟩ := kids_gt ns h i k hk
  have hs := dp_step ns k (may_behind h k h2) (by omega)
  have hp : parentOf ns k = (i : Int) := by
    unfold kids kidsTo at hk
    have := (List.mem_filter.1 hk).2
    unfold isKid at this
    simp only [Bool.and_eq_true, decide_eq_true_eq, beq_iff_eq] at this
    exact this.2
  rw [hs, hp, Int.toNat_natCast]
theorem dp_le {ns : List Nd} (h : may ns = true) {i : Nat} (hi : i < ns.length) : dp ns i ≤ 4 := by
  have h2 := node_two ns i hi ((node_of ns i).2 ⟨h, hi⟩)
  unfold okTwo at h2
  simp only [Bool.not_eq_true', Bool.or_eq_false_iff, decide_eq_false_iff_not] at h2
  have h3 := h2.2
  rw [way_behind ns i (ns.length + 1) (may_behind h i hi) (by omega)] at h3
  unfold dp
  omega
theorem isv_le {d d' : Nat} {V : Txt} (hd : d ≤ d') (hl : V.length ≤ 9223372036854775807) (h : IsV d V) : IsV d' V := by
  induction d' with
  | zero =>
    obtain rfl : d = 0 := by omega
    exact h
  | succ m ih =>
    rcases Nat.lt_or_ge m d with hlt | hge
    · obtain rfl : d = m + 1 := by omega
      exact h
    · obtain ⟨k, ps, hk⟩ := ih hge
      exact ⟨k, ps, is_mono m V k ps hl hk⟩
theorem fit_isv {ns : List Nd} (h : may ns = true) : ∀ (n i : Nat) (v : Txt), i < ns.length → ns.length - i ≤ n → Fit ns i v → IsV (5 - dp ns i) v := by
  intro n
  induction n with
  | zero => intro i v hi h1 _; omega
  | succ n ih =>
    intro i v hi h1 hf
    have hd := dp_le h hi
    rw [show 5 - dp ns i = (4 - dp ns i) + 1 by omega]
    cases fit_inv hf with
    | null => exact ⟨_, _, is_null _⟩
    | int _ x h0 h1 => exact ⟨_, _, is_int _ x h0 h1⟩
    | bool _ b => exact ⟨_, _, is_bool _ b⟩
    | str _ s hs => exact ⟨_, _, is_str _ s (by omega)⟩
    | list hk ps hl hp hv his =>
      refine ⟨_, _, is_list _ ps fun p hp' => ?_⟩
      have hm := kid0_mem (ns := ns) (i := i) (j := 0) (by rw [kids_one' h hi hk]; simp)
      obtain ⟨h2, h3⟩ := kids_gt ns h i _ hm
      have := ih _ p h3 (by omega) (hp p hp')
      rw [dp_kid h hm] at this
      rwa [show 4 - dp ns i = 5 - (dp ns i + 1) by omega]
    | struct hk ps hl hp hv his =>
      refine ⟨_, _, is_struct _ ps fun p hp' => ?_⟩
      obtain ⟨j, hj, rfl⟩ := List.getElem_of_mem hp'
      have hm := kid0_mem (ns := ns) (i := i) (j := j) (by omega)
      obtain ⟨h2, h3⟩ := kids_gt ns h i _ hm
      have := ih _ _ h3 (by omega) (hp j hj)
      rw [dp_kid h hm, List.getD_eq_getElem?_getD, List.getElem?_eq_getElem hj] at this
      rwa [show 4 - dp ns i = 5 - (dp ns i + 1) by omega]
theorem fit_len {ns : List Nd} {i : Nat} {v : Txt} (hf : Fit ns i v) : v.length ≤ 65536 := by
  cases fit_inv hf with
  | null => simp [nul]
  | int _ x h0 h1 => have := digitsLen x h0 h1; simp [int]; omega
  | bool _ b => cases b <;> simp [bool]
  | str _ s hs => have := str_length s hs; omega
  | list _ ps hl hp hv his => exact hv
  | struct _ ps hl hp hv his => exact hv
theorem fit_is4 {ns : List Nd} (h : may ns = true) {i k : Nat} (hk : k ∈ kids ns (i : Int)) {p : Txt} (hf : Fit ns k p) : IsV 4 p := by
  obtain ⟨h1, h2⟩ := kids_gt ns h i k hk
  have := fit_isv h _ k p h2 (Nat.le_refl _) hf
  rw [dp_kid h hk] at this
  exact isv_le (by omega) (by have := fit_len hf; omega) this
/-- A list, a struct of values that fit. -/
theorem fit_list {ns : List Nd} (h : may ns = true) {i : Nat} (hi : i < ns.length) (hk : kindOf ns i = 3) (ps : List Txt) (hl : ps.length ≤ 64) (hp : ∀ p ∈ ps, Fit ns ((kids ns i).getD 0 0) p) (hv : (list ps).length ≤ 65536) : Fit ns i (list ps) :=
  fit_of h hi (.list hk ps hl hp hv fun p hp' => fit_is4 h (kid0_mem (by rw [kids_one' h hi hk]; simp)) (hp p hp'))
theorem fit_struct {ns : List Nd} (h : may ns = true) {i : Nat} (hi : i < ns.length) (hk : kindOf ns i = 4) (ps : List Txt) (hl : ps.length = (kids ns i).length) (hp : ∀ j, j < ps.length → Fit ns ((kids ns i).getD j 0) (ps.getD j [])) (hv : (struct ps).length ≤ 65536) : Fit ns i (struct ps) :=
  fit_of h hi (.struct hk ps hl hp hv fun p hp' => by
    obtain ⟨j, hj, rfl⟩ := List.getElem_of_mem hp'
    have := hp j hj
    rw [List.getD_eq_getElem?_getD (l := ps), List.getElem?_eq_getElem hj] at this
    have hm := kid0_mem (ns := ns) (i := i) (j := j) (by omega)
    exact fit_is4 h hm this)

/-! The zeros fit. -/
theorem join_length (ps : List Txt) (b : Nat) (h : ∀ p ∈ ps, p.length ≤ b) : (join ps).length ≤ ps.length * b := by
  induction ps with
  | nil => simp [join]
  | cons p ps ih =>
    have h1 := h p (by simp)
    have h2 := ih fun q hq => h q (by simp [hq])
    have e : (join (p :: ps)).length = p.length + (join ps).length := by simp [join]
    rw [e, List.length_cons, Nat.succ_mul]
    omega
theorem kids_many {ns : List Nd} (h : may ns = true) (i : Nat) : (kids ns (i : Int)).length ≤ ns.length - 1 - i := by
  have hall : ∀ n, n ≤ ns.length → (kidsTo ns (i : Int) n).length ≤ n - 1 - i := by
    intro n
    induction n with
    | zero => intro _; simp [kidsTo]
    | succ n ih =>
      intro hn
      have h1 := ih (by omega)
      rw [kidsTo_succ, List.length_append]
      split
      · rename_i hk
        have hm : n ∈ kids ns (i : Int) := by
          unfold kids kidsTo
          exact List.mem_filter.2 ⟨List.mem_range.2 (by omega), hk⟩
        have := (kids_gt ns h i n hm).1
        rw [List.length_singleton]
        omega
      · rw [List.length_nil]
        omega
  exact hall _ (Nat.le_refl _)
theorem zero_fit {ns : List Nd} (h : may ns = true) : ∀ (n i : Nat), i < ns.length → ns.length - i ≤ n → Fit ns i (zero ns i) ∧ (zero ns i).length ≤ 3 * 8 ^ (4 - dp ns i) := by
  intro n
  induction n with
  | zero => intro i hi h1; omega
  | succ n ih =>
    intro i hi h1
    have hd := dp_le h hi
    have hp1 : 1 ≤ 8 ^ (4 - dp ns i) := Nat.one_le_pow _ _ (by decide)
    have hkind := may_kind ns h i hi
    rw [zero_eq ns h i hi]
    by_cases h0 : isNull ns i = true
    · rw [if_pos h0]
      exact ⟨fit_of h hi (.null h0), by simp [nul]; omega⟩
    rw [if_neg h0]
    by_cases h1 : kindOf ns i = 0
    · rw [if_pos h1]
      exact ⟨fit_of h hi (.int h1 0 (by decide) (by decide)), by rw [show (int 0).length = 3 by decide +kernel]; omega⟩
    rw [if_neg h1]
    by_cases h2 : kindOf ns i = 1
    · rw [if_pos h2]
      exact ⟨fit_of h hi (.bool h2 false), by simp [bool]; omega⟩
    rw [if_neg h2]
    by_cases h3 : kindOf ns i = 2
    · rw [if_pos h3]
      exact ⟨fit_of h hi (.str h3 [] (by simp)), by rw [show (str []).length = 3 by decide +kernel]; omega⟩
    rw [if_neg h3]
    by_cases h4 : kindOf ns i = 3
    · rw [if_pos h4]
      exact ⟨fit_list h hi h4 [] (by simp) (by simp) (by simp [list, join]), by rw [show (list []).length = 2 by decide +kernel]; omega⟩
    rw [if_neg h4]
    have h5 : kindOf ns i = 4 := by omega
    have hne : 1 ≤ (kids ns (i : Int)).length := by
      have h6 := node_two ns i hi ((node_of ns i).2 ⟨h, hi⟩)
      unfold okTwo at h6
      rw [h5] at h6
      simp only [Bool.not_eq_true', Bool.or_eq_false_iff, beq_self_eq_true, Bool.true_and, beq_eq_false_iff_ne] at h6
      omega
    obtain ⟨k0, hk0⟩ : ∃ k, k ∈ kids ns (i : Int) := ⟨_, List.getElem_mem (show 0 < _ from hne)⟩
    have hd0 := dp_kid h hk0
    have hd1 := dp_le h (kids_gt ns h i k0 hk0).2
    have hpow : 8 ^ (4 - dp ns i) = 8 * 8 ^ (4 - (dp ns i + 1)) := by
      rw [show 4 - dp ns i = (4 - (dp ns i + 1)) + 1 by omega, Nat.pow_succ, Nat.mul_comm]
    have hp2 : 1 ≤ 8 ^ (4 - (dp ns i + 1)) := Nat.one_le_pow _ _ (by decide)
    have hp3 : 8 ^ (4 - (dp ns i + 1)) ≤ 8 ^ 3 := Nat.pow_le_pow_right (by decide) (by omega)
    have hlen : (join ((kids ns (i : Int)).map (zero ns))).length ≤ 7 * (3 * 8 ^ (4 - (dp ns i + 1))) := by
      have := join_length ((kids ns (i : Int)).map (zero ns)) (3 * 8 ^ (4 - (dp ns i + 1))) fun p hp => by
        obtain ⟨k, hk, rfl⟩ := List.mem_map.1 hp
        obtain ⟨h7, h8⟩ := kids_gt ns h i k hk
        have := (ih k h8 (by omega)).2
        rwa [dp_kid h hk] at this
      rw [List.length_map] at this
      have hm := kids_many h i
      have := (may_len ns h).2
      exact Nat.le_trans ‹_› (Nat.mul_le_mul_right _ (by omega))
    have hlen2 : (struct ((kids ns (i : Int)).map (zero ns))).length = (join ((kids ns (i : Int)).map (zero ns))).length + 2 := by simp [struct]
    generalize 8 ^ (4 - (dp ns i + 1)) = z at *
    refine ⟨fit_struct h hi h5 _ (by simp) (fun j hj => ?_) (by omega), by omega⟩
    rw [List.length_map] at hj
    rw [List.getD_eq_getElem?_getD (l := (kids ns (i : Int)).map (zero ns)), List.getElem?_map, List.getElem?_eq_getElem hj, List.getD_eq_getElem?_getD, List.getElem?_eq_getElem hj]
    exact (ih _ (kids_gt ns h i _ (List.getElem_mem hj)).2 (by have := (kids_gt ns h i _ (List.getElem_mem hj)).1; omega)).1
end Go.Proofs.YtlllflacnlgigaaDoor.Vp
