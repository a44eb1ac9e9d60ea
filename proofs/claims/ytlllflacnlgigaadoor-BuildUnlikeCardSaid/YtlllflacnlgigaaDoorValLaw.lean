/- Values as texts: which texts are values, and of what parts; plain Lean. No program. -/
import Derived.Test.YtlllflacnlgigaaDoorNumPure
namespace Go.Proofs.YtlllflacnlgigaaDoor.Vp
set_option linter.unusedVariables false
open Go

/-- V is a value within d, of this kind and these parts, whatever stands behind it. -/
def Is (d : Nat) (V : Txt) (k : Int) (ps : List Txt) : Prop := ∀ r, value d ⟨V ++ r, false⟩ = (k, ps, ⟨r, false⟩)
def IsV (d : Nat) (V : Txt) : Prop := ∃ k ps, Is d V k ps

theorem value_cons (d : Nat) (c : UInt8) (r : Txt) (bad : Bool) : value (d + 1) ⟨c :: r, bad⟩ =
    if c = 110 then (-1, [], ⟨r, bad⟩)
    else if c = 105 then (0, [(number ⟨r, bad⟩ 59).2.1], (number ⟨r, bad⟩ 59).2.2)
    else if c = 116 ∨ c = 102 then (1, [[c]], ⟨r, bad⟩)
    else if c = 115 then (2, [(bytes (number ⟨r, bad⟩ 58).2.2 (number ⟨r, bad⟩ 58).1).1], (bytes (number ⟨r, bad⟩ 58).2.2 (number ⟨r, bad⟩ 58).1).2)
    else if c = 91 then (3, (row (fun t => (value d t).2.2) 93 ⟨r, bad⟩).1, (row (fun t => (value d t).2.2) 93 ⟨r, bad⟩).2)
    else if c = 123 then (4, (row (fun t => (value d t).2.2) 125 ⟨r, bad⟩).1, (row (fun t => (value d t).2.2) 125 ⟨r, bad⟩).2)
    else (0, [], ⟨r, true⟩) := rfl
theorem is_null (d : Nat) : Is (d + 1) [110] (-1) [] := fun r => by simp [value, byte]
theorem is_int (d : Nat) (x : Int) (h0 : -9223372036854775808 ≤ x) (h1 : x ≤ 9223372036854775807) : Is (d + 1) (int x) 0 [Lib.itoa x] := fun r => by
  have hn := number_ok x 59 r (by decide) h0 h1
  have e : int x ++ r = 105 :: (Lib.itoa x ++ 59 :: r) := by simp [int]
  rw [e]
  simp only [value, byte]
  rw [if_neg (by decide), if_pos trivial, hn]
theorem is_bool (d : Nat) (b : Bool) : Is (d + 1) (bool b) 1 [bool b] := fun r => by
  cases b <;> simp [value, byte, bool]
theorem is_str (d : Nat) (s : Txt) (h : s.length ≤ 9223372036854775807) : Is (d + 1) (str s) 2 [s] := fun r => by
  have hn := number_ok (s.length : Int) 58 (s ++ r) (by decide) (by omega) (by omega)
  have e : str s ++ r = 115 :: (Lib.itoa s.length ++ 58 :: (s ++ r)) := by simp [str]
  rw [e]
  simp only [value, byte]
  rw [if_neg (by decide), if_neg (by decide), if_neg (by decide), if_pos trivial, hn]
  have hb : bytes ⟨s ++ r, false⟩ (s.length : Int) = (s, ⟨r, false⟩) := by
    unfold bytes
    rw [if_neg (by simp; omega)]
    simp
  simp only [hb]

theorem isv_ne {d : Nat} {V : Txt} (h : IsV d V) : ∃ c r, V = c :: r ∧ c ≠ 93 ∧ c ≠ 125 := by
  obtain ⟨k, ps, h⟩ := h
  have h0 := h []
  rw [List.append_nil] at h0
  cases d with
  | zero => simp [value] at h0
  | succ d =>
    cases V with
    | nil => simp [value, byte] at h0
    | cons c r =>
      refine ⟨c, r, rfl, ?_, ?_⟩
      · rintro rfl
        simp [value, byte] at h0
      · rintro rfl
        simp [value, byte] at h0

/-- A row of values, and its end. -/
theorem rowLoop_is (d : Nat) (e : UInt8) (he : e = 93 ∨ e = 125) (r : Txt) : ∀ (vs : List Txt) (n : Nat) (out : List Txt), (∀ v ∈ vs, IsV d v) → (join vs).length < n →
    rowLoop (fun t => (value d t).2.2) e n ⟨join vs ++ e :: r, false⟩ out = (out ++ vs, ⟨e :: r, false⟩) := by
  intro vs
  induction vs with
  | nil =>
    intro n out _ hn
    rw [rowLoop_end]
    · simp [join]
    · simp [goes, join]
  | cons v vs ih =>
    intro n out hv hn
    obtain ⟨c, s, hc, h1, h2⟩ := isv_ne (hv v (by simp))
    obtain ⟨k, ps, hk⟩ := hv v (by simp)
    have hj : join (v :: vs) ++ e :: r = v ++ (join vs ++ e :: r) := by simp [join]
    have hlen : (join (v :: vs)).length = v.length + (join vs).length := by simp [join]
    have hgo : goes e ⟨join (v :: vs) ++ e :: r, false⟩ = true := by
      rw [hj, hc]
      rcases he with rfl | rfl <;> simp [goes, h1, h2]
    have hvl : 1 ≤ v.length := by rw [hc]; simp
    obtain ⟨m, rfl⟩ : ∃ m, n = m + 1 := ⟨n - 1, by omega⟩
    rw [rowLoop, if_pos hgo]
    have hst := hk (join vs ++ e :: r)
    rw [hj]
    simp only [hst]
    rw [ih m _ (fun v hv' => hv v (by simp [hv'])) (by omega)]
    congr 1
    rw [List.append_assoc]
    congr 1
    rw [List.length_append, Nat.add_sub_cancel, List.take_left]
    rfl
theorem row_is (d : Nat) (e : UInt8) (he : e = 93 ∨ e = 125) (r : Txt) (vs : List Txt) (hv : ∀ v ∈ vs, IsV d v) :
    row (fun t => (value d t).2.2) e ⟨join vs ++ e :: r, false⟩ = (vs, ⟨r, false⟩) := by
  unfold row
  simp only
  rw [rowLoop_is d e he r vs _ [] hv (by simp; omega)]
  simp [byte]
theorem is_list (d : Nat) (vs : List Txt) (hv : ∀ v ∈ vs, IsV d v) : Is (d + 1) (list vs) 3 vs := fun r => by
  have e : list vs ++ r = 91 :: (join vs ++ 93 :: r) := by simp [list]
  rw [e]
  simp only [value, byte]
  rw [if_neg (by decide), if_neg (by decide), if_neg (by decide), if_neg (by decide), if_pos trivial, row_is d 93 (.inl rfl) r vs hv]
theorem is_struct (d : Nat) (vs : List Txt) (hv : ∀ v ∈ vs, IsV d v) : Is (d + 1) (struct vs) 4 vs := fun r => by
  have e : struct vs ++ r = 123 :: (join vs ++ 125 :: r) := by simp [struct]
  rw [e]
  simp only [value, byte]
  rw [if_neg (by decide), if_neg (by decide), if_neg (by decide), if_neg (by decide), if_neg (by decide), if_pos trivial, row_is d 125 (.inr rfl) r vs hv]

/-! And back: what is taken was a value. -/
/-- A value's text is made of its kind and parts. -/
inductive Made : Int → List Txt → Txt → Prop where
  | null : Made (-1) [] [110]
  | int (x : Int) (h0 : -9223372036854775808 ≤ x) (h1 : x ≤ 9223372036854775807) : Made 0 [Lib.itoa x] (int x)
  | bool (b : Bool) : Made 1 [bool b] (bool b)
  | str (s : Txt) : Made 2 [s] (str s)
  | list (vs : List Txt) : Made 3 vs (list vs)
  | struct (vs : List Txt) : Made 4 vs (struct vs)

def Inv (d : Nat) : Prop := ∀ s k ps r, value d ⟨s, false⟩ = (k, ps, ⟨r, false⟩) → ∃ V, s = V ++ r ∧ Is d V k ps ∧ Made k ps V ∧ (3 ≤ k → ∃ d', d = d' + 1 ∧ ∀ p ∈ ps, IsV d' p)

theorem value_good (d : Nat) (t : Tk) (h : (value d t).2.2.bad = false) : t.bad = false := by
  obtain ⟨s, bad⟩ := t
  cases bad with
  | false => rfl
  | true =>
    have hbb : ∀ (e : UInt8) (f : Tk → Tk) (s : Txt), (row f e ⟨s, true⟩).2.bad = true := fun e f s => by
      unfold row
      simp only
      rw [rowLoop_end _ _ _ _ _ (by simp [goes])]
      cases s <;> simp [byte]
    have hnb : ∀ (e : UInt8) (s : Txt), (number ⟨s, true⟩ e).2.2.bad = true := fun e s => by simp [number]
    have hsb : ∀ (n : Int) (t : Tk), t.bad = true → (bytes t n).2.bad = true := fun n t ht => by simp [bytes, ht]
    cases d with
    | zero => simp [value] at h
    | succ d =>
      cases s with
      | nil => simp [value, byte] at h
      | cons c r =>
        rw [value_cons] at h
        by_cases h1 : c = 110
        · rw [if_pos h1] at h; simp at h
        rw [if_neg h1] at h
        by_cases h2 : c = 105
        · rw [if_pos h2] at h; simp only [hnb] at h; simp at h
        rw [if_neg h2] at h
        by_cases h3 : c = 116 ∨ c = 102
        · rw [if_pos h3] at h; simp at h
        rw [if_neg h3] at h
        by_cases h4 : c = 115
        · rw [if_pos h4] at h; simp only [hsb _ _ (hnb 58 r)] at h; simp at h
        rw [if_neg h4] at h
        by_cases h5 : c = 91
        · rw [if_pos h5] at h; simp only [hbb] at h; simp at h
        rw [if_neg h5] at h
        by_cases h6 : c = 123
        · rw [if_pos h6] at h; simp only [hbb] at h; simp at h
        · rw [if_neg h6] at h; simp at h

/-- With rounds enough the row comes to its end. -/
theorem rowLoop_done (d : Nat) (e : UInt8) : ∀ (n : Nat) (t : Tk) (out : List Txt), left t ≤ n → goes e (rowLoop (fun t => (value d t).2.2) e n t out).2 = false := by
  intro n
  induction n with
  | zero =>
    intro t out h
    rw [rowLoop]
    obtain ⟨s, bad⟩ := t
    cases bad with
    | true => simp [goes]
    | false =>
      have : s = [] := by simpa [left] using h
      subst this
      simp [goes]
  | succ n ih =>
    intro t out h
    rw [rowLoop]
    split
    · rename_i hg
      exact ih _ _ (by have := left_step d t e hg; omega)
    · rename_i hg
      simpa using hg
theorem rowLoop_inv (d : Nat) (ih : Inv d) (e : UInt8) : ∀ (n : Nat) (s : Txt) (bad : Bool) (out : List Txt) (qs : List Txt) (r : Txt), rowLoop (fun t => (value d t).2.2) e n ⟨s, bad⟩ out = (qs, ⟨r, false⟩) →
    ∃ vs, qs = out ++ vs ∧ s = join vs ++ r ∧ bad = false ∧ ∀ v ∈ vs, IsV d v := by
  intro n
  induction n with
  | zero =>
    intro s bad out qs r h
    rw [rowLoop] at h
    simp only [Prod.mk.injEq, Tk.mk.injEq] at h
    obtain ⟨rfl, rfl, rfl⟩ := h
    exact ⟨[], by simp, by simp [join], rfl, by simp⟩
  | succ n ihn =>
    intro s bad out qs r h
    rw [rowLoop] at h
    split at h
    · rename_i hg
      obtain ⟨hb, c, s', hs, hc⟩ := (goes_iff e _).1 hg
      simp only at hb hs
      subst hb
      obtain ⟨k, ps, ⟨s2, bad2⟩, hv⟩ : ∃ k ps t2, value d ⟨s, false⟩ = (k, ps, t2) := ⟨_, _, _, rfl⟩
      simp only [hv] at h
      obtain ⟨vs, hq, hs2, hb2, hall⟩ := ihn s2 bad2 _ _ _ h
      subst hb2
      obtain ⟨V, hV, hIs, hM, _⟩ := ih s k ps s2 hv
      refine ⟨V :: vs, ?_, ?_, rfl, ?_⟩
      · rw [hq, List.append_assoc]
        congr 1
        rw [hV, List.length_append, Nat.add_sub_cancel, List.take_left]
        rfl
      · rw [hV, hs2]; simp [join]
      · intro v hv'
        rw [List.mem_cons] at hv'
        rcases hv' with rfl | hv'
        · exact ⟨k, ps, hIs⟩
        · exact hall v hv'
    · simp only [Prod.mk.injEq, Tk.mk.injEq] at h
      obtain ⟨rfl, rfl, rfl⟩ := h
      exact ⟨[], by simp, by simp [join], rfl, by simp⟩
theorem row_inv (d : Nat) (ih : Inv d) (e : UInt8) (t : Tk) (qs : List Txt) (r : Txt) (h : row (fun t => (value d t).2.2) e t = (qs, ⟨r, false⟩)) :
    t.rest = join qs ++ e :: r ∧ t.bad = false ∧ ∀ v ∈ qs, IsV d v := by
  obtain ⟨s, bad⟩ := t
  unfold row at h
  simp only at h
  have hd := rowLoop_done d e (s.length + 1) ⟨s, bad⟩ [] (by unfold left; split <;> simp)
  obtain ⟨qs', ⟨s2, bad2⟩, hr⟩ : ∃ qs' t2, rowLoop (fun t => (value d t).2.2) e (s.length + 1) ⟨s, bad⟩ [] = (qs', t2) := ⟨_, _, rfl⟩
  rw [hr] at h hd
  simp only at h hd
  cases s2 with
  | nil => simp [byte] at h
  | cons c r' =>
    simp only [byte, Prod.mk.injEq, Tk.mk.injEq] at h
    obtain ⟨rfl, rfl, rfl⟩ := h
    have hce : c = e := by simpa [goes] using hd
    subst hce
    obtain ⟨vs, hq, hs, hb, hall⟩ := rowLoop_inv d ih c _ _ _ _ _ _ hr
    rw [List.nil_append] at hq
    subst hq
    exact ⟨hs, hb, hall⟩
theorem bytes_inv (t : Tk) (n : Int) (r : Txt) (q : Txt) (h : bytes t n = (q, ⟨r, false⟩)) : t.bad = false ∧ 0 ≤ n ∧ t.rest = q ++ r ∧ q.length = n.toNat := by
  unfold bytes at h
  split at h
  · simp at h
  · rename_i hc
    simp only [Prod.mk.injEq, Tk.mk.injEq] at h
    obtain ⟨rfl, rfl, hb⟩ := h
    refine ⟨hb, by omega, by simp, ?_⟩
    rw [List.length_take]
    omega

theorem inv_all : ∀ d, Inv d := by
  intro d
  induction d with
  | zero => intro s k ps r h; simp [value] at h
  | succ d ih =>
    intro s k ps r h
    cases s with
    | nil => simp [value, byte] at h
    | cons c s =>
      rw [value_cons] at h
      by_cases hc : c = 110
      · rw [if_pos hc] at h
        subst hc
        simp only [Prod.mk.injEq, Tk.mk.injEq] at h
        obtain ⟨rfl, rfl, rfl, _⟩ := h
        exact ⟨[110], rfl, is_null d, .null, fun h3 => absurd h3 (by decide)⟩
      rw [if_neg hc] at h
      by_cases hc : c = 105
      · rw [if_pos hc] at h
        subst hc
        simp only [Prod.mk.injEq] at h
        obtain ⟨rfl, rfl, ht⟩ := h
        obtain ⟨_, x, r', hs, h0, h1, hn⟩ := number_inv ⟨s, false⟩ 59 (by rw [ht])
        rw [hn] at ht ⊢
        simp only [Tk.mk.injEq] at ht hs
        obtain ⟨rfl, _⟩ := ht
        exact ⟨int x, by rw [hs]; simp [int], is_int d x h0 h1, .int x h0 h1, fun h3 => absurd h3 (by decide)⟩
      rw [if_neg hc] at h
      by_cases hc : c = 116 ∨ c = 102
      · rw [if_pos hc] at h
        simp only [Prod.mk.injEq, Tk.mk.injEq] at h
        obtain ⟨rfl, rfl, rfl, _⟩ := h
        rcases hc with rfl | rfl
        · exact ⟨[116], rfl, is_bool d true, .bool true, fun h3 => absurd h3 (by decide)⟩
        · exact ⟨[102], rfl, is_bool d false, .bool false, fun h3 => absurd h3 (by decide)⟩
      rw [if_neg hc] at h
      by_cases hc : c = 115
      · rw [if_pos hc] at h
        subst hc
        simp only [Prod.mk.injEq] at h
        obtain ⟨rfl, rfl, ht⟩ := h
        obtain ⟨hnb, hx0, hrest, hql⟩ := bytes_inv _ _ r _ (show bytes (number ⟨s, false⟩ 58).2.2 (number ⟨s, false⟩ 58).1 = (_, ⟨r, false⟩) by rw [← ht])
        obtain ⟨_, x, r', hs, h0, h1, hn⟩ := number_inv ⟨s, false⟩ 58 hnb
        rw [hn] at hrest hql hx0 ⊢
        simp only at hrest hql hx0 hs ⊢
        have hxq : x = ((bytes ⟨r', false⟩ x).1.length : Int) := by omega
        refine ⟨str (bytes ⟨r', false⟩ x).1, ?_, is_str d _ (by omega), .str _, fun h3 => absurd h3 (by decide)⟩
        rw [hs]
        unfold str
        rw [← hxq]
        simp only [List.cons_append, List.append_assoc]
        rw [← hrest]
      rw [if_neg hc] at h
      by_cases hc : c = 91
      · rw [if_pos hc] at h
        subst hc
        obtain ⟨qs, t2, hr⟩ : ∃ qs t2, row (fun t => (value d t).2.2) 93 ⟨s, false⟩ = (qs, t2) := ⟨_, _, rfl⟩
        rw [hr] at h
        simp only [Prod.mk.injEq] at h
        obtain ⟨rfl, rfl, rfl⟩ := h
        obtain ⟨hs, _, hall⟩ := row_inv d ih 93 _ _ r hr
        simp only at hs
        exact ⟨list _, by rw [hs]; simp [list], is_list d _ hall, .list _, fun _ => ⟨d, rfl, hall⟩⟩
      rw [if_neg hc] at h
      by_cases hc : c = 123
      · rw [if_pos hc] at h
        subst hc
        obtain ⟨qs, t2, hr⟩ : ∃ qs t2, row (fun t => (value d t).2.2) 125 ⟨s, false⟩ = (qs, t2) := ⟨_, _, rfl⟩
        rw [hr] at h
        simp only [Prod.mk.injEq] at h
        obtain ⟨rfl, rfl, rfl⟩ := h
        obtain ⟨hs, _, hall⟩ := row_inv d ih 125 _ _ r hr
        simp only at hs
        exact ⟨struct _, by rw [hs]; simp [struct], is_struct d _ hall, .struct _, fun _ => ⟨d, rfl, hall⟩⟩
      · rw [if_neg hc] at h; simp at h

/-- A text is a value of these parts just if. -/
theorem parts_of_is {v : Txt} {k : Int} {ps : List Txt} (hl : v.length ≤ 65536) (h : Is 5 v k ps) : parts v = (k, ps, 0) := by
  have h0 := h []
  rw [List.append_nil] at h0
  unfold parts
  rw [if_neg (by omega), h0]
  simp
theorem is_of_parts {v : Txt} (h : (parts v).2.2 = 0) : v.length ≤ 65536 ∧ Is 5 v (parts v).1 (parts v).2.1 ∧ Made (parts v).1 (parts v).2.1 v ∧ (3 ≤ (parts v).1 → ∀ p ∈ (parts v).2.1, IsV 4 p) := by
  unfold parts at h ⊢
  split at h
  · simp at h
  · rename_i hl
    rw [if_neg hl]
    simp only at h ⊢
    split at h
    · simp at h
    · rename_i hb
      rw [if_neg hb]
      simp only at h ⊢
      obtain ⟨k, ps, ⟨s2, bad2⟩, hv⟩ : ∃ k ps t2, value 5 ⟨v, false⟩ = (k, ps, t2) := ⟨_, _, _, rfl⟩
      rw [hv] at hb ⊢
      simp only [not_or] at hb ⊢
      obtain ⟨hb1, hb2⟩ := hb
      obtain rfl : bad2 = false := by simpa using hb1
      obtain rfl : s2 = [] := Classical.not_not.1 hb2
      obtain ⟨V, hV, hIs, hM, h3⟩ := inv_all 5 v k ps [] hv
      rw [List.append_nil] at hV
      subst hV
      refine ⟨by omega, hIs, hM, fun hk => ?_⟩
      obtain ⟨d', hd, hp⟩ := h3 hk
      obtain rfl : d' = 4 := by omega
      exact hp
/-- No value: nothing of it is told. -/
theorem parts_bad {v : Txt} (h : (parts v).2.2 ≠ 0) : parts v = (0, [], 700) := by
  unfold parts at h ⊢
  split
  · rfl
  · rename_i hl
    rw [if_neg hl] at h
    simp only at h ⊢
    split
    · rfl
    · rename_i hb
      rw [if_neg hb] at h
      simp at h
theorem join_ge (vs : List Txt) (d : Nat) (h : ∀ p ∈ vs, IsV d p) : vs.length ≤ (join vs).length := by
  induction vs with
  | nil => simp
  | cons v vs ih =>
    obtain ⟨c, r, hv, _⟩ := isv_ne (h v (by simp))
    have := ih (fun p hp => h p (by simp [hp]))
    have e : (join (v :: vs)).length = v.length + (join vs).length := by simp [join]
    rw [e, hv, List.length_cons, List.length_cons]
    omega
theorem parts_many {v : Txt} (h : (parts v).2.2 = 0) (hk : 3 ≤ (parts v).1) : (parts v).2.1.length ≤ 140737488351232 := by
  obtain ⟨h1, h2, h3, h4⟩ := is_of_parts h
  have hj := join_ge _ 4 (h4 hk)
  have hm : (join (parts v).2.1).length ≤ v.length := by
    generalize (parts v).1 = k at h3 hk
    generalize (parts v).2.1 = ps at h3
    cases h3 with
    | null => simp at hk
    | int x h0 h1 => simp at hk
    | bool b => simp at hk
    | str s => simp at hk
    | list vs => simp [list]; omega
    | struct vs => simp [struct]; omega
  omega
theorem parts_err (v : Txt) : (parts v).2.2 = 0 ∨ (parts v).2.2 = 700 := by
  by_cases h : (parts v).2.2 = 0
  · exact .inl h
  · rw [parts_bad h]; simp
end Go.Proofs.YtlllflacnlgigaaDoor.Vp
