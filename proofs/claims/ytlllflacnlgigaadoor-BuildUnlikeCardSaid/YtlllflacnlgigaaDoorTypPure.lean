/- Types, in plain Lean. No program. -/
namespace Go.Proofs.YtlllflacnlgigaaDoor.Tp
set_option linter.unusedVariables false

structure Nd where
  kind : Int
  parent : Int
  null : Bool
  deriving DecidableEq, Inhabited

def inner (k : Int) : Bool := k == 3 || k == 4
def kindOf (ns : List Nd) (i : Nat) : Int := (ns.getD i default).kind
def parentOf (ns : List Nd) (i : Nat) : Int := (ns.getD i default).parent

def stands (ns : List Nd) (i : Nat) : Bool :=
  if i = 0 then parentOf ns i == -1 else decide (0 ≤ parentOf ns i) && (decide (parentOf ns i < i) && inner (kindOf ns (parentOf ns i).toNat))

def isKid (ns : List Nd) (p : Int) (i : Nat) : Bool := decide (0 < i) && parentOf ns i == p
def kidsTo (ns : List Nd) (p : Int) (n : Nat) : List Nat := (List.range n).filter (isKid ns p)
def kids (ns : List Nd) (p : Int) : List Nat := kidsTo ns p ns.length
theorem kidsTo_succ (ns : List Nd) (p : Int) (n : Nat) : kidsTo ns p (n + 1) = kidsTo ns p n ++ (if isKid ns p n then [n] else []) := by
  unfold kidsTo
  rw [List.range_succ, List.filter_append]
  simp only [List.filter_cons, List.filter_nil]

/-- The way up from a node, so many steps at most. -/
def way (ns : List Nd) : Nat → Int → List Int
  | 0, _ => []
  | n + 1, i => if 0 ≤ i then i :: way ns n (parentOf ns i.toNat) else []

def okOne (ns : List Nd) (i : Nat) : Bool := decide (0 ≤ kindOf ns i) && (decide (kindOf ns i ≤ 4) && stands ns i)
def okTwo (ns : List Nd) (i : Nat) : Bool :=
  !((kindOf ns i == 3 && (kids ns i).length != 1) || ((kindOf ns i == 4 && (kids ns i).length == 0) || decide (5 < (way ns (ns.length + 1) i).length)))
def may (ns : List Nd) : Bool := decide (ns ≠ [] ∧ ns.length ≤ 8) && ((List.range ns.length).all (okOne ns) && (List.range ns.length).all (okTwo ns))
def node (ns : List Nd) (at_ : Int) : Bool := may ns && decide (0 ≤ at_ ∧ at_ < ns.length)

/-- Where all stand, the way up is done after so many steps as the node's number and one. -/
theorem way_enough (ns : List Nd) (h : ∀ i, i < ns.length → stands ns i = true) : ∀ (i : Nat) (n : Nat), i < ns.length → i + 1 ≤ n → way ns n i = way ns (i + 1) i := by
  intro i
  induction i using Nat.strongRecOn with
  | ind i ih =>
    intro n hi hn
    obtain ⟨m, rfl⟩ : ∃ m, n = m + 1 := ⟨n - 1, by omega⟩
    have hs := h i hi
    have h0 : (0 : Int) ≤ (i : Int) := by omega
    simp only [way, if_pos h0, Int.toNat_natCast]
    unfold stands at hs
    split at hs
    · rename_i h00
      rw [beq_iff_eq] at hs
      rw [hs]
      have : ∀ n, way ns n (-1) = [] := fun n => by cases n <;> simp [way]
      rw [this, this]
    · rename_i h00
      simp only [Bool.and_eq_true, decide_eq_true_eq] at hs
      obtain ⟨q, hq⟩ := Int.eq_ofNat_of_zero_le hs.1
      rw [hq] at hs ⊢
      have hqi : q < i := by omega
      rw [ih q hqi m (by omega) (by omega), ih q hqi i (by omega) (by omega)]
theorem node_two (ns : List Nd) (m : Nat) (hm : m < ns.length) (hnd : node ns m = true) : okTwo ns m = true := by
  unfold node may at hnd
  simp only [Bool.and_eq_true] at hnd
  exact (List.all_eq_true.1 hnd.1.2.2) m (List.mem_range.2 hm)
theorem kids_one (ns : List Nd) (m : Nat) (hm : m < ns.length) (hnd : node ns m = true) (hk : kindOf ns m = 3) : ∃ k, kids ns m = [k] ∧ k ≤ 65536 := by
  have h := node_two ns m hm hnd
  unfold okTwo at h
  rw [hk] at h
  simp only [beq_self_eq_true, Bool.true_and, Bool.not_eq_true', Bool.or_eq_false_iff, bne_eq_false_iff_eq] at h
  obtain ⟨k, hk⟩ := List.length_eq_one_iff.1 h.1
  refine ⟨k, hk, ?_⟩
  have hmem : k ∈ kids ns m := by rw [hk]; simp
  unfold kids kidsTo at hmem
  have h1 := (List.mem_filter.1 hmem).1
  rw [List.mem_range] at h1
  unfold node may at hnd
  simp only [Bool.and_eq_true, decide_eq_true_eq] at hnd
  omega
end Go.Proofs.YtlllflacnlgigaaDoor.Tp
