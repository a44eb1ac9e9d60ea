/- Arrays of the call's own memory. -/
import Derived.Test.YtlllflacnlgigaaGreatDoorMc12
import Derived.Test.YtlllflacnlgigaaGreatDoorMc18
import Derived.Test.YtlllflacnlgigaaGreatDoorMc2
namespace Go.Proofs.YtlllflacnlgigaaGreatDoor
open Go.RowKit
set_option linter.unusedVariables false
set_option linter.unusedSimpArgs false

mutual
/-- The kids' slice is a row of the call's own, and so are theirs, in blocks of which A holds; none is written over by a write to one above it. -/
def KidsOwn (w : World) : (Nat → Prop) → List Arr → Value → Prop
  | A, ks, k => ∃ cs : List Value, w.ownsRow 0 47 7 k ks.length cs ∧ (∀ g, k.ownBlock = some g → A g) ∧ CellsOwn w (fun g => A g ∧ k.ownBlock ≠ some g) ks cs
def CellsOwn (w : World) : (Nat → Prop) → List Arr → List Value → Prop
  | _, [], cs => cs = []
  | A, .mk l f n v e d ks :: r, cs => ∃ k rest, cs = .int .i64 l :: .int .i64 f :: .int .i64 n :: tv v :: tv e :: tv d :: k :: rest ∧ KidsOwn w A ks k ∧ CellsOwn w A r rest
end
def ArrOwn (w : World) (A : Nat → Prop) : Arr → Value → Prop
  | .mk l f n v e d ks, u => ∃ k, u = arrV l f n v e d k ∧ KidsOwn w A ks k

theorem own_same {w w' : World} {B n s : Nat} {e : TypeId} {v : Value} {xs : List Value} (h : w.ownsRow B e s v n xs) (hs : ∀ g, v.ownBlock = some g → (∃ cur, w.heap[g]? = some (.cells cur e (0, 0))) → w'.heap[g]? = w.heap[g]?) : w'.ownsRow B e s v n xs := by
  obtain ⟨h1, h2⟩ := h
  refine ⟨h1, h2.imp id ?_⟩
  rintro ⟨g, cap, cur, rfl, h4, h5, h6⟩
  exact ⟨g, cap, cur, rfl, h4, (hs g rfl ⟨cur, h5⟩).trans h5, h6⟩
mutual
theorem KidsOwn.same {w w' : World} : ∀ (ks : List Arr) (A : Nat → Prop) (k : Value), (∀ g, A g → (∃ cur, w.heap[g]? = some (.cells cur 47 (0, 0))) → w'.heap[g]? = w.heap[g]?) → KidsOwn w A ks k → KidsOwn w' A ks k
  | ks, A, k, hs, h => by
    rw [KidsOwn] at h ⊢
    obtain ⟨cs, h1, h2, h3⟩ := h
    exact ⟨cs, own_same h1 (fun g hg hc => hs g (h2 g hg) hc), h2, CellsOwn.same ks _ cs (fun g hg hc => hs g hg.1 hc) h3⟩
theorem CellsOwn.same {w w' : World} : ∀ (ks : List Arr) (A : Nat → Prop) (cs : List Value), (∀ g, A g → (∃ cur, w.heap[g]? = some (.cells cur 47 (0, 0))) → w'.heap[g]? = w.heap[g]?) → CellsOwn w A ks cs → CellsOwn w' A ks cs
  | [], A, cs, _, h => by rw [CellsOwn] at h ⊢; exact h
  | .mk l f n v e d ks :: r, A, cs, hs, h => by
    rw [CellsOwn] at h ⊢
    obtain ⟨k, rest, rfl, h1, h2⟩ := h
    exact ⟨k, rest, rfl, KidsOwn.same ks A k hs h1, CellsOwn.same r A rest hs h2⟩
end
mutual
theorem KidsOwn.weak {w : World} : ∀ (ks : List Arr) (A A' : Nat → Prop) (k : Value), (∀ g, A g → g < w.heap.size → A' g) → KidsOwn w A ks k → KidsOwn w A' ks k
  | ks, A, A', k, hs, h => by
    rw [KidsOwn] at h ⊢
    obtain ⟨cs, h1, h2, h3⟩ := h
    exact ⟨cs, h1, fun g hg => hs g (h2 g hg) (h1.lt g hg).2, CellsOwn.weak ks _ _ cs (fun g hg hc => ⟨hs g hg.1 hc, hg.2⟩) h3⟩
theorem CellsOwn.weak {w : World} : ∀ (ks : List Arr) (A A' : Nat → Prop) (cs : List Value), (∀ g, A g → g < w.heap.size → A' g) → CellsOwn w A ks cs → CellsOwn w A' ks cs
  | [], A, A', cs, _, h => by rw [CellsOwn] at h ⊢; exact h
  | .mk l f n v e d ks :: r, A, A', cs, hs, h => by
    rw [CellsOwn] at h ⊢
    obtain ⟨k, rest, rfl, h1, h2⟩ := h
    exact ⟨k, rest, rfl, KidsOwn.weak ks A A' k hs h1, CellsOwn.weak r A A' rest hs h2⟩
end
theorem KidsOwn.nil (w : World) (A : Nat → Prop) : KidsOwn w A [] (.slice none 0 0) := by
  rw [KidsOwn]
  exact ⟨[], ⟨rfl, .inl ⟨rfl, rfl⟩⟩, fun g hg => by simp [Value.ownBlock] at hg, by rw [CellsOwn]⟩
theorem KidsOwn.slice {w : World} {A : Nat → Prop} {ks : List Arr} {k : Value} (h : KidsOwn w A ks k) : ∃ a c, k = .slice a ks.length c := by
  rw [KidsOwn] at h
  obtain ⟨cs, h1, _⟩ := h
  exact own_sliceN h1
theorem CellsOwn.snoc {w : World} {l f n : Int} {v e d : Vp.Txt} {ys : List Arr} {k : Value} : ∀ (ks : List Arr) (A : Nat → Prop) (cs : List Value), CellsOwn w A ks cs → KidsOwn w A ys k → CellsOwn w A (ks ++ [.mk l f n v e d ys]) (cs ++ [.int .i64 l, .int .i64 f, .int .i64 n, tv v, tv e, tv d, k])
  | [], A, cs, h, hk => by
    rw [CellsOwn] at h
    subst h
    rw [List.nil_append, List.nil_append, CellsOwn]
    exact ⟨k, [], rfl, hk, by rw [CellsOwn]⟩
  | .mk l' f' n' v' e' d' ks' :: r, A, cs, h, hk => by
    rw [CellsOwn] at h
    obtain ⟨k', rest, rfl, h1, h2⟩ := h
    rw [List.cons_append, CellsOwn]
    exact ⟨k', rest ++ [.int .i64 l, .int .i64 f, .int .i64 n, tv v, tv e, tv d, k], rfl, h1, CellsOwn.snoc r A rest h2 hk⟩
/-- A kid more, behind an append onto the row. -/
theorem KidsOwn.snoc {w w' : World} {A : Nat → Prop} {ks ys : List Arr} {kv kv' k : Value} {cs : List Value} {l f n : Int} {v e d : Vp.Txt}
    (h1 : w.ownsRow 0 47 7 kv ks.length cs) (h3 : CellsOwn w (fun g => A g ∧ kv.ownBlock ≠ some g) ks cs)
    (hk : KidsOwn w (fun g => A g ∧ kv.ownBlock ≠ some g) ys k)
    (ho : w'.ownsRow 0 47 7 kv' (ks.length + 1) (cs ++ [.int .i64 l, .int .i64 f, .int .i64 n, tv v, tv e, tv d, k])) (hg : w.grownBy w' kv.ownBlock) (hb : kv'.ownBlock = kv.ownBlock ∨ ∃ g, kv'.ownBlock = some g ∧ w.heap.size ≤ g) (hA : ∀ g, kv'.ownBlock = some g → A g) :
    KidsOwn w' A (ks ++ [.mk l f n v e d ys]) kv' := by
  have h1' : ∀ g, (A g ∧ kv.ownBlock ≠ some g) → g < w.heap.size → ((A g ∧ kv.ownBlock ≠ some g) ∧ kv'.ownBlock ≠ some g) := fun g h hlt => ⟨h, fun e => by
    rcases hb with hb | ⟨g', hb, hle⟩
    · exact h.2 (hb.symm.trans e)
    · rw [hb] at e
      have := Option.some.inj e
      omega⟩
  have hsame : ∀ g, ((A g ∧ kv.ownBlock ≠ some g) ∧ kv'.ownBlock ≠ some g) → (∃ cur, w.heap[g]? = some (.cells cur 47 (0, 0))) → w'.heap[g]? = w.heap[g]? := fun g h hc => by
    obtain ⟨cur, hc⟩ := hc
    exact hg.block g (Array.getElem?_eq_some_iff.1 hc).1 (fun e => h.1.2 e.symm)
  have h2' : ∀ g, ((A g ∧ kv.ownBlock ≠ some g) ∧ kv'.ownBlock ≠ some g) → g < w'.heap.size → (A g ∧ kv'.ownBlock ≠ some g) := fun g h _ => ⟨h.1.1, h.2⟩
  rw [KidsOwn]
  exact ⟨_, by rw [List.length_append]; exact ho, hA, CellsOwn.snoc ks _ cs (CellsOwn.weak ks _ _ cs h2' (CellsOwn.same ks _ cs hsame (CellsOwn.weak ks _ _ cs h1' h3))) (KidsOwn.weak ys _ _ k h2' (KidsOwn.same ys _ k hsame (KidsOwn.weak ys _ _ k h1' hk)))⟩
/-- One kid in a literal. -/
theorem KidsOwn.one {w : World} {A : Nat → Prop} {ys : List Arr} {k : Value} {l f n : Int} {v e d : Vp.Txt} (hk : KidsOwn w (fun g => A g ∧ g < w.heap.size) ys k) (hA : A w.heap.size) :
    KidsOwn (w.alloc (.cells #[.int .i64 l, .int .i64 f, .int .i64 n, tv v, tv e, tv d, k] 47)) A [.mk l f n v e d ys] (.slice (some ⟨w.heap.size, 0, none⟩) 1 1) := by
  rw [KidsOwn]
  refine ⟨[.int .i64 l, .int .i64 f, .int .i64 n, tv v, tv e, tv d, k], own_litN w 0 _ 7 1 [.int .i64 l, .int .i64 f, .int .i64 n, tv v, tv e, tv d, k] (Nat.zero_le _) rfl (by decide), fun g hg => ?_, ?_⟩
  · have : w.heap.size = g := by simpa [Value.ownBlock] using hg
    rw [← this]; exact hA
  · rw [CellsOwn]
    refine ⟨k, [], rfl, ?_, by rw [CellsOwn]⟩
    refine KidsOwn.weak ys _ _ k (fun g hg _ => ⟨hg.1, fun e => ?_⟩) (KidsOwn.same ys _ k (fun g hg _ => Below.heap_alloc w _ g hg.2) hk)
    have : w.heap.size = g := by simpa [Value.ownBlock] using e
    have := hg.2
    omega
theorem KidsOwn.lt {w : World} {A : Nat → Prop} {ks : List Arr} {k : Value} (h : KidsOwn w A ks k) : KidsOwn w (fun g => A g ∧ g < w.heap.size) ks k := KidsOwn.weak ks _ _ k (fun g h1 h2 => ⟨h1, h2⟩) h

/-! Read as arrays. -/
theorem cells_cat (ks : List Arr) : ∀ (cs : List Value), (∃ w A, CellsOwn w A ks cs) → cs.length = ks.length * 7 := by
  induction ks with
  | nil => rintro cs ⟨w, A, h⟩; rw [CellsOwn] at h; subst h; rfl
  | cons a ks ih =>
    rintro cs ⟨w, A, h⟩
    obtain ⟨l, f, n, v, e, d, ys⟩ := a
    rw [CellsOwn] at h
    obtain ⟨k, rest, rfl, _, h2⟩ := h
    have := ih rest ⟨w, A, h2⟩
    simp only [List.length_cons]
    omega
mutual
theorem KidsOwn.at {w : World} : ∀ (ks : List Arr) (A : Nat → Prop) (k : Value), KidsOwn w A ks k → KidsAt w ks k
  | ks, A, k, h => by
    rw [KidsOwn] at h
    rw [KidsAt]
    obtain ⟨cs, h1, _, h3⟩ := h
    obtain ⟨hl, h2⟩ := h1
    rcases h2 with ⟨rfl, hx⟩ | ⟨g, cap, cur, rfl, _, hh, hnc, hm, hcs, htake⟩
    · exact ⟨none, 0, by rw [hx], by omega, by decide, fun hne => absurd (List.eq_nil_of_length_eq_zero hx) hne⟩
    · refine ⟨_, cap, rfl, hnc, hm, fun _ => ⟨g, 0, rfl, (Array.getElem?_eq_some_iff.1 hh).1, CellsOwn.at g 0 ks _ cs (fun j u hj => ?_) h3⟩⟩
      have hj2 := (List.getElem?_eq_some_iff.1 hj).1
      rw [Nat.zero_add]
      simp only [World.cell?, hh, Option.isSome_none, Bool.false_eq_true, if_false]
      rw [← Array.getElem?_toList]
      have h4 : (cur.toList.take (ks.length * 7))[j]? = some u := by rw [htake]; exact hj
      rw [List.getElem?_take] at h4
      split at h4
      · exact h4
      · cases h4
theorem CellsOwn.at {w : World} (g : Nat) : ∀ (o : Nat) (ks : List Arr) (A : Nat → Prop) (cs : List Value), (∀ (j : Nat) u, cs[j]? = some u → w.cell? ⟨g, o + j, none⟩ = some u) → CellsOwn w A ks cs → CellsAt w g o ks
  | o, [], A, cs, _, _ => by rw [CellsAt]; trivial
  | o, .mk l f n v e d ks :: r, A, cs, hc, h => by
    rw [CellsOwn] at h
    rw [CellsAt]
    obtain ⟨k, rest, rfl, h1, h2⟩ := h
    refine ⟨⟨hc 0 _ rfl, hc 1 _ rfl, hc 2 _ rfl, hc 3 _ rfl, hc 4 _ rfl, hc 5 _ rfl, k, hc 6 _ rfl, KidsOwn.at ks A k h1⟩, CellsOwn.at g (o + 7) r A rest (fun j u hj => ?_) h2⟩
    have := hc (j + 7) u (by simpa using hj)
    rwa [show o + (j + 7) = o + 7 + j by omega] at this
end
theorem ArrOwn.at {w : World} {A : Nat → Prop} {a : Arr} {u : Value} (h : ArrOwn w A a u) : ArrAt w a u := by
  obtain ⟨l, f, n, v, e, d, ks⟩ := a
  obtain ⟨k, rfl, hk⟩ := h
  exact ⟨k, rfl, hk.at⟩
theorem ArrOwn.same {w w' : World} {A : Nat → Prop} {a : Arr} {u : Value} (h : ArrOwn w A a u) (hs : ∀ g, A g → (∃ cur, w.heap[g]? = some (.cells cur 47 (0, 0))) → w'.heap[g]? = w.heap[g]?) : ArrOwn w' A a u := by
  obtain ⟨l, f, n, v, e, d, ks⟩ := a
  obtain ⟨k, rfl, hk⟩ := h
  exact ⟨k, rfl, KidsOwn.same ks A k hs hk⟩
theorem ArrOwn.weak {w : World} {A A' : Nat → Prop} {a : Arr} {u : Value} (h : ArrOwn w A a u) (hs : ∀ g, A g → g < w.heap.size → A' g) : ArrOwn w A' a u := by
  obtain ⟨l, f, n, v, e, d, ks⟩ := a
  obtain ⟨k, rfl, hk⟩ := h
  exact ⟨k, rfl, KidsOwn.weak ks A A' k hs hk⟩
theorem ArrOwn.below {w w' : World} {A : Nat → Prop} {a : Arr} {u : Value} (h : ArrOwn w A a u) (hb : Below w.heap.size w w') : ArrOwn w' A a u :=
  h.same fun g _ hc => by obtain ⟨cur, hc⟩ := hc; exact hb.block g (Array.getElem?_eq_some_iff.1 hc).1
theorem ArrOwn.value {w : World} {A : Nat → Prop} {a : Arr} {u : Value} (h : ArrOwn w A a u) : ∃ k ac cc, k = .slice ac a.kids.length cc ∧ u = arrV a.lay a.off a.len a.valid a.ends a.data k ∧ KidsOwn w A a.kids k := by
  obtain ⟨l, f, n, v, e, d, ks⟩ := a
  obtain ⟨k, rfl, hk⟩ := h
  obtain ⟨ac, cc, rfl⟩ := hk.slice
  exact ⟨_, ac, cc, rfl, rfl, hk⟩
end Go.Proofs.YtlllflacnlgigaaGreatDoor
