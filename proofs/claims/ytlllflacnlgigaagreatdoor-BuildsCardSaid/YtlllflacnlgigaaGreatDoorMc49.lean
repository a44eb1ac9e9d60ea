/- Arguments opened, with their size: a slice of texts, a type. -/
import Derived.Test.YtlllflacnlgigaaGreatDoorMc11
import Derived.Test.YtlllflacnlgigaaGreatDoorRows
import Derived.SliceStrings
import Derived.Deep.SlicePairs
import Derived.Deep.Strs
namespace Go.Proofs.YtlllflacnlgigaaGreatDoor
open Go.ChangeShapes Go.WideShapes Go.RowKit Go.Deep
set_option linter.unusedVariables false
set_option linter.unusedSimpArgs false

theorem spot_none2 {w : World} {a : Addr} {v : Value} (h : w.cell? a = some v) : a = ⟨a.block, a.off, none⟩ := by
  obtain ⟨b, o, s⟩ := a
  cases s with
  | none => rfl
  | some s => exfalso; unfold World.cell? at h; split at h <;> simp at h
theorem weights_strs {H : Type} {P : Program} {e : TypeId} (l : List ByteArray) : ∀ x ∈ l, x.data.toList.length ∈ DataW.weightsAll (H := H) P e (strs l) := by
  induction l with
  | nil => intro x hx; simp at hx
  | cons y l ih =>
    intro x hx
    have e' : strs (H := H) (y :: l) = .lit (.string y.data.toList) :: strs l := rfl
    rw [e', DataW.weightsAll, List.mem_append]
    rcases List.mem_cons.1 hx with rfl | hx
    · left; simp [DataW.weights]
    · right; exact ih x hx

set_option maxRecDepth 100000 in
theorem open_strs_sz {H : Type} {enc : TypeId × Value → H} {W : World} {b0 : Nat} {v : Value} {d : DataW H} {p : List MemPlace}
    (hval : Value.okWide Tryz.prog W .any b0 22 v) (h : DataW.Trod enc Tryz.prog W 0 (fun _ => true) true 22 v d p)
    (hw : ∀ n ∈ d.weights Tryz.prog 22, decide (n ≤ reachBytes) = true) :
    ∃ a, TextsAt W v a ∧ ((∀ t ∈ a, t.length ≤ 140737488351232) ∧ a.length * 16 ≤ 140737488351232) := by
  obtain ⟨a0, len, cap, rfl⟩ := okWide_slice Tryz.underlying22 hval
  obtain ⟨fuel, hf⟩ := h
  rcases open_strings Tryz.underlying22 Tryz.underlying9 (by kernel_rfl) hf with ⟨hcs, hx⟩ | ⟨a, len', cap', ss, hcs, _, hl, hm, hz, hx, hcell, hsz⟩
  · simp [Value.cells] at hcs
    obtain ⟨rfl, rfl, rfl⟩ := hcs
    exact ⟨[], ⟨none, 0, rfl, by simp, by simp, fun h => absurd rfl h⟩, by simp⟩
  · simp [Value.cells] at hcs
    obtain ⟨rfl, rfl, rfl⟩ := hcs
    simp only [if_true] at hz
    have hlen : ((ss.take len).map (·.data.toList)).length = len := by simp; omega
    refine ⟨(ss.take len).map (·.data.toList), ⟨some a, cap, by rw [hlen], by rw [hlen]; exact hl, hm, fun hne => ?_⟩, ?_⟩
    · have hpos : 0 < len := by
        rcases Nat.eq_zero_or_pos len with h0 | h0
        · exact absurd (by subst h0; simp) hne
        · exact h0
      have h0 := hcell 0 (by omega)
      rw [show a.add 0 = a from rfl] at h0
      have hs := spot_none2 h0
      refine ⟨a.block, a.off, by rw [← hs], cell_lt h0, fun j x hj => ?_⟩
      have hjl : j < len := by have := (List.getElem?_eq_some_iff.1 hj).1; rw [hlen] at this; exact this
      have hc := hcell j (by omega)
      rw [hs, add_off] at hc
      rw [hc]
      rw [List.getElem?_map, List.getElem?_take, if_pos hjl] at hj
      rw [List.getD_eq_getElem?_getD]
      cases hq : ss[j]? with
      | none => rw [hq] at hj; simp at hj
      | some s => rw [hq] at hj; obtain rfl := Option.some.inj hj; simp [tv]
    · obtain ⟨rfl, _⟩ := Prod.mk.inj hx
      simp only [DataW.weights, Tryz.underlying22] at hw
      have hb : Tryz.prog.bytesOf 9 = 16 := by kernel_rfl
      refine ⟨fun t ht => ?_, ?_⟩
      · obtain ⟨x, hx, rfl⟩ := List.mem_map.1 ht
        exact of_decide_eq_true (hw _ (List.mem_cons_of_mem _ (List.mem_append_left _ (weights_strs _ x hx))))
      · have h0 := of_decide_eq_true (hw _ List.mem_cons_self)
        rw [hb] at h0
        simp only [strs, List.length_map] at h0 ⊢
        unfold reachBytes at h0
        omega

instance inhNd2 : Inhabited Tp.Nd := ⟨⟨0, 0, false⟩⟩
set_option maxRecDepth 100000 in
theorem open_type_sz {H : Type} {enc : TypeId × Value → H} {W : World} {b0 : Nat} {v : Value} {d : DataW H} {p : List MemPlace}
    (hval : Value.okWide Tryz.prog W .any b0 25 v) (h : DataW.Trod enc Tryz.prog W 0 (fun _ => true) true 25 v d p)
    (hw : ∀ n ∈ d.weights Tryz.prog 25, decide (n ≤ reachBytes) = true) :
    ∃ ns, (∃ u, v = typeV u ∧ NodesAt W u ns) ∧ ns.length * 24 ≤ 140737488351232 := by
  obtain ⟨cs, rfl, hcs⟩ := okWide_struct Tryz.underlying25 hval
  have hc1 : cs.size = 1 := hcs.trans (by kernel_rfl)
  obtain ⟨u, rfl⟩ : ∃ u, cs = #[u] := Array.size_eq_one_iff.1 hc1
  obtain ⟨fuel, hf⟩ := h
  obtain ⟨y0, n, hx, _, h0⟩ := trod_struct1 Tryz.underlying25 hf
  have hone : Tryz.prog.cellsOf 23 = 1 := by kernel_rfl
  have h0' : DataW.trod enc Tryz.prog W 0 (fun _ => true) true n 23 [u] = some y0 := by
    have := h0
    simp only [hone] at this
    simpa [Value.cells] using this
  have hthree : Tryz.prog.cellsOf 67 = 3 := by kernel_rfl
  have hci : Tryz.prog.cellsOf 3 = 1 := by kernel_rfl
  have hcb : Tryz.prog.cellsOf 4 = 1 := by kernel_rfl
  rcases open_slice Tryz.underlying23 h0' with ⟨hcs2, hx2⟩ | ⟨a, len, cap, m, k, D, Pl, hcs2, _, hl, hm, hmm, hx2, hel⟩
  · obtain rfl : u = .slice none 0 0 := by simpa using hcs2
    exact ⟨[], ⟨_, rfl, none, 0, rfl, by simp, by simp, fun h => absurd rfl h⟩, by simp⟩
  · obtain rfl : u = .slice (some a) len cap := by simpa using hcs2
    simp only [if_true] at hmm
    subst hmm
    have each : ∀ i, i < len → ∃ nd : Tp.Nd, W.cell? (a.add (i * 3)) = some (.int .i64 nd.kind) ∧ W.cell? ((a.add (i * 3)).add 1) = some (.int .i64 nd.parent) ∧ W.cell? ((a.add (i * 3)).add 2) = some (.bool nd.null) := by
      intro i hi
      obtain ⟨cs', h1, h2⟩ := hel i (by omega)
      rw [hthree] at h1
      obtain ⟨_, hlen, hcell⟩ := World.cells?_some h1
      obtain ⟨z0, z1, z2, k2, _, hl3, q0, q1, q2⟩ := trod_struct3 Tryz.underlying67 h2
      simp only [hci, hcb] at q0 q1 q2
      obtain ⟨c0, c1, c2, rfl⟩ : ∃ c0 c1 c2, cs' = [c0, c1, c2] := by
        match cs', hlen with
        | [c0, c1, c2], _ => exact ⟨c0, c1, c2, rfl⟩
      have q0' : DataW.trod enc Tryz.prog W 0 (fun _ => true) true k2 3 [c0] = some z0 := by simpa using q0
      have q1' : DataW.trod enc Tryz.prog W 0 (fun _ => true) true k2 3 [c1] = some z1 := by simpa using q1
      have q2' : DataW.trod enc Tryz.prog W 0 (fun _ => true) true k2 4 [c2] = some z2 := by simpa using q2
      obtain ⟨x0, e0, _⟩ := DataW.trod_int Tryz.underlying3 q0'
      obtain ⟨x1, e1, _⟩ := DataW.trod_int Tryz.underlying3 q1'
      obtain ⟨x2, e2, _⟩ := DataW.trod_bool Tryz.underlying4 q2'
      obtain rfl : c0 = .int .i64 x0 := by simpa using e0
      obtain rfl : c1 = .int .i64 x1 := by simpa using e1
      obtain rfl : c2 = .bool x2 := by simpa using e2
      refine ⟨⟨x0, x1, x2⟩, ?_, ?_, ?_⟩
      · simpa [Addr.add] using hcell 0 (by omega)
      · simpa using hcell 1 (by omega)
      · simpa using hcell 2 (by omega)
    obtain ⟨f, hfn⟩ := choose_lt each
    refine ⟨(List.range len).map f, ⟨_, rfl, some a, m, by simp, by simpa using hl, hm, fun hne => ?_⟩, ?_⟩
    · have hpos : 0 < len := by
        rcases Nat.eq_zero_or_pos len with h0 | h0
        · exact absurd (by subst h0; simp) hne
        · exact h0
      have h0 := (hfn 0 hpos).1
      rw [Nat.zero_mul, show a.add 0 = a from rfl] at h0
      have hs := spot_none2 h0
      refine ⟨a.block, a.off, by rw [← hs], cell_lt h0, fun j x hj => ?_⟩
      have hjl : j < len := by have := (List.getElem?_eq_some_iff.1 hj).1; simpa using this
      rw [List.getElem?_map, List.getElem?_range hjl] at hj
      obtain rfl := Option.some.inj hj
      obtain ⟨g0, g1, g2⟩ := hfn j hjl
      rw [hs, add_off] at g0 g1 g2
      rw [add_off] at g1 g2
      exact ⟨g0, g1, g2⟩
    · obtain ⟨rfl, _⟩ := Prod.mk.inj hx
      have hb : Tryz.prog.bytesOf 67 = 24 := by kernel_rfl
      rw [hx2] at hw
      simp only [DataW.weights, Tryz.underlying25, DataW.weightsEach, List.toList_toArray, List.map_cons, List.map_nil, Tryz.underlying23] at hw
      have h0 := of_decide_eq_true (hw _ List.mem_cons_self)
      rw [hb] at h0
      simp only [List.length_map, List.length_range] at h0 ⊢
      unfold reachBytes at h0
      omega
end Go.Proofs.YtlllflacnlgigaaGreatDoor
