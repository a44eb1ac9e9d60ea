/- Several texts in one: BackR, Law10E, OpenS. -/
import Derived.Test.YtlllflacnlgigaaGreatDoorMb2
import Derived.Test.YtlllflacnlgigaaGreatDoorMb10
import Derived.Test.YtlllflacnlgigaaGreatDoorMb24
import Derived.Test.YtlllflacnlgigaaGreatDoorMb48
import Derived.Test.YtlllflacnlgigaaGreatDoorRows
import Derived.SliceStrings
import Derived.Deep.SlicePairs
import Derived.Deep.Strs
/- What is built can be read: Build's answer, in plain Lean. No program. -/
namespace Go.Proofs.YtlllflacnlgigaaGreatDoor
open Go.RowKit
set_option linter.unusedVariables false
set_option linter.unusedSimpArgs false

theorem buildR_none (ns : List Tp.Nd) (x : Int) (vs : List Vp.Txt) (h : (Vp.buildR ns x vs).2 ≠ 0) : (Vp.buildR ns x vs).1 = Arr.none := by
  unfold Vp.buildR at h ⊢
  split
  · rename_i hc
    rw [if_pos hc] at h
    split
    · rfl
    · rename_i hb
      rw [hb] at h
      exact absurd rfl h
  · rfl
/-- What is built can be read. -/
theorem buildR_ok (ns : List Tp.Nd) (x : Int) (vs : List Vp.Txt) (h : (Vp.buildR ns x vs).2 = 0) : Tp.node ns x = true ∧ (∀ v ∈ vs, Vp.Fit ns x.toNat v) ∧ Vp.build ns x.toNat vs = some (Vp.buildR ns x vs).1 := by
  unfold Vp.buildR at h ⊢
  split at h
  · rename_i hc
    rw [Bool.and_eq_true] at hc
    rw [if_pos (by rw [Bool.and_eq_true]; exact hc)]
    have hx : (x.toNat : Int) = x := by
      have := hc.1
      unfold Tp.node at this
      simp only [Bool.and_eq_true, decide_eq_true_eq] at this
      omega
    refine ⟨hc.1, (Vp.fitAll_iff ns x.toNat vs).1 (by rw [hx]; exact hc.2), ?_⟩
    split at h
    · exact absurd h (by decide)
    · rename_i a ha
      rw [ha]
  · exact absurd h (by decide)
theorem buildR_vals (ns : List Tp.Nd) (x : Int) (vs : List Vp.Txt) (h : (Vp.buildR ns x vs).2 = 0) : Vp.mayA ns (Vp.buildR ns x vs).1 x.toNat = true ∧ Vp.valsA ns (Vp.buildR ns x vs).1 x.toNat = vs ∧ (Vp.buildR ns x vs).1.len = vs.length := by
  obtain ⟨h1, h2, h3⟩ := buildR_ok ns x vs h
  have hx : (x.toNat : Int) = x := by
    unfold Tp.node at h1
    simp only [Bool.and_eq_true, decide_eq_true_eq] at h1
    omega
  obtain ⟨hm, hi⟩ := (Vp.node_of ns x.toNat).1 (by rw [hx]; exact h1)
  obtain ⟨g1, g2, g3, _, _⟩ := Vp.build_vals hm hi h2 h3
  exact ⟨g1, g2, g3⟩
theorem same_vals (ns : List Tp.Nd) (x : Int) (vs ws : List Vp.Txt) (h : (Vp.buildR ns x vs).2 = 0) (k : (Vp.buildR ns x ws).2 = 0) : Arr.same (Vp.buildR ns x vs).1 (Vp.buildR ns x ws).1 = (vs == ws) := by
  rw [Bool.eq_iff_iff, Arr.same_eq, beq_iff_eq]
  constructor
  · intro e
    rw [← (buildR_vals ns x vs h).2.1, ← (buildR_vals ns x ws k).2.1, e]
  · rintro rfl; rfl
end Go.Proofs.YtlllflacnlgigaaGreatDoor

/- Chapter 10: the walk of BuildBack. -/
namespace Go.Proofs.YtlllflacnlgigaaGreatDoor
open Go.RowKit
set_option linter.unusedVariables false
set_option linter.unusedSimpArgs false

theorem kids_nil (w : World) : KidsAt w [] (.slice none 0 0) := by
  rw [KidsAt]
  exact ⟨none, 0, rfl, Nat.le_refl _, by unfold maxLen; decide, fun h => absurd rfl h⟩
set_option maxRecDepth 100000 in
set_option maxHeartbeats 6400000 in
theorem buildBack_walk (v0 : Value) (a0 : List Tp.Nd) (a1 : Int) (v2 : Value) (a2 : List Vp.Txt) (W : World) (hv : Vars W)
    (w0 : ∃ u, v0 = typeV u ∧ NodesAt W u a0) (b0 : a0.length * 24 ≤ 140737488351232) (w1 : (Lit.int .i64 a1).wf = true) (w2 : TextsAt W v2 a2) (b2 : (∀ t ∈ a2, t.length ≤ 140737488351232) ∧ a2.length * 16 ≤ 140737488351232) :
    Calls Tryz.prog 5 #[v0, .int .i64 a1, v2] W fun e w' => e = .returned (.bool true) ∧ Below W.heap.size W w' := by
  obtain ⟨tu, rfl, hn⟩ := w0
  have hx1 : a1 ≤ 9223372036854775807 := (i64_le w1).2
  have hbox : Below W.heap.size W (W.alloc (.cells #[tu] 25)) := below_alloc (Below.refl _ _) _
  have hps : W.heap.size < (W.alloc (.cells #[tu] 25)).heap.size := by simp
  have C0 := heap_alloc_new W (.cells #[tu] 25)
  obtain ⟨W1, hW1⟩ : ∃ W1, W.alloc (.cells #[tu] 25) = W1 := ⟨_, rfl⟩
  rw [hW1] at hbox hps C0
  have HK := Lib.hid (fun n => buildR_none a0 a1 n)
  have HS := Lib.hid (fun h => buildR_vals a0 a1 a2 h)
  have HOK := Lib.hid (fun h => (buildR_ok a0 a1 a2 h).1)
  have HN := Lib.hid hn
  have H2 := Lib.hid w2
  have HB0 := Lib.hid hbox
  have B2 := Lib.hid b2
  clear hn w1 w2 b0 b2
  obtain ⟨r1, hr1⟩ : ∃ r, Vp.buildR a0 a1 a2 = r := ⟨_, rfl⟩
  rw [hr1] at HS HOK
  have N1 := Lib.hid (HK.out a2)
  rw [hr1] at N1
  have R1 := Lib.hid hr1
  obtain ⟨A1, e1⟩ := r1
  clear hr1 HK
  go_enter Tryz.func5, Tryz.ntmps5
  go_wp2_with (fail)
  refine (awake10_calls _ (hv.below HB0.out hv.six)).mono ?_; rintro e w2 ⟨rfl, HB⟩
  have HB2 := HB0.out.trans (HB.mono HB0.out.size)
  have C2 := (HB.block _ hps).trans C0
  have q2 := cell_of_one C2
  clear HB hW1 C0
  go_wp2_with (fail)
  refine (buildR_calls _ _ a0 a1 a2 _ (HN.out.below HB2) (H2.out.below HB2) (hv.below HB2 hv.six) hx1 B2.out.1 (by have := B2.out.2; omega)).mono ?_
  rw [R1.out]
  rintro e w3 ⟨u3, rfl, ho3, hb3⟩
  obtain ⟨k3, a3c, c3, rfl, rfl, hk3⟩ := ho3.value
  have HB3 := below_then HB2 hb3
  have C3 := (hb3.block _ (lt_of_block C2)).trans C2
  clear q2 hb3
  go_upto_region 4 with (fail)
  obtain ⟨cA, hcA⟩ : ∃ c : Array Value, #[.int .i64 A1.lay, .int .i64 A1.off, .int .i64 A1.len, .string ⟨A1.valid.toArray⟩, .string ⟨A1.ends.toArray⟩, .string ⟨A1.data.toArray⟩, .slice a3c A1.kids.length c3] = c := ⟨_, rfl⟩
  rw [hcA]
  have HB4 := below_alloc HB3 (.cells cA 47)
  have hb4 := below_alloc (Below.refl w3.heap.size w3) (.cells cA 47)
  have RA := heap_alloc_new w3 (.cells cA 47)
  have C4 := (hb4.block _ (lt_of_block C3)).trans C3
  have q4 := cell_of_one C4
  have HO3 := Lib.hid (ho3.below hb4)
  clear ho3 hk3 hb4 C3
  obtain ⟨w4, hw4⟩ : ∃ w4, w3.alloc (.cells cA 47) = w4 := ⟨_, rfl⟩
  rw [hw4] at HB4 RA C4 q4 HO3 ⊢
  clear hw4 HB3
  subst hcA
  obtain ⟨x0, x1, x2, x3, x4, x5, x6, _⟩ := zero_cells RA
  by_cases he1 : e1 = 0
  · subst he1
    obtain ⟨g1, g2, g3⟩ := HS.out rfl
    replace g1 : Vp.mayA a0 A1 a1.toNat = true := g1
    replace g2 : Vp.valsA a0 A1 a1.toNat = a2 := g2
    replace g3 : A1.len = a2.length := g3
    have hmx : mayX a0 A1 a1 = true := by unfold mayX; rw [HOK.out rfl, g1]; rfl
    have HRV := Lib.hid (fun w' (h : Below w4.heap.size w4 w') => refValues_calls a0 A1 a1 (arrV A1.lay A1.off A1.len A1.valid A1.ends A1.data (.slice a3c A1.kids.length c3)) tu w' (arrAt_below HO3.out.at h) (HN.out.below (below_then HB4 h)))
    rw [hmx, if_pos rfl, if_pos rfl, g2] at HRV
    have HG3 := Lib.hid g3
    clear g1 g2 g3 HS HOK N1 hmx
    go_wp2_with (go_at_call 11; refine (num_calls _ _).mono ?_; rintro e w' ⟨rfl, rfl⟩)
    refine (HRV.out _ (Below.refl _ _)).mono ?_; rintro e w7 ⟨r7, rfl, ht7, hb7⟩
    have HB7 := below_then HB4 hb7
    have RA7 := (hb7.block _ (lt_of_block RA)).trans RA
    clear x0 x1 x2 x3 x4 x5 x6 q4
    go_wp2_with (fail)
    refine (sameTexts_calls v2 r7 a2 a2 _ (H2.out.below HB7) ht7).mono ?_; rintro e w8 ⟨rfl, hb8⟩
    have HB8 := below_then HB7 hb8
    have RA8 := (hb8.block _ (lt_of_block RA7)).trans RA7
    rw [HG3.out] at RA8
    obtain ⟨x0, x1, x2, x3, x4, x5, x6, _⟩ := zero_cells RA8
    rw [show (a2 == a2) = true from beq_self_eq_true a2]
    obtain ⟨v2a, v2c, hv2, _⟩ := H2.out
    subst hv2
    go_wp2
    go_ret
    exact ⟨rfl, HB8⟩
  · have g2 : (e1 != 0) = true := bne_iff_ne.2 he1
    have hA1 : A1 = Arr.none := N1.out he1
    subst hA1
    clear HS N1 HOK
    go_wp2_with (go_at_call 11; refine (num_calls _ _).mono ?_; rintro e w' ⟨rfl, rfl⟩)
    refine (sameArray_calls Arr.none Arr.none _ _ _ HO3.out.at ⟨_, rfl, kids_nil _⟩).mono ?_; rintro e w7 ⟨rfl, hb7⟩
    rw [(Arr.same_eq Arr.none Arr.none).2 rfl]
    have HB7 := below_then HB4 hb7
    go_wp2
    go_ret
    exact ⟨rfl, HB7⟩
end Go.Proofs.YtlllflacnlgigaaGreatDoor

/- Arguments opened, with their size: a slice of texts, a type. -/
namespace Go.Proofs.YtlllflacnlgigaaGreatDoor
open Go.ChangeShapes Go.WideShapes Go.RowKit Go.Deep
set_option linter.unusedVariables false
set_option linter.unusedSimpArgs false

theorem spot_none2 {w : World} {a : Addr} {v : Value} (h : w.cell? a = some v) : a = ⟨a.block, a.off, none⟩ := by
  obtain ⟨b, o, s⟩ := a
  cases s with
  | none => rfl
  | some s => exfalso; unfold World.cell? at h; split at h <;> simp at h
theorem weights_strs {H : Type} {P : Program} {e : TypeId} (l : List ByteArray) : ∀ x ∈ l, x.data.toList.length ∈ DataW.weightsAll (H := H) P e (strs l) := by
  induction l with
  | nil => intro x hx; simp at hx
  | cons y l ih =>
    intro x hx
    have e' : strs (H := H) (y :: l) = .lit (.string y.data.toList) :: strs l := rfl
    rw [e', DataW.weightsAll, List.mem_append]
    rcases List.mem_cons.1 hx with rfl | hx
    · left; simp [DataW.weights]
    · right; exact ih x hx

set_option maxRecDepth 100000 in
theorem open_strs_sz {H : Type} {enc : TypeId × Value → H} {W : World} {b0 : Nat} {v : Value} {d : DataW H} {p : List MemPlace}
    (hval : Value.okWide Tryz.prog W .any b0 22 v) (h : DataW.Trod enc Tryz.prog W 0 (fun _ => true) true 22 v d p)
    (hw : ∀ n ∈ d.weights Tryz.prog 22, decide (n ≤ reachBytes) = true) :
    ∃ a, TextsAt W v a ∧ ((∀ t ∈ a, t.length ≤ 140737488351232) ∧ a.length * 16 ≤ 140737488351232) := by
  obtain ⟨a0, len, cap, rfl⟩ := okWide_slice Tryz.underlying22 hval
  obtain ⟨fuel, hf⟩ := h
  rcases open_strings Tryz.underlying22 Tryz.underlying9 (by kernel_rfl) hf with ⟨hcs, hx⟩ | ⟨a, len', cap', ss, hcs, _, hl, hm, hz, hx, hcell, hsz⟩
  · simp [Value.cells] at hcs
    obtain ⟨rfl, rfl, rfl⟩ := hcs
    exact ⟨[], ⟨none, 0, rfl, by simp, by simp, fun h => absurd rfl h⟩, by simp⟩
  · simp [Value.cells] at hcs
    obtain ⟨rfl, rfl, rfl⟩ := hcs
    simp only [if_true] at hz
    have hlen : ((ss.take len).map (·.data.toList)).length = len := by simp; omega
    refine ⟨(ss.take len).map (·.data.toList), ⟨some a, cap, by rw [hlen], by rw [hlen]; exact hl, hm, fun hne => ?_⟩, ?_⟩
    · have hpos : 0 < len := by
        rcases Nat.eq_zero_or_pos len with h0 | h0
        · exact absurd (by subst h0; simp) hne
        · exact h0
      have h0 := hcell 0 (by omega)
      rw [show a.add 0 = a from rfl] at h0
      have hs := spot_none2 h0
      refine ⟨a.block, a.off, by rw [← hs], cell_lt h0, fun j x hj => ?_⟩
      have hjl : j < len := by have := (List.getElem?_eq_some_iff.1 hj).1; rw [hlen] at this; exact this
      have hc := hcell j (by omega)
      rw [hs, add_off] at hc
      rw [hc]
      rw [List.getElem?_map, List.getElem?_take, if_pos hjl] at hj
      rw [List.getD_eq_getElem?_getD]
      cases hq : ss[j]? with
      | none => rw [hq] at hj; simp at hj
      | some s => rw [hq] at hj; obtain rfl := Option.some.inj hj; simp [tv]
    · obtain ⟨rfl, _⟩ := Prod.mk.inj hx
      simp only [DataW.weights, Tryz.underlying22] at hw
      have hb : Tryz.prog.bytesOf 9 = 16 := by kernel_rfl
      refine ⟨fun t ht => ?_, ?_⟩
      · obtain ⟨x, hx, rfl⟩ := List.mem_map.1 ht
        exact of_decide_eq_true (hw _ (List.mem_cons_of_mem _ (List.mem_append_left _ (weights_strs _ x hx))))
      · have h0 := of_decide_eq_true (hw _ List.mem_cons_self)
        rw [hb] at h0
        simp only [strs, List.length_map] at h0 ⊢
        unfold reachBytes at h0
        omega

instance inhNd2 : Inhabited Tp.Nd := ⟨⟨0, 0, false⟩⟩
set_option maxRecDepth 100000 in
theorem open_type_sz {H : Type} {enc : TypeId × Value → H} {W : World} {b0 : Nat} {v : Value} {d : DataW H} {p : List MemPlace}
    (hval : Value.okWide Tryz.prog W .any b0 25 v) (h : DataW.Trod enc Tryz.prog W 0 (fun _ => true) true 25 v d p)
    (hw : ∀ n ∈ d.weights Tryz.prog 25, decide (n ≤ reachBytes) = true) :
    ∃ ns, (∃ u, v = typeV u ∧ NodesAt W u ns) ∧ ns.length * 24 ≤ 140737488351232 := by
  obtain ⟨cs, rfl, hcs⟩ := okWide_struct Tryz.underlying25 hval
  have hc1 : cs.size = 1 := hcs.trans (by kernel_rfl)
  obtain ⟨u, rfl⟩ : ∃ u, cs = #[u] := Array.size_eq_one_iff.1 hc1
  obtain ⟨fuel, hf⟩ := h
  obtain ⟨y0, n, hx, _, h0⟩ := trod_struct1 Tryz.underlying25 hf
  have hone : Tryz.prog.cellsOf 23 = 1 := by kernel_rfl
  have h0' : DataW.trod enc Tryz.prog W 0 (fun _ => true) true n 23 [u] = some y0 := by
    have := h0
    simp only [hone] at this
    simpa [Value.cells] using this
  have hthree : Tryz.prog.cellsOf 67 = 3 := by kernel_rfl
  have hci : Tryz.prog.cellsOf 3 = 1 := by kernel_rfl
  have hcb : Tryz.prog.cellsOf 4 = 1 := by kernel_rfl
  rcases open_slice Tryz.underlying23 h0' with ⟨hcs2, hx2⟩ | ⟨a, len, cap, m, k, D, Pl, hcs2, _, hl, hm, hmm, hx2, hel⟩
  · obtain rfl : u = .slice none 0 0 := by simpa using hcs2
    exact ⟨[], ⟨_, rfl, none, 0, rfl, by simp, by simp, fun h => absurd rfl h⟩, by simp⟩
  · obtain rfl : u = .slice (some a) len cap := by simpa using hcs2
    simp only [if_true] at hmm
    subst hmm
    have each : ∀ i, i < len → ∃ nd : Tp.Nd, W.cell? (a.add (i * 3)) = some (.int .i64 nd.kind) ∧ W.cell? ((a.add (i * 3)).add 1) = some (.int .i64 nd.parent) ∧ W.cell? ((a.add (i * 3)).add 2) = some (.bool nd.null) := by
      intro i hi
      obtain ⟨cs', h1, h2⟩ := hel i (by omega)
      rw [hthree] at h1
      obtain ⟨_, hlen, hcell⟩ := World.cells?_some h1
      obtain ⟨z0, z1, z2, k2, _, hl3, q0, q1, q2⟩ := trod_struct3 Tryz.underlying67 h2
      simp only [hci, hcb] at q0 q1 q2
      obtain ⟨c0, c1, c2, rfl⟩ : ∃ c0 c1 c2, cs' = [c0, c1, c2] := by
        match cs', hlen with
        | [c0, c1, c2], _ => exact ⟨c0, c1, c2, rfl⟩
      have q0' : DataW.trod enc Tryz.prog W 0 (fun _ => true) true k2 3 [c0] = some z0 := by simpa using q0
      have q1' : DataW.trod enc Tryz.prog W 0 (fun _ => true) true k2 3 [c1] = some z1 := by simpa using q1
      have q2' : DataW.trod enc Tryz.prog W 0 (fun _ => true) true k2 4 [c2] = some z2 := by simpa using q2
      obtain ⟨x0, e0, _⟩ := DataW.trod_int Tryz.underlying3 q0'
      obtain ⟨x1, e1, _⟩ := DataW.trod_int Tryz.underlying3 q1'
      obtain ⟨x2, e2, _⟩ := DataW.trod_bool Tryz.underlying4 q2'
      obtain rfl : c0 = .int .i64 x0 := by simpa using e0
      obtain rfl : c1 = .int .i64 x1 := by simpa using e1
      obtain rfl : c2 = .bool x2 := by simpa using e2
      refine ⟨⟨x0, x1, x2⟩, ?_, ?_, ?_⟩
      · simpa [Addr.add] using hcell 0 (by omega)
      · simpa using hcell 1 (by omega)
      · simpa using hcell 2 (by omega)
    obtain ⟨f, hfn⟩ := choose_lt each
    refine ⟨(List.range len).map f, ⟨_, rfl, some a, m, by simp, by simpa using hl, hm, fun hne => ?_⟩, ?_⟩
    · have hpos : 0 < len := by
        rcases Nat.eq_zero_or_pos len with h0 | h0
        · exact absurd (by subst h0; simp) hne
        · exact h0
      have h0 := (hfn 0 hpos).1
      rw [Nat.zero_mul, show a.add 0 = a from rfl] at h0
      have hs := spot_none2 h0
      refine ⟨a.block, a.off, by rw [← hs], cell_lt h0, fun j x hj => ?_⟩
      have hjl : j < len := by have := (List.getElem?_eq_some_iff.1 hj).1; simpa using this
      rw [List.getElem?_map, List.getElem?_range hjl] at hj
      obtain rfl := Option.some.inj hj
      obtain ⟨g0, g1, g2⟩ := hfn j hjl
      rw [hs, add_off] at g0 g1 g2
      rw [add_off] at g1 g2
      exact ⟨g0, g1, g2⟩
    · obtain ⟨rfl, _⟩ := Prod.mk.inj hx
      have hb : Tryz.prog.bytesOf 67 = 24 := by kernel_rfl
      rw [hx2] at hw
      simp only [DataW.weights, Tryz.underlying25, DataW.weightsEach, List.toList_toArray, List.map_cons, List.map_nil, Tryz.underlying23] at hw
      have h0 := of_decide_eq_true (hw _ List.mem_cons_self)
      rw [hb] at h0
      simp only [List.length_map, List.length_range] at h0 ⊢
      unfold reachBytes at h0
      omega
end Go.Proofs.YtlllflacnlgigaaGreatDoor
