/- Several texts in one: OpenA, Spoil. -/
import Derived.Test.YtobhjlchpnpleaaGreatDoorCa44
import Derived.Test.YtobhjlchpnpleaaGreatDoorCa7
import Derived.Test.YtobhjlchpnpleaaGreatDoorCa2
import Derived.Test.YtobhjlchpnpleaaGreatDoorCa22
/- Arguments opened, with their size: an array. -/
namespace Go.Proofs.YtobhjlchpnpleaaGreatDoor
open Go.ChangeShapes Go.WideShapes Go.RowKit Go.Deep
set_option linter.unusedVariables false
set_option linter.unusedSimpArgs false

theorem mem_weights {H : Type} {P : Program} {e : TypeId} (l : List (DataW H)) : ∀ d ∈ l, ∀ n ∈ d.weights P e, n ∈ DataW.weightsAll P e l := by
 induction l with
 | nil => intro d hd; cases hd
 | cons y l ih =>
  intro d hd n hn
  rw [DataW.weightsAll, List.mem_append]
  rcases List.mem_cons.1 hd with rfl | hd
  ·exact .inl hn
  ·exact .inr (ih d hd n hn)
instance inhArr : Inhabited Arr := ⟨Arr.none⟩
theorem size_mem {H : Type} (l : List (DataW H)) : ∀ d ∈ l, SizeOf.sizeOf d < SizeOf.sizeOf l := fun d hd => List.sizeOf_lt_of_mem hd
/-- An array's cells and kids at a place. -/
def ArrCell (w : World) (bk o : Nat) (y : Arr) : Prop := ∃ l f n v e d ks k, y = .mk l f n v e d ks ∧ (w.cell? ⟨bk, o, none⟩ = some (.int .i64 l) ∧ w.cell? ⟨bk, o + 1, none⟩ = some (.int .i64 f) ∧ w.cell? ⟨bk, o + 2, none⟩ = some (.int .i64 n) ∧
 w.cell? ⟨bk, o + 3, none⟩ = some (tv v) ∧ w.cell? ⟨bk, o + 4, none⟩ = some (tv e) ∧ w.cell? ⟨bk, o + 5, none⟩ = some (tv d) ∧ w.cell? ⟨bk, o + 6, none⟩ = some k) ∧ KidsAt w ks k
theorem cellsAt_of {w : World} {bk : Nat} : ∀ (ys : List Arr) (o : Nat), (∀ j y, ys[j]? = some y → ArrCell w bk (o + j * 7) y) → CellsAt w bk o ys
 | [], o, h => by rw [CellsAt]; trivial
 | y :: r, o, h => by
  obtain ⟨l, f, n, v, e, d, ks, k, rfl, ⟨c0, c1, c2, c3, c4, c5, c6⟩, hk⟩ := h 0 y rfl
  rw [CellsAt]
  simp only [Nat.zero_mul, Nat.add_zero] at c0 c1 c2 c3 c4 c5 c6
  refine ⟨⟨c0, c1, c2, c3, c4, c5, k, c6, hk⟩, cellsAt_of r (o + 7) fun j y hj => ?_⟩
  have := h (j + 1) y (by simpa using hj)
  rwa [show o + (j + 1) * 7 = o + 7 + j * 7 by omega] at this
set_option maxRecDepth 100000 in
set_option maxHeartbeats 1600000 in
theorem open_arr_n {H : Type} {enc : TypeId × Value → H} {W : World} : ∀ (N : Nat) (fuel : Nat) (cs : List Value) (x : DataW H × List MemPlace), SizeOf.sizeOf x.1 < N →
  DataW.trod enc Tryz.prog W 0 (fun _ => true) true fuel 27 cs = some x → (∀ n ∈ x.1.weights Tryz.prog 27, decide (n ≤ reachBytes) = true) →
  ∃ (l f n : Int) (v e d : Vp.Txt) (ks : List Arr) (k : Value), cs = [.int .i64 l, .int .i64 f, .int .i64 n, tv v, tv e, tv d, k] ∧ KidsAt W ks k ∧ SizedA (.mk l f n v e d ks) := by
 intro N
 induction N with
 | zero => intro fuel cs x h; exact absurd h (Nat.not_lt_zero _)
 | succ N ih =>
  intro fuel cs x hsz ht hw
  obtain ⟨xs, n, _, rfl, hl, hlen, hf⟩ := DataW.trod_struct Tryz.underlying27 ht
  match xs, hlen with
  | [z0, z1, z2, z3, z4, z5, z6], _ => ?_
  have hc7 : Tryz.prog.cellsOf 27 = 7 := by kernel_rfl
  have hci : Tryz.prog.cellsOf 3 = 1 := by kernel_rfl
  have hcs : Tryz.prog.cellsOf 9 = 1 := by kernel_rfl
  have hck : Tryz.prog.cellsOf 25 = 1 := by kernel_rfl
  rw [hc7] at hl
  match cs, hl with
  | [c0, c1, c2, c3, c4, c5, c6], _ => ?_
  have q0 : DataW.trod enc Tryz.prog W 0 (fun _ => true) true n 3 [c0] = some z0 := by simpa [hci] using hf 0 _ rfl
  have q1 : DataW.trod enc Tryz.prog W 0 (fun _ => true) true n 3 [c1] = some z1 := by simpa [hci] using hf 1 _ rfl
  have q2 : DataW.trod enc Tryz.prog W 0 (fun _ => true) true n 3 [c2] = some z2 := by simpa [hci] using hf 2 _ rfl
  have q3 : DataW.trod enc Tryz.prog W 0 (fun _ => true) true n 9 [c3] = some z3 := by simpa [hcs] using hf 3 _ rfl
  have q4 : DataW.trod enc Tryz.prog W 0 (fun _ => true) true n 9 [c4] = some z4 := by simpa [hcs] using hf 4 _ rfl
  have q5 : DataW.trod enc Tryz.prog W 0 (fun _ => true) true n 9 [c5] = some z5 := by simpa [hcs] using hf 5 _ rfl
  have q6 : DataW.trod enc Tryz.prog W 0 (fun _ => true) true n 25 [c6] = some z6 := by simpa [hck] using hf 6 _ rfl
  obtain ⟨l, e0, _⟩ := DataW.trod_int Tryz.underlying3 q0
  obtain ⟨f, e1, _⟩ := DataW.trod_int Tryz.underlying3 q1
  obtain ⟨m, e2, _⟩ := DataW.trod_int Tryz.underlying3 q2
  obtain ⟨v, e3, _⟩ := DataW.trod_string Tryz.underlying9 q3
  obtain ⟨e, e4, _⟩ := DataW.trod_string Tryz.underlying9 q4
  obtain ⟨d, e5, _⟩ := DataW.trod_string Tryz.underlying9 q5
  obtain rfl : c0 = .int .i64 l := by simpa using e0
  obtain rfl : c1 = .int .i64 f := by simpa using e1
  obtain rfl : c2 = .int .i64 m := by simpa using e2
  obtain rfl : c3 = .string v := by simpa using e3
  obtain rfl : c4 = .string e := by simpa using e4
  obtain rfl : c5 = .string d := by simpa using e5
  have htv : ∀ s : ByteArray, Value.string s = tv s.data.toList := fun s => by simp [tv]
  have hz6 : SizeOf.sizeOf z6.1 < N := by
   have : SizeOf.sizeOf (DataW.agg ([z0, z1, z2, z3, z4, z5, z6].map (·.1))) < N + 1 := hsz
   have h2 := size_mem ([z0, z1, z2, z3, z4, z5, z6].map (·.1)) z6.1 (by simp)
   simp only [DataW.agg.sizeOf_spec] at this
   omega
  have hw6 : ∀ n ∈ z6.1.weights Tryz.prog 25, decide (n ≤ reachBytes) = true := fun n hn => hw n (by
   simp only [DataW.weights, Tryz.underlying27, DataW.weightsEach, List.toList_toArray, List.map_cons, List.map_nil, List.mem_append]
   simp [hn])
  rcases open_slice Tryz.underlying25 q6 with ⟨hcs2, hx2⟩ | ⟨a, len, cap, mm, k, D, Pl, hcs2, _, hl2, hm2, hmm, hx2, hel⟩
  ·obtain rfl : c6 = .slice none 0 0 := by simpa using hcs2
   refine ⟨l, f, m, v.data.toList, e.data.toList, d.data.toList, [], .slice none 0 0, by rw [htv, htv, htv], ?_, ?_⟩
   ·rw [KidsAt]
    exact ⟨none, 0, rfl, Nat.le_refl _, by decide, fun h => absurd rfl h⟩
   ·rw [SizedA, SizedAll]
    exact ⟨by decide, trivial⟩
  ·obtain rfl : c6 = .slice (some a) len cap := by simpa using hcs2
   simp only [if_true] at hmm
   subst hmm
   have hz6e : z6.1 = .slice ((List.range len).map D) ((List.range (mm - len)).map fun j => D (len + j)) := by rw [hx2]
   have each : ∀ i, i < len → ∃ y : Arr, (∃ l f n v e d ks k, y = .mk l f n v e d ks ∧ W.cells? 0 (a.add (i * 7)) 7 = some [.int .i64 l, .int .i64 f, .int .i64 n, tv v, tv e, tv d, k] ∧ KidsAt W ks k) ∧ SizedA y := by
    intro i hi
    obtain ⟨cs', h1, h2⟩ := hel i (by omega)
    rw [hc7] at h1
    have hDi : SizeOf.sizeOf (D i) < SizeOf.sizeOf z6.1 := by
     rw [hz6e]
     have := size_mem ((List.range len).map D) (D i) (List.mem_map.2 ⟨i, List.mem_range.2 hi, rfl⟩)
     simp only [DataW.slice.sizeOf_spec]
     omega
    obtain ⟨l', f', n', v', e', d', ks', k', rfl, hk', hs'⟩ := ih k cs' (D i, Pl i) (by show SizeOf.sizeOf (D i) < N; omega) h2 (fun n hn => hw6 n (by
     rw [hz6e]
     simp only [DataW.weights, Tryz.underlying25]
     refine List.mem_cons_of_mem _ (List.mem_append_left _ ?_)
     exact mem_weights _ (D i) (List.mem_map.2 ⟨i, List.mem_range.2 hi, rfl⟩) n hn))
    exact ⟨_, ⟨l', f', n', v', e', d', ks', k', rfl, h1, hk'⟩, hs'⟩
   have each2 : ∀ i, i < len → ∃ y : Arr, (W.cell? (a.add (i * 7)) ≠ none ∧ (a = ⟨a.block, a.off, none⟩ → ArrCell W a.block (a.off + i * 7) y)) ∧ SizedA y := by
    intro i hi
    obtain ⟨y, ⟨l', f', n', v', e', d', ks', k', rfl, h1, hk'⟩, hs'⟩ := each i hi
    obtain ⟨_, hlen', hcell⟩ := World.cells?_some h1
    have d0 : W.cell? (a.add (i * 7)) = some (.int .i64 l') := by simpa [Addr.add] using hcell 0 (by simp)
    have d1 : W.cell? ((a.add (i * 7)).add 1) = some (.int .i64 f') := by simpa using hcell 1 (by simp)
    have d2 : W.cell? ((a.add (i * 7)).add 2) = some (.int .i64 n') := by simpa using hcell 2 (by simp)
    have d3 : W.cell? ((a.add (i * 7)).add 3) = some (tv v') := by simpa using hcell 3 (by simp)
    have d4 : W.cell? ((a.add (i * 7)).add 4) = some (tv e') := by simpa using hcell 4 (by simp)
    have d5 : W.cell? ((a.add (i * 7)).add 5) = some (tv d') := by simpa using hcell 5 (by simp)
    have d6 : W.cell? ((a.add (i * 7)).add 6) = some k' := by simpa using hcell 6 (by simp)
    refine ⟨_, ⟨(by rw [d0]; exact Option.some_ne_none _), fun hs => ?_⟩, hs'⟩
    rw [hs, add_off] at d0 d1 d2 d3 d4 d5 d6
    rw [add_off] at d1 d2 d3 d4 d5 d6
    exact ⟨l', f', n', v', e', d', ks', k', rfl, ⟨d0, d1, d2, d3, d4, d5, d6⟩, hk'⟩
   obtain ⟨g, hg⟩ := choose_lt each2
   refine ⟨l, f, m, v.data.toList, e.data.toList, d.data.toList, (List.range len).map g, .slice (some a) len mm, by rw [htv, htv, htv], ?_, ?_⟩
   ·rw [KidsAt]
    refine ⟨some a, mm, by simp, by simpa using hl2, hm2, fun hne => ?_⟩
    have hpos : 0 < len := by
     rcases Nat.eq_zero_or_pos len with h0 | h0
     ·exact absurd (by subst h0; simp) hne
     ·exact h0
    have h0 := (hg 0 hpos).1.1
    rw [Nat.zero_mul, show a.add 0 = a from rfl] at h0
    obtain ⟨v0, hv0⟩ := Option.ne_none_iff_exists'.1 h0
    have hs := spot_none2 hv0
    refine ⟨a.block, a.off, by rw [← hs], cell_lt hv0, cellsAt_of _ _ fun j y hj => ?_⟩
    have hjl : j < len := by have := (List.getElem?_eq_some_iff.1 hj).1; simpa using this
    rw [List.getElem?_map, List.getElem?_range hjl] at hj
    obtain rfl := Option.some.inj hj
    exact (hg j hjl).1.2 hs
   ·rw [SizedA]
    refine ⟨?_, sizedAll_of _ fun y hy => ?_⟩
    ·have hb : Tryz.prog.bytesOf 27 = 96 := by kernel_rfl
     have h0 := of_decide_eq_true (hw6 ((len + (mm - len)) * 96) (by
      rw [hz6e]
      simp only [DataW.weights, Tryz.underlying25]
      rw [hb]
      simp))
     simp only [List.length_map, List.length_range]
     unfold reachBytes at h0
     omega
    ·obtain ⟨j, hj, rfl⟩ := List.mem_map.1 hy
     exact (hg j (List.mem_range.1 hj)).2
set_option maxRecDepth 100000 in
theorem open_array_sz {H : Type} {enc : TypeId × Value → H} {W : World} {b0 : Nat} {v : Value} {d : DataW H} {p : List MemPlace}
  (hval : Value.okWide Tryz.prog W .any b0 27 v) (h : DataW.Trod enc Tryz.prog W 0 (fun _ => true) true 27 v d p)
  (hw : ∀ n ∈ d.weights Tryz.prog 27, decide (n ≤ reachBytes) = true) : ∃ a, ArrAt W a v ∧ SizedA a := by
 obtain ⟨cs, rfl, hcs⟩ := okWide_struct Tryz.underlying27 hval
 obtain ⟨fuel, hf⟩ := h
 obtain ⟨l, f, n, va, e, da, ks, k, hc, hk, hs⟩ := open_arr_n _ fuel _ (d, p) (Nat.lt_succ_self _) hf hw
 refine ⟨.mk l f n va e da ks, ⟨k, ?_, hk⟩, hs⟩
 have : cs = #[.int .i64 l, .int .i64 f, .int .i64 n, tv va, tv e, tv da, k] := by
  have h2 : cs.toList = [.int .i64 l, .int .i64 f, .int .i64 n, tv va, tv e, tv da, k] := by simpa [Value.cells] using hc
  rw [← Array.toArray_toList (xs := cs), h2]
 rw [this]
end Go.Proofs.YtobhjlchpnpleaaGreatDoor

/- quiverlaw0's SpoilArray, walked: what it may write. -/
namespace Go.Proofs.YtobhjlchpnpleaaGreatDoor
open Go.RowKit
set_option linter.unusedVariables false
set_option linter.unusedSimpArgs false

mutual
/-- The kids' slice and theirs, where their lengths may be any. -/
def KidsShp (w : World) (B : Nat) : List Arr → Value → Prop
 | ks, k => ∃ cs : List Value, w.ownsRow B 27 7 k ks.length cs ∧ CellsShp w B ks cs
def CellsShp (w : World) (B : Nat) : List Arr → List Value → Prop
 | [], cs => cs = []
 | .mk l f _ v e d ks :: r, cs => ∃ (n : Int) (k : Value) (rest : List Value), cs = .int .i64 l :: .int .i64 f :: .int .i64 n :: tv v :: tv e :: tv d :: k :: rest ∧ KidsShp w B ks k ∧ CellsShp w B r rest
end
theorem own_up {w : World} {b B n s : Nat} {e : TypeId} {v : Value} {xs : List Value} (h : w.ownsRow b e s v n xs) (hB : ∀ g, v.ownBlock = some g → B ≤ g) : w.ownsRow B e s v n xs := by
 obtain ⟨h1, h2⟩ := h
 refine ⟨h1, h2.imp id ?_⟩
 rintro ⟨g, cap, cur, rfl, h4, h5⟩
 exact ⟨g, cap, cur, rfl, hB g rfl, h5⟩
mutual
theorem KidsOwn.shp {w : World} {B : Nat} : ∀ (ks : List Arr) (A : Nat → Prop) (k : Value), (∀ g, A g → B ≤ g) → KidsOwn w A ks k → KidsShp w B ks k
 | ks, A, k, hA, h => by
  rw [KidsOwn] at h
  rw [KidsShp]
  obtain ⟨cs, h1, h2, h3⟩ := h
  exact ⟨cs, own_up h1 (fun g hg => hA g (h2 g hg)), CellsOwn.shp ks _ cs (fun g hg => hA g hg.1) h3⟩
theorem CellsOwn.shp {w : World} {B : Nat} : ∀ (ks : List Arr) (A : Nat → Prop) (cs : List Value), (∀ g, A g → B ≤ g) → CellsOwn w A ks cs → CellsShp w B ks cs
 | [], A, cs, _, h => by rw [CellsOwn] at h; rw [CellsShp]; exact h
 | .mk l f n v e d ks :: r, A, cs, hA, h => by
  rw [CellsOwn] at h
  rw [CellsShp]
  obtain ⟨k, rest, rfl, h1, h2⟩ := h
  exact ⟨n, k, rest, rfl, KidsOwn.shp ks A k hA h1, CellsOwn.shp r A rest hA h2⟩
end
/-- Cells that are alike but for lengths. -/
def Like (cs cs' : List Value) : Prop := cs'.length = cs.length ∧ ∀ j, (j % 7 ≠ 2 → cs'[j]? = cs[j]?) ∧ (j % 7 = 2 → ∀ n : Int, cs[j]? = some (.int .i64 n) → ∃ n' : Int, cs'[j]? = some (.int .i64 n'))
theorem Like.refl (cs : List Value) : Like cs cs := ⟨rfl, fun j => ⟨fun _ => rfl, fun _ n h => ⟨n, h⟩⟩⟩
theorem Like.trans {a b c : List Value} (h : Like a b) (k : Like b c) : Like a c :=
 ⟨k.1.trans h.1, fun j => ⟨fun hj => ((k.2 j).1 hj).trans ((h.2 j).1 hj), fun hj n hn => by obtain ⟨m, hm⟩ := (h.2 j).2 hj n hn; exact (k.2 j).2 hj m hm⟩⟩
theorem Like.set (cs : List Value) (i : Nat) (m : Int) : Like cs (cs.set (i * 7 + 2) (.int .i64 m)) := by
 refine ⟨List.length_set .., fun j => ⟨fun hj => List.getElem?_set_ne (by intro e; omega), fun hj n hn => ?_⟩⟩
 by_cases e : i * 7 + 2 = j
 ·subst e
  exact ⟨m, List.getElem?_set_self (List.getElem?_eq_some_iff.1 hn).1⟩
 ·exact ⟨n, (List.getElem?_set_ne e).trans hn⟩
theorem Like.take {cs cs' : List Value} (h : Like cs cs') (n : Nat) : Like (cs.take n) (cs'.take n) := by
 refine ⟨by rw [List.length_take, List.length_take, h.1], fun j => ?_⟩
 rw [List.getElem?_take, List.getElem?_take]
 by_cases hj : j < n
 ·rw [if_pos hj, if_pos hj]; exact h.2 j
 ·rw [if_neg hj, if_neg hj]; exact ⟨fun _ => rfl, fun _ m hm => by cases hm⟩
/-- What a spoiling may do to the memory. -/
structure Spoilt (B : Nat) (w w' : World) : Prop where
 os : w'.os = w.os
 tape : w'.tape = w.tape
 output : w'.output = w.output
 size : w.heap.size ≤ w'.heap.size
 low : ∀ g, g < B → w'.heap[g]? = w.heap[g]?
 rows : ∀ (g : Nat) (cur : Array Value), B ≤ g → w.heap[g]? = some (.cells cur 27 (0, 0)) → ∃ cur', w'.heap[g]? = some (.cells cur' 27 (0, 0)) ∧ Like cur.toList cur'.toList
theorem Spoilt.refl (B : Nat) (w : World) : Spoilt B w w := ⟨rfl, rfl, rfl, Nat.le_refl _, fun _ _ => rfl, fun _ cur _ h => ⟨cur, h, Like.refl _⟩⟩
theorem Spoilt.trans {B : Nat} {a b c : World} (h : Spoilt B a b) (k : Spoilt B b c) : Spoilt B a c :=
 ⟨k.os.trans h.os, k.tape.trans h.tape, k.output.trans h.output, Nat.le_trans h.size k.size, fun g hg => (k.low g hg).trans (h.low g hg), fun g cur hg hc => by
  obtain ⟨c1, h1, l1⟩ := h.rows g cur hg hc
  obtain ⟨c2, h2, l2⟩ := k.rows g c1 hg h1
  exact ⟨c2, h2, l1.trans l2⟩⟩
theorem Spoilt.below {B : Nat} {w w' : World} (h : Below w.heap.size w w') (hB : B ≤ w.heap.size) : Spoilt B w w' :=
 ⟨h.os, h.tape, h.output, h.size, fun g hg => h.block g (by omega), fun g cur _ hc => ⟨cur, (h.block g (Array.getElem?_eq_some_iff.1 hc).1).trans hc, Like.refl _⟩⟩
theorem Spoilt.is_below {B : Nat} {w w' : World} (h : Spoilt B w w') : Below B w w' := ⟨h.os, h.tape, h.output, h.size, h.low⟩
theorem Spoilt.set {B : Nat} {w : World} {g i : Nat} {m : Int} (hg : B ≤ g) : Spoilt B w (w.setCell ⟨g, i * 7 + 2, none⟩ (.int .i64 m)) := by
 refine ⟨rfl, rfl, rfl, by simp, fun k hk => Below.heap_setCell w ⟨g, _, none⟩ _ k (by simp only; omega), fun k cur hk hc => ?_⟩
 by_cases e : k = g
 ·subst e
  exact ⟨cur.setIfInBounds (i * 7 + 2) (.int .i64 m), by simp [World.setCell, Array.getElem?_modify, hc], by rw [Array.toList_setIfInBounds]; exact Like.set _ _ _⟩
 ·exact ⟨cur, (Below.heap_setCell w ⟨g, _, none⟩ _ k e).trans hc, Like.refl _⟩
theorem Spoilt.drew {B : Nat} {w w' : World} (h : Spoilt B w w') : Spoilt B w w'.drew := ⟨h.os, h.tape, h.output, h.size, h.low, h.rows⟩
mutual
theorem KidsShp.spoilt {w w' : World} {B : Nat} (hs : Spoilt B w w') : ∀ (ks : List Arr) (k : Value), KidsShp w B ks k → KidsShp w' B ks k
 | ks, k, h => by
  rw [KidsShp] at h ⊢
  obtain ⟨cs, ⟨hl, h1⟩, h2⟩ := h
  rcases h1 with ⟨rfl, hx⟩ | ⟨g, cap, cur, rfl, hb, hh, hnc, hm, hcs, htake⟩
  ·exact ⟨cs, ⟨hl, .inl ⟨rfl, hx⟩⟩, CellsShp.like hs ks cs cs (Like.refl _) h2⟩
  ·obtain ⟨cur', hh', hlk⟩ := hs.rows g cur hb hh
   refine ⟨cur'.toList.take (ks.length * 7), ⟨?_, .inr ⟨g, cap, cur', rfl, hb, hh', hnc, hm, ?_, rfl⟩⟩, CellsShp.like hs ks cs _ ?_ h2⟩
   ·have := (hlk.take (ks.length * 7)).1
    rw [this, htake]; exact hl
   ·have := hlk.1
    simp only [Array.length_toList] at this
    omega
   ·rw [← htake]; exact hlk.take _
theorem CellsShp.like {w w' : World} {B : Nat} (hs : Spoilt B w w') : ∀ (ks : List Arr) (cs cs' : List Value), Like cs cs' → CellsShp w B ks cs → CellsShp w' B ks cs'
 | [], cs, cs', hl, h => by
  rw [CellsShp] at h ⊢
  subst h
  exact List.eq_nil_of_length_eq_zero (by simpa using hl.1)
 | .mk l f n v e d ks :: r, cs, cs', hl, h => by
  rw [CellsShp] at h ⊢
  obtain ⟨m, k, rest, rfl, h1, h2⟩ := h
  obtain ⟨hlen, hj⟩ := hl
  match cs', hlen, hj with
  | c0 :: c1 :: c2 :: c3 :: c4 :: c5 :: c6 :: rest', hlen, hj =>
   have e0 : c0 = .int .i64 l := by simpa using (hj 0).1 (by decide)
   have e1 : c1 = .int .i64 f := by simpa using (hj 1).1 (by decide)
   obtain ⟨m', e2⟩ := (hj 2).2 (by decide) m rfl
   have e3 : c3 = tv v := by simpa using (hj 3).1 (by decide)
   have e4 : c4 = tv e := by simpa using (hj 4).1 (by decide)
   have e5 : c5 = tv d := by simpa using (hj 5).1 (by decide)
   have e6 : c6 = k := by simpa using (hj 6).1 (by decide)
   have e2' : c2 = .int .i64 m' := by simpa using e2
   subst e0 e1 e2' e3 e4 e5 e6
   refine ⟨m', _, rest', rfl, KidsShp.spoilt hs ks _ h1, CellsShp.like hs r rest rest' ⟨by simpa using hlen, fun j => ?_⟩ h2⟩
   have := hj (j + 7)
   rw [Nat.add_mod_right] at this
   simpa using this
end
theorem CellsShp.at {w : World} {B : Nat} : ∀ (ks : List Arr) (cs : List Value) (j : Nat) (l f n : Int) (v e d : Vp.Txt) (ys : List Arr), CellsShp w B ks cs → ks[j]? = some (.mk l f n v e d ys) →
  ∃ (m : Int) (k : Value), cs[j * 7]? = some (.int .i64 l) ∧ cs[j * 7 + 1]? = some (.int .i64 f) ∧ cs[j * 7 + 2]? = some (.int .i64 m) ∧ cs[j * 7 + 3]? = some (tv v) ∧ cs[j * 7 + 4]? = some (tv e) ∧ cs[j * 7 + 5]? = some (tv d) ∧ cs[j * 7 + 6]? = some k ∧ KidsShp w B ys k
 | [], _, j, _, _, _, _, _, _, _, _, hj => by simp at hj
 | .mk l' f' n' v' e' d' ks' :: r, cs, 0, l, f, n, v, e, d, ys, h, hj => by
  rw [CellsShp] at h
  obtain ⟨m, k, rest, rfl, h1, _⟩ := h
  obtain ⟨rfl, rfl, rfl, rfl, rfl, rfl, rfl⟩ := Arr.mk.inj (Option.some.inj (by simpa using hj))
  exact ⟨m, k, rfl, rfl, rfl, rfl, rfl, rfl, rfl, h1⟩
 | .mk l' f' n' v' e' d' ks' :: r, cs, j + 1, l, f, n, v, e, d, ys, h, hj => by
  rw [CellsShp] at h
  obtain ⟨m, k, rest, rfl, _, h2⟩ := h
  obtain ⟨m', k', h⟩ := CellsShp.at r rest j l f n v e d ys h2 (by simpa using hj)
  refine ⟨m', k', ?_⟩
  rw [show (j + 1) * 7 = j * 7 + 7 by omega]
  simpa [Nat.add_assoc] using h
theorem KidsShp.slice {w : World} {B : Nat} {ks : List Arr} {k : Value} (h : KidsShp w B ks k) : ∃ a c, k = .slice a ks.length c := by
 rw [KidsShp] at h
 obtain ⟨cs, h1, _⟩ := h
 exact own_sliceN h1
/-- A kid, in the memory. -/
theorem KidsShp.kid {w : World} {B j : Nat} {ks : List Arr} {a : Option Addr} {c : Nat} {l f n : Int} {v e d : Vp.Txt} {ys : List Arr} (h : KidsShp w B ks (.slice a ks.length c)) (hj : ks[j]? = some (.mk l f n v e d ys)) :
  ∃ (g : Nat) (m : Int) (k : Value), a = some ⟨g, 0, none⟩ ∧ B ≤ g ∧ w.cell? ⟨g, j * 7, none⟩ = some (.int .i64 l) ∧ w.cell? ⟨g, j * 7 + 1, none⟩ = some (.int .i64 f) ∧ w.cell? ⟨g, j * 7 + 2, none⟩ = some (.int .i64 m) ∧ w.cell? ⟨g, j * 7 + 3, none⟩ = some (tv v) ∧ w.cell? ⟨g, j * 7 + 4, none⟩ = some (tv e) ∧ w.cell? ⟨g, j * 7 + 5, none⟩ = some (tv d) ∧ w.cell? ⟨g, j * 7 + 6, none⟩ = some k ∧
   KidsShp w B ys k ∧ w.frozen? ⟨g, j * 7 + 2, none⟩ = false ∧ ks.length ≤ c ∧ c ≤ maxLen := by
 rw [KidsShp] at h
 obtain ⟨cs, ⟨hl, h1⟩, h2⟩ := h
 rcases h1 with ⟨hv, hx⟩ | ⟨g, cap, cur, hv, hb, hh, hnc, hm, hcs, htake⟩
 ·exfalso
  have : ks = [] := List.eq_nil_of_length_eq_zero hx
  rw [this] at hj
  simp at hj
 ·obtain ⟨rfl, _, rfl⟩ := Value.slice.inj hv
  obtain ⟨m, k, q0, q1, q2, q3, q4, q5, q6, hk⟩ := CellsShp.at ks cs j l f n v e d ys h2 hj
  have hc : ∀ (i : Nat) (u : Value), cs[i]? = some u → w.cell? ⟨g, i, none⟩ = some u := fun i u hi => by
   simp only [World.cell?, hh, Option.isSome_none, Bool.false_eq_true, if_false]
   rw [← Array.getElem?_toList]
   have h1 : (cur.toList.take (ks.length * 7))[i]? = some u := by rw [htake]; exact hi
   rw [List.getElem?_take] at h1
   split at h1
   ·exact h1
   ·cases h1
  exact ⟨g, m, k, rfl, hb, hc _ _ q0, hc _ _ q1, hc _ _ q2, hc _ _ q3, hc _ _ q4, hc _ _ q5, hc _ _ q6, hk, by simp [World.frozen?, hh], hnc, hm⟩
def SpoilOK (N : Nat) : Prop := ∀ (l f n : Int) (v e d : Vp.Txt) (ks : List Arr) (k : Value) (B : Nat) (W : World), SizeOf.sizeOf ks < N → KidsShp W B ks k → B ≤ W.heap.size →
 Calls Tryz.prog 18 #[arrV l f n v e d k] W fun e w' => e = .returned (.tuple #[]) ∧ Spoilt B W w'
theorem spoilt_box {W wr : World} {B c : Nat} {x0 x1 x2 x3 x4 x5 x6 : Value} (hs : Spoilt B W wr) (hB : B ≤ c) (hc : W.heap[c]? = some (.cells #[x0, x1, x2, x3, x4, x5, x6] 27)) : wr.cell? ⟨c, 6, none⟩ = some x6 := by
 obtain ⟨cur', h1, h2⟩ := hs.rows c _ hB hc
 have h3 := (h2.2 6).1 (by decide)
 simp only [World.cell?, h1, Option.isSome_none, Bool.false_eq_true, if_false]
 rw [← Array.getElem?_toList, h3]
 rfl
set_option maxRecDepth 100000 in
set_option maxHeartbeats 3200000 in
theorem spoil_succ (N : Nat) (ih : SpoilOK N) : SpoilOK (N + 1) := by
 intro l f n v e d ks k B W hN hk hB
 have hb1 : Below W.heap.size W (W.alloc (.cells (arrC l f n v e d k) 27)) := below_alloc (Below.refl _ _) _
 have S1 := Lib.hid (Spoilt.below hb1 hB)
 have HC := Lib.hid (heap_alloc_new W (.cells (arrC l f n v e d k) 27))
 obtain ⟨a, c, rfl⟩ := hk.slice
 have HK := Lib.hid (KidsShp.spoilt S1.out ks _ hk)
 clear hk hb1
 go_enter Tryz.func18, Tryz.ntmps18
 go_wp2
 have hsz1 : (W.alloc (.cells (arrC l f n v e d (.slice a ks.length c)) 27)).heap.size = W.heap.size + 1 := by simp
 go_loopw [2] (fun ix wr => ∃ q : Nat, q ≤ ks.length ∧ ix = .int .i64 (q : Int) ∧ Spoilt B (W.alloc (.cells (arrC l f n v e d (.slice a ks.length c)) 27)) wr) (fun ix _ => ks.length - (intOf ix).toNat)
 case atStart => exact ⟨0, Nat.zero_le _, rfl, Spoilt.refl _ _⟩
 case round =>
  obtain ⟨q, hq, rfl, hsp⟩ := hrel
  have HSP := Lib.hid hsp
  have x6 := spoilt_box hsp hB HC.out
  clear hsp
  by_cases hlt : q < ks.length
  ·have hqi : (q : Int) < (ks.length : Int) := by omega
   have hmem : ks[q] ∈ ks := List.getElem_mem hlt
   have hjq := List.getElem?_eq_getElem hlt
   have hsz : SizeOf.sizeOf ks[q] < SizeOf.sizeOf ks := List.sizeOf_lt_of_mem hmem
   generalize ks[q] = y at hjq hsz
   obtain ⟨yl, yf, yn, yv, ye, yd, ys⟩ := y
   obtain ⟨g, m, k, hga, hBg, c0, c1, c2, c3, c4, c5, c6, hys, hfz, hkc, hcm⟩ := (KidsShp.spoilt HSP.out ks _ HK.out).kid hjq
   subst hga
   unfold maxLen at hcm
   obtain ⟨ya, yc, rfl⟩ := hys.slice
   have hszy : SizeOf.sizeOf ys < N := by simp at hsz; omega
   have HIH := Lib.hid (ih yl yf m yv ye yd ys (.slice ya ys.length yc) B wr hszy hys (Nat.le_trans (by omega) HSP.out.size))
   have HJQ := Lib.hid hjq
   clear hjq hsz hys hfz hmem
   go_wp2_with (fail)
   refine HIH.out.mono ?_
   rintro e5 w5 ⟨rfl, hs5⟩
   have HS5 := Lib.hid (HSP.out.trans hs5)
   have x65 := spoilt_box HS5.out hB HC.out
   obtain ⟨g5, m5, k5, hg5, hBg5, _, _, c25, _, _, _, _, _, hfz5, _, _⟩ := (KidsShp.spoilt HS5.out ks _ HK.out).kid HJQ.out
   obtain ⟨rfl, _⟩ := Addr.mk.inj (Option.some.inj hg5)
   clear c0 c1 c2 c3 c4 c5 c6 x6 hs5 hg5
   go_wp2
   go_region
   all_goals
    go_wp2
    exact ⟨⟨q + 1, by omega, by go_num, (HS5.out.trans (Spoilt.set hBg)).drew⟩, by simp [intOf]; omega⟩
  ·obtain rfl : q = ks.length := by omega
   go_wp2
   go_end0
   exact ⟨rfl, S1.out.trans HSP.out⟩
theorem spoil_all : ∀ N, SpoilOK N
 | 0 => fun _ _ _ _ _ _ _ _ _ _ h => absurd h (Nat.not_lt_zero _)
 | N + 1 => spoil_succ N (spoil_all N)
theorem spoil_arr (B : Nat) (a : Arr) (u : Value) (W : World) (ho : ArrOwn W (fun g => B ≤ g) a u) (hB : B ≤ W.heap.size) :
  Calls Tryz.prog 18 #[u] W fun e w' => e = .returned (.tuple #[]) ∧ Spoilt B W w' := by
 obtain ⟨l, f, n, v, e, d, ks⟩ := a
 obtain ⟨k, rfl, hk⟩ := ho
 exact spoil_all _ l f n v e d ks k B W (Nat.lt_succ_self _) (KidsOwn.shp ks _ k (fun g hg => hg) hk) hB
end Go.Proofs.YtobhjlchpnpleaaGreatDoor
