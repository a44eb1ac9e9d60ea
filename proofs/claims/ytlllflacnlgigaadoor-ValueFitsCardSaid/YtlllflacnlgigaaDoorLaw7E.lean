/- Chapter 7: the walk of ValueFits. -/
import Derived.Test.YtlllflacnlgigaaDoorLaw7D
import Derived.Test.YtlllflacnlgigaaDoorLaw7A
import Derived.Deep.RegionHeld3
namespace Go.Proofs.YtlllflacnlgigaaDoor
open Go.RowKit
set_option linter.unusedVariables false
set_option linter.unusedSimpArgs false

theorem nodes_drew {w : World} {v : Value} {ns : List Tp.Nd} (h : NodesAt w v ns) : NodesAt w.drew v ns := h
theorem own_litN (w : World) (base : Nat) (e : TypeId) (sz n : Nat) (xs : List Value) (hb : base ≤ w.heap.size) (hl : xs.length = n * sz) (hm : n ≤ maxLen) :
    (w.alloc (.cells xs.toArray e)).ownsRow base e sz (.slice (some ⟨w.heap.size, 0, none⟩) n n) n xs :=
  ⟨hl, .inr ⟨w.heap.size, n, xs.toArray, rfl, hb, heap_alloc_new w _, Nat.le_refl _, hm, by simpa using hl, by rw [← hl]; simp⟩⟩
/-- 'append(v, u)' onto a row of the call's own, of several cells an element. -/
theorem wp_appN {P : Program} {ops : Array Oper} {rest : List Oper} {o : Oper} {a : Act} {Q : Exit → Act → World → Prop} {w0 : World} {us : List Value}
    (hgd : o.guard = none) (s x : Operand) (t e : TypeId) (ho : o.op = .call { callee := .builtin .append, args := #[s, x], argTypes := #[t, t] })
    (base size bytes : Nat) (z : Value) (ht : P.underlying t = some (.slice e)) (hi : (P.info? e).map (fun i => (i.zero, i.size, i.bytes)) = some (some z, size, bytes)) (hz : z.cells.size = size) (hsz : 0 < size)
    (v : Value) (n : Nat) (xs : List Value) (hul : us.length = size) (hu : ∀ u ∈ us, u.oneCell' = true) (hs : a.eval s = v) {nb : Nat} (hx : a.eval x = .slice (some ⟨nb, 0, none⟩) 1 1) (hnb : w0.heap.size = nb)
    (hown : w0.ownsRow base e size v n xs) (hn : (n + 1) * bytes ≤ 140737488355328) (hm : n < 140737488355328) (hb : base ≤ w0.heap.size)
    (h : ∀ v' w', w'.ownsRow base e size v' (n + 1) (xs ++ us) → Below base w0 w' → w0.grownBy w' v.ownBlock → wpList P ops Q rest (a.put o.dst v') w') :
    wpList P ops Q (o :: rest) a (w0.alloc (.cells us.toArray e)) := by
  obtain ⟨i0, hi, hz0, hz1, hz2⟩ := info_parts hi
  subst hnb
  refine wpList_append_own _ hgd s x t ho base e i0 z size bytes ht hi hz0 hz1 hz2 hz hsz v n xs hs (hown.alloc _) ⟨w0.heap.size, 0, none⟩ 1 1 us hx (by rw [hul, Nat.one_mul]) ?_ hu ?_ hn ?_ ?_
  · intro j y hy
    rw [add_zero_]
    exact (Row.new w0 e us.toArray).cell (i := j) hy
  · unfold maxLen; omega
  · simp; omega
  · intro v' w' ho' hg _
    have hg' : w0.grownBy w' v.ownBlock := ⟨hg.os, hg.tape, hg.output, Nat.le_trans (by simp) hg.size, fun k hk hr => (hg.block k (by simp; omega) hr).trans (Below.heap_alloc w0 _ k hk)⟩
    refine h v' w' ho' ⟨hg'.os, hg'.tape, hg'.output, hg'.size, fun k hk => hg'.block k (by omega) (fun e => ?_)⟩ hg'
    have := (hown.lt k e.symm).1
    omega
def ndv (n : Tp.Nd) : List Value := [.int .i64 n.kind, .int .i64 n.parent, .bool n.null]
theorem ndv_at (ns : List Tp.Nd) : ∀ (j : Nat) (n : Tp.Nd), ns[j]? = some n → (ns.flatMap ndv)[j * 3]? = some (.int .i64 n.kind) ∧ (ns.flatMap ndv)[j * 3 + 1]? = some (.int .i64 n.parent) ∧ (ns.flatMap ndv)[j * 3 + 2]? = some (.bool n.null) := by
  induction ns with
  | nil => intro j n h; simp at h
  | cons m ns ih =>
    intro j n h
    cases j with
    | zero =>
      obtain rfl : m = n := by simpa using h
      simp [ndv]
    | succ j =>
      have := ih j n (by simpa using h)
      rw [List.flatMap_cons, show (j + 1) * 3 = 3 + j * 3 by omega]
      have e : (ndv m).length = 3 := rfl
      refine ⟨?_, ?_, ?_⟩
      · rw [List.getElem?_append_right (by omega), e, Nat.add_sub_cancel_left]; exact this.1
      · rw [List.getElem?_append_right (by omega), e, show 3 + j * 3 + 1 - 3 = j * 3 + 1 by omega]; exact this.2.1
      · rw [List.getElem?_append_right (by omega), e, show 3 + j * 3 + 2 - 3 = j * 3 + 2 by omega]; exact this.2.2
theorem own_nodes {w : World} {base : Nat} {v : Value} {ns : List Tp.Nd} (h : w.ownsRow base 37 3 v ns.length (ns.flatMap ndv)) : NodesAt w v ns := by
  obtain ⟨hl, h⟩ := h
  rcases h with ⟨rfl, hx⟩ | ⟨g, cap, cur, rfl, hb, hh, hnc, hm, hcs, htake⟩
  · have hx' : ns = [] := by
      cases ns with
      | nil => rfl
      | cons n ns => simp [ndv] at hx
    subst hx'
    exact ⟨none, 0, rfl, Nat.le_refl _, by decide, fun h => absurd rfl h⟩
  · refine ⟨_, cap, rfl, hnc, hm, fun _ => ⟨g, 0, rfl, (Array.getElem?_eq_some_iff.1 hh).1, fun j n hn => ?_⟩⟩
    have hc : ∀ (i : Nat) (u : Value), (ns.flatMap ndv)[i]? = some u → w.cell? ⟨g, i, none⟩ = some u := fun i u hi => by
      simp only [World.cell?, hh, Option.isSome_none, Bool.false_eq_true, if_false]
      rw [← Array.getElem?_toList]
      have h1 : (cur.toList.take (ns.length * 3))[i]? = some u := by rw [htake]; exact hi
      rw [List.getElem?_take] at h1
      split at h1
      · exact h1
      · cases h1
    have := ndv_at ns j n hn
    rw [Nat.zero_add]
    exact ⟨hc _ _ this.1, hc _ _ this.2.1, hc _ _ this.2.2⟩
theorem own_sliceN {w : World} {base n sz : Nat} {e : TypeId} {v : Value} {xs : List Value} (h : w.ownsRow base e sz v n xs) : ∃ a c, v = .slice a n c := by
  rcases h.2 with ⟨rfl, hx⟩ | ⟨g, cap, cur, rfl, _⟩
  · subst hx
    exact ⟨none, 0, rfl⟩
  · exact ⟨_, cap, rfl⟩
theorem own_ne {w : World} {base n sz g : Nat} {e t : TypeId} {v : Value} {xs : List Value} {cs : Array Value} {fz : Nat × Nat} (h : w.ownsRow base e sz v n xs) (hg : w.heap[g]? = some (.cells cs t fz)) (hne : e ≠ t) : v.ownBlock = none ∨ v.ownBlock ≠ some g := by
  rcases h.2 with ⟨rfl, _⟩ | ⟨g', cap, cur, rfl, _, hh, _⟩
  · exact .inl rfl
  · refine .inr fun he => ?_
    have : g' = g := by simpa [Value.ownBlock] using he
    subst this
    rw [hh] at hg
    simp only [Option.some.injEq, Obj.cells.injEq] at hg
    exact hne hg.2.1
theorem info_node : (Tryd.prog.info? 37).map (fun i => (i.zero, i.size, i.bytes)) = some (some (.agg #[.int .i64 0, .int .i64 0, .bool false]), 3, 24) := by kernel_rfl

def texts7 : List Vp.Txt := [[105, 53, 59], [116], [115, 50, 58, 97, 98], [91, 105, 53, 59, 93], [123, 105, 53, 59, 125], [110], [91, 110, 93], [123, 110, 125], [91, 116, 93], [123, 125], [123, 105, 53, 59, 105, 53, 59, 125], [115, 49, 55, 58, 97, 97, 97, 97, 97, 97, 97, 97, 97, 97, 97, 97, 97, 97, 97, 97, 97], [91], [91, 93]]
def ty7 (k : Nat) (null : Bool) : List Tp.Nd := if k < 3 then [⟨k, -1, null⟩] else [⟨k, -1, null⟩, ⟨0, 0, false⟩]
def want7 (k i : Nat) (null : Bool) : Bool := i == k || i == 5 && null || i == 13 && k == 3
theorem fits7_all : ∀ (k : Fin 5) (i : Fin 14) (null : Bool), Vp.fits (ty7 k.val null) ((texts7.getD i.val []).length + 1) 0 (texts7.getD i.val []) = want7 k.val i.val null ∧
    Vp.fits (ty7 k.val null) ((texts7.getD i.val []).length + 1) (-1) (texts7.getD i.val []) = false ∧ Vp.fits (ty7 k.val null) ((texts7.getD i.val []).length + 1) 2 (texts7.getD i.val []) = false := by decide +kernel
theorem texts7_len : ∀ i : Fin 14, (texts7.getD i.val []).length ≤ 65536 := by decide +kernel
theorem fitsB_calls (ns : List Tp.Nd) (x : Int) (l : List UInt8) (b : Bool) (W : World) (v : Value) (hv : Vars W) (hx : x ≤ 9) (hl : l.length ≤ 65536) (ht : NodesAt W v ns) (hb : Vp.fits ns (l.length + 1) x l = b) :
    Calls Tryd.prog 21 #[typeV v, .int .i64 x, tv l] W fun e w' => e = .returned (.bool b) ∧ Below W.heap.size W w' := by
  have h := fits_calls v _ x l W ht hv (by omega) (by omega)
  rw [hb] at h
  exact h

set_option maxHeartbeats 1600000 in
set_option maxRecDepth 100000 in
theorem fits7_s_eq (a0 a1 : Int) (null : Bool) (k i : Nat) (hk : k < 3) (hi : i < 14) (hke : wrap64 ((IntKind.u64.wrap a0).tmod 5) = (k : Int)) (hie : wrap64 ((IntKind.u64.wrap a1).tmod 14) = (i : Int)) (hc : i = k) (W : World) (hv : Vars W) :
    Calls Tryd.prog 6 #[.int .i64 a0, .int .i64 a1, .bool null] W fun e w' => e = .returned (.bool true) ∧ Below W.heap.size W w' := by
  obtain ⟨v, hv1⟩ : ∃ v, texts7[i]? = some v := ⟨_, List.getElem?_eq_getElem (show i < 14 from hi)⟩
  have hd := fits7_all ⟨k, by omega⟩ ⟨i, hi⟩ null
  have hln := texts7_len ⟨i, hi⟩
  simp only [List.getD_eq_getElem?_getD, hv1, Option.getD_some] at hd hln
  have hty : ty7 k null = [⟨k, -1, null⟩] := by unfold ty7; rw [if_pos hk]
  rw [hty] at hd
  have hw : want7 k i null = true := by
    unfold want7
    simp [hc]
  rw [hw] at hd
  have HCv := Lib.hid (show ∀ h : i < (texts7.map tv).length, (texts7.map tv)[i] = tv v from fun h => by
    have : (texts7.map tv)[i]? = some (tv v) := by rw [List.getElem?_map, hv1]; rfl
    rw [List.getElem?_eq_getElem h] at this
    exact Option.some.inj this)
  have i0 : (0 : Int) ≤ (i : Int) := by omega
  have i14 : (i : Int) < 14 := by omega
  have HTX := Lib.hid (show (texts7.map tv).toArray[i]? = some (tv v) by rw [List.getElem?_toArray, List.getElem?_map, hv1]; rfl)
  subst hc
  have tg : ¬ (3 : Int) ≤ (i : Int) := by omega
  have HD := Lib.hid hd
  clear hd hv1 hw hty
  go_enter Tryd.func6, Tryd.ntmps6
  go_wp2_with (fail)
  refine (awake7_calls W hv).mono ?_; rintro e w1 ⟨rfl, HB⟩
  have hN := nodes_lit1 w1 (i : Int) (-1) null
  have hB3 : Below w1.heap.size w1 (((w1.alloc (.cells #[.int .i64 (i : Int), .int .i64 (-1), .bool null] 37)).alloc (.cells #[.slice (some ⟨w1.heap.size, 0, none⟩) 1 1] 40)).alloc (.cells (texts7.map tv).toArray 9)) := below_alloc (below_alloc (below_alloc (Below.refl _ _) _) _) _
  have hN2 := hN.below (below_alloc (below_alloc (Below.refl _ _) (.cells #[.slice (some ⟨w1.heap.size, 0, none⟩) 1 1] 40)) (.cells (texts7.map tv).toArray 9))
  have hbx : (((w1.alloc (.cells #[.int .i64 (i : Int), .int .i64 (-1), .bool null] 37)).alloc (.cells #[.slice (some ⟨w1.heap.size, 0, none⟩) 1 1] 40)).alloc (.cells (texts7.map tv).toArray 9)).cell? ⟨w1.heap.size + 1, 0, none⟩ = some (.slice (some ⟨w1.heap.size, 0, none⟩) 1 1) := by
    have h := ((Row.new (w1.alloc (.cells #[.int .i64 (i : Int), .int .i64 (-1), .bool null] 37)) 40 #[.slice (some ⟨w1.heap.size, 0, none⟩) 1 1]).alloc (.cells (texts7.map tv).toArray 9)).cell (i := 0) rfl
    simpa using h
  have hs1 : w1.heap.size + 1 < (((w1.alloc (.cells #[.int .i64 (i : Int), .int .i64 (-1), .bool null] 37)).alloc (.cells #[.slice (some ⟨w1.heap.size, 0, none⟩) 1 1] 40)).alloc (.cells (texts7.map tv).toArray 9)).heap.size := by simp
  have hs2 : w1.heap.size + 1 + 1 < (((w1.alloc (.cells #[.int .i64 (i : Int), .int .i64 (-1), .bool null] 37)).alloc (.cells #[.slice (some ⟨w1.heap.size, 0, none⟩) 1 1] 40)).alloc (.cells (texts7.map tv).toArray 9)).heap.size := by simp
  have htx : (((w1.alloc (.cells #[.int .i64 (i : Int), .int .i64 (-1), .bool null] 37)).alloc (.cells #[.slice (some ⟨w1.heap.size, 0, none⟩) 1 1] 40)).alloc (.cells (texts7.map tv).toArray 9)).cell? ⟨w1.heap.size + 1 + 1, i, none⟩ = some (tv v) := lit_cell _ _ _ _ _ _ (by simp) HTX.out
  replace HB := below_then HB hB3
  clear hB3 hN
  have hcv := HCv.out
  simp only [texts7, tv, List.map_cons, List.map_nil] at hN2 hbx htx hs1 hs2 HB hcv
  replace hcv := Lib.hid hcv
  replace hN2 := hN2
  go_wp2_with (fail)
  go_region_held3 (fun w' => w'.cell? ⟨w1.heap.size + 1, 0, none⟩ = some (.slice (some ⟨w1.heap.size, 0, none⟩) 1 1) ∧ w'.cell? ⟨w1.heap.size + 1 + 1, i, none⟩ = some (tv v) ∧ Below W.heap.size W w' ∧ NodesAt w' (.slice (some ⟨w1.heap.size, 0, none⟩) 1 1) [⟨i, -1, null⟩] ∧ w1.heap.size + 1 < w'.heap.size ∧ w1.heap.size + 1 + 1 < w'.heap.size)
    (first | exact ⟨hbx, htx, HB, hN2, hs1, hs2⟩ | exact ⟨hbx, htx, below_drew HB, hN2, hs1, hs2⟩ | (go_split_ands; (refine ⟨?_, ?_, ?_, ?_, ?_, ?_⟩ <;> assumption)))
    (first | (go_at_call 21; refine (fitsB_calls [⟨i, -1, null⟩] _ v _ _ _ (hv.below (by repeat (first | exact HB | apply below_drew)) hv.six) (by decide) hln (by first | exact hN2 | exact nodes_drew hN2) (by first | exact HD.out.1 | exact HD.out.2.1 | exact HD.out.2.2)).mono ?_; rintro e w' ⟨rfl, hb⟩; have HB' : Below W.heap.size W w' := (by first | exact below_then HB hb | exact below_then (below_drew HB) hb); have hbx' := (hb.cell (p := ⟨w1.heap.size + 1, 0, none⟩) hs1).trans hbx; have htx' := (hb.cell (p := ⟨w1.heap.size + 1 + 1, i, none⟩) hs2).trans htx; have hN' : NodesAt w' _ _ := (by first | exact hN2.below hb | exact (nodes_drew hN2).below hb); have hs1' := Nat.lt_of_lt_of_le hs1 hb.size; have hs2' := Nat.lt_of_lt_of_le hs2 hb.size; clear HB hbx htx hN2 hs1 hs2 hb; have HB := HB'; have hbx := hbx'; have htx := htx'; have hN2 := hN'; have hs1 := hs1'; have hs2 := hs2'; clear HB' hbx' htx' hN' hs1' hs2') | (go_at_call 15; refine (num_calls _ _).mono ?_; rintro e w' ⟨rfl, rfl⟩))
  go_wp2
  go_ret
  exact ⟨rfl, HB⟩

set_option maxHeartbeats 1600000 in
set_option maxRecDepth 100000 in
theorem fits7_s_five0 (a0 a1 : Int) (k i : Nat) (hk : k < 3) (hi : i < 14) (hke : wrap64 ((IntKind.u64.wrap a0).tmod 5) = (k : Int)) (hie : wrap64 ((IntKind.u64.wrap a1).tmod 14) = (i : Int)) (hc : i = 5) (W : World) (hv : Vars W) :
    Calls Tryd.prog 6 #[.int .i64 a0, .int .i64 a1, .bool false] W fun e w' => e = .returned (.bool true) ∧ Below W.heap.size W w' := by
  obtain ⟨v, hv1⟩ : ∃ v, texts7[i]? = some v := ⟨_, List.getElem?_eq_getElem (show i < 14 from hi)⟩
  have hd := fits7_all ⟨k, by omega⟩ ⟨i, hi⟩ false
  have hln := texts7_len ⟨i, hi⟩
  simp only [List.getD_eq_getElem?_getD, hv1, Option.getD_some] at hd hln
  have hty : ty7 k false = [⟨k, -1, false⟩] := by unfold ty7; rw [if_pos hk]
  rw [hty] at hd
  have hw : want7 k i false = false := by
    unfold want7
    subst hc
    rw [show ((5 : Nat) == k) = false by rw [beq_eq_false_iff_ne]; omega]
    rfl
  rw [hw] at hd
  subst hc
  obtain rfl : [110] = v := by simpa [texts7] using hv1
  have t1 : ((5 : Int) == (k : Int)) = false := by rw [beq_eq_false_iff_ne]; omega
  have tg : ¬ (3 : Int) ≤ (k : Int) := by omega
  have HD := Lib.hid hd
  clear hd hv1 hw hty
  go_enter Tryd.func6, Tryd.ntmps6
  go_wp2_with (fail)
  refine (awake7_calls W hv).mono ?_; rintro e w1 ⟨rfl, HB⟩
  have hN := nodes_lit1 w1 (k : Int) (-1) false
  have hB3 : Below w1.heap.size w1 (((w1.alloc (.cells #[.int .i64 (k : Int), .int .i64 (-1), .bool false] 37)).alloc (.cells #[.slice (some ⟨w1.heap.size, 0, none⟩) 1 1] 40)).alloc (.cells (texts7.map tv).toArray 9)) := below_alloc (below_alloc (below_alloc (Below.refl _ _) _) _) _
  have hN2 := hN.below (below_alloc (below_alloc (Below.refl _ _) (.cells #[.slice (some ⟨w1.heap.size, 0, none⟩) 1 1] 40)) (.cells (texts7.map tv).toArray 9))
  have hbx : (((w1.alloc (.cells #[.int .i64 (k : Int), .int .i64 (-1), .bool false] 37)).alloc (.cells #[.slice (some ⟨w1.heap.size, 0, none⟩) 1 1] 40)).alloc (.cells (texts7.map tv).toArray 9)).cell? ⟨w1.heap.size + 1, 0, none⟩ = some (.slice (some ⟨w1.heap.size, 0, none⟩) 1 1) := by
    have h := ((Row.new (w1.alloc (.cells #[.int .i64 (k : Int), .int .i64 (-1), .bool false] 37)) 40 #[.slice (some ⟨w1.heap.size, 0, none⟩) 1 1]).alloc (.cells (texts7.map tv).toArray 9)).cell (i := 0) rfl
    simpa using h
  have hs1 : w1.heap.size + 1 < (((w1.alloc (.cells #[.int .i64 (k : Int), .int .i64 (-1), .bool false] 37)).alloc (.cells #[.slice (some ⟨w1.heap.size, 0, none⟩) 1 1] 40)).alloc (.cells (texts7.map tv).toArray 9)).heap.size := by simp
  have hs2 : w1.heap.size + 1 + 1 < (((w1.alloc (.cells #[.int .i64 (k : Int), .int .i64 (-1), .bool false] 37)).alloc (.cells #[.slice (some ⟨w1.heap.size, 0, none⟩) 1 1] 40)).alloc (.cells (texts7.map tv).toArray 9)).heap.size := by simp
  have htx : (((w1.alloc (.cells #[.int .i64 (k : Int), .int .i64 (-1), .bool false] 37)).alloc (.cells #[.slice (some ⟨w1.heap.size, 0, none⟩) 1 1] 40)).alloc (.cells (texts7.map tv).toArray 9)).cell? ⟨w1.heap.size + 1 + 1, 5, none⟩ = some (tv [110]) := lit_cell _ _ _ _ _ _ (by simp) rfl
  replace HB := below_then HB hB3
  clear hB3 hN
  simp only [texts7, tv, List.map_cons, List.map_nil] at hN2 hbx htx hs1 hs2 HB
  replace hN2 := hN2
  go_wp2_with (fail)
  go_region_held3 (fun w' => w'.cell? ⟨w1.heap.size + 1, 0, none⟩ = some (.slice (some ⟨w1.heap.size, 0, none⟩) 1 1) ∧ w'.cell? ⟨w1.heap.size + 1 + 1, 5, none⟩ = some (tv [110]) ∧ Below W.heap.size W w' ∧ NodesAt w' (.slice (some ⟨w1.heap.size, 0, none⟩) 1 1) [⟨k, -1, false⟩] ∧ w1.heap.size + 1 < w'.heap.size ∧ w1.heap.size + 1 + 1 < w'.heap.size)
    (first | exact ⟨hbx, htx, HB, hN2, hs1, hs2⟩ | exact ⟨hbx, htx, below_drew HB, hN2, hs1, hs2⟩ | (go_split_ands; (refine ⟨?_, ?_, ?_, ?_, ?_, ?_⟩ <;> assumption)))
    (first | (go_at_call 21; refine (fitsB_calls [⟨k, -1, false⟩] _ [110] _ _ _ (hv.below (by repeat (first | exact HB | apply below_drew)) hv.six) (by decide) hln (by first | exact hN2 | exact nodes_drew hN2) (by first | exact HD.out.1 | exact HD.out.2.1 | exact HD.out.2.2)).mono ?_; rintro e w' ⟨rfl, hb⟩; have HB' : Below W.heap.size W w' := (by first | exact below_then HB hb | exact below_then (below_drew HB) hb); have hbx' := (hb.cell (p := ⟨w1.heap.size + 1, 0, none⟩) hs1).trans hbx; have htx' := (hb.cell (p := ⟨w1.heap.size + 1 + 1, 5, none⟩) hs2).trans htx; have hN' : NodesAt w' _ _ := (by first | exact hN2.below hb | exact (nodes_drew hN2).below hb); have hs1' := Nat.lt_of_lt_of_le hs1 hb.size; have hs2' := Nat.lt_of_lt_of_le hs2 hb.size; clear HB hbx htx hN2 hs1 hs2 hb; have HB := HB'; have hbx := hbx'; have htx := htx'; have hN2 := hN'; have hs1 := hs1'; have hs2 := hs2'; clear HB' hbx' htx' hN' hs1' hs2') | (go_at_call 15; refine (num_calls _ _).mono ?_; rintro e w' ⟨rfl, rfl⟩))
  go_wp2
  go_ret
  exact ⟨rfl, HB⟩

set_option maxHeartbeats 1600000 in
set_option maxRecDepth 100000 in
theorem fits7_s_five1 (a0 a1 : Int) (k i : Nat) (hk : k < 3) (hi : i < 14) (hke : wrap64 ((IntKind.u64.wrap a0).tmod 5) = (k : Int)) (hie : wrap64 ((IntKind.u64.wrap a1).tmod 14) = (i : Int)) (hc : i = 5) (W : World) (hv : Vars W) :
    Calls Tryd.prog 6 #[.int .i64 a0, .int .i64 a1, .bool true] W fun e w' => e = .returned (.bool true) ∧ Below W.heap.size W w' := by
  obtain ⟨v, hv1⟩ : ∃ v, texts7[i]? = some v := ⟨_, List.getElem?_eq_getElem (show i < 14 from hi)⟩
  have hd := fits7_all ⟨k, by omega⟩ ⟨i, hi⟩ true
  have hln := texts7_len ⟨i, hi⟩
  simp only [List.getD_eq_getElem?_getD, hv1, Option.getD_some] at hd hln
  have hty : ty7 k true = [⟨k, -1, true⟩] := by unfold ty7; rw [if_pos hk]
  rw [hty] at hd
  have hw : want7 k i true = true := by
    unfold want7
    subst hc
    rw [show ((5 : Nat) == k) = false by rw [beq_eq_false_iff_ne]; omega]
    rfl
  rw [hw] at hd
  subst hc
  obtain rfl : [110] = v := by simpa [texts7] using hv1
  have t1 : ((5 : Int) == (k : Int)) = false := by rw [beq_eq_false_iff_ne]; omega
  have tg : ¬ (3 : Int) ≤ (k : Int) := by omega
  have HD := Lib.hid hd
  clear hd hv1 hw hty
  go_enter Tryd.func6, Tryd.ntmps6
  go_wp2_with (fail)
  refine (awake7_calls W hv).mono ?_; rintro e w1 ⟨rfl, HB⟩
  have hN := nodes_lit1 w1 (k : Int) (-1) true
  have hB3 : Below w1.heap.size w1 (((w1.alloc (.cells #[.int .i64 (k : Int), .int .i64 (-1), .bool true] 37)).alloc (.cells #[.slice (some ⟨w1.heap.size, 0, none⟩) 1 1] 40)).alloc (.cells (texts7.map tv).toArray 9)) := below_alloc (below_alloc (below_alloc (Below.refl _ _) _) _) _
  have hN2 := hN.below (below_alloc (below_alloc (Below.refl _ _) (.cells #[.slice (some ⟨w1.heap.size, 0, none⟩) 1 1] 40)) (.cells (texts7.map tv).toArray 9))
  have hbx : (((w1.alloc (.cells #[.int .i64 (k : Int), .int .i64 (-1), .bool true] 37)).alloc (.cells #[.slice (some ⟨w1.heap.size, 0, none⟩) 1 1] 40)).alloc (.cells (texts7.map tv).toArray 9)).cell? ⟨w1.heap.size + 1, 0, none⟩ = some (.slice (some ⟨w1.heap.size, 0, none⟩) 1 1) := by
    have h := ((Row.new (w1.alloc (.cells #[.int .i64 (k : Int), .int .i64 (-1), .bool true] 37)) 40 #[.slice (some ⟨w1.heap.size, 0, none⟩) 1 1]).alloc (.cells (texts7.map tv).toArray 9)).cell (i := 0) rfl
    simpa using h
  have hs1 : w1.heap.size + 1 < (((w1.alloc (.cells #[.int .i64 (k : Int), .int .i64 (-1), .bool true] 37)).alloc (.cells #[.slice (some ⟨w1.heap.size, 0, none⟩) 1 1] 40)).alloc (.cells (texts7.map tv).toArray 9)).heap.size := by simp
  have hs2 : w1.heap.size + 1 + 1 < (((w1.alloc (.cells #[.int .i64 (k : Int), .int .i64 (-1), .bool true] 37)).alloc (.cells #[.slice (some ⟨w1.heap.size, 0, none⟩) 1 1] 40)).alloc (.cells (texts7.map tv).toArray 9)).heap.size := by simp
  have htx : (((w1.alloc (.cells #[.int .i64 (k : Int), .int .i64 (-1), .bool true] 37)).alloc (.cells #[.slice (some ⟨w1.heap.size, 0, none⟩) 1 1] 40)).alloc (.cells (texts7.map tv).toArray 9)).cell? ⟨w1.heap.size + 1 + 1, 5, none⟩ = some (tv [110]) := lit_cell _ _ _ _ _ _ (by simp) rfl
  replace HB := below_then HB hB3
  clear hB3 hN
  simp only [texts7, tv, List.map_cons, List.map_nil] at hN2 hbx htx hs1 hs2 HB
  replace hN2 := hN2
  go_wp2_with (fail)
  go_region_held3 (fun w' => w'.cell? ⟨w1.heap.size + 1, 0, none⟩ = some (.slice (some ⟨w1.heap.size, 0, none⟩) 1 1) ∧ w'.cell? ⟨w1.heap.size + 1 + 1, 5, none⟩ = some (tv [110]) ∧ Below W.heap.size W w' ∧ NodesAt w' (.slice (some ⟨w1.heap.size, 0, none⟩) 1 1) [⟨k, -1, true⟩] ∧ w1.heap.size + 1 < w'.heap.size ∧ w1.heap.size + 1 + 1 < w'.heap.size)
    (first | exact ⟨hbx, htx, HB, hN2, hs1, hs2⟩ | exact ⟨hbx, htx, below_drew HB, hN2, hs1, hs2⟩ | (go_split_ands; (refine ⟨?_, ?_, ?_, ?_, ?_, ?_⟩ <;> assumption)))
    (first | (go_at_call 21; refine (fitsB_calls [⟨k, -1, true⟩] _ [110] _ _ _ (hv.below (by repeat (first | exact HB | apply below_drew)) hv.six) (by decide) hln (by first | exact hN2 | exact nodes_drew hN2) (by first | exact HD.out.1 | exact HD.out.2.1 | exact HD.out.2.2)).mono ?_; rintro e w' ⟨rfl, hb⟩; have HB' : Below W.heap.size W w' := (by first | exact below_then HB hb | exact below_then (below_drew HB) hb); have hbx' := (hb.cell (p := ⟨w1.heap.size + 1, 0, none⟩) hs1).trans hbx; have htx' := (hb.cell (p := ⟨w1.heap.size + 1 + 1, 5, none⟩) hs2).trans htx; have hN' : NodesAt w' _ _ := (by first | exact hN2.below hb | exact (nodes_drew hN2).below hb); have hs1' := Nat.lt_of_lt_of_le hs1 hb.size; have hs2' := Nat.lt_of_lt_of_le hs2 hb.size; clear HB hbx htx hN2 hs1 hs2 hb; have HB := HB'; have hbx := hbx'; have htx := htx'; have hN2 := hN'; have hs1 := hs1'; have hs2 := hs2'; clear HB' hbx' htx' hN' hs1' hs2') | (go_at_call 15; refine (num_calls _ _).mono ?_; rintro e w' ⟨rfl, rfl⟩))
  go_wp2
  go_ret
  exact ⟨rfl, HB⟩

set_option maxHeartbeats 1600000 in
set_option maxRecDepth 100000 in
theorem fits7_s_thirteen (a0 a1 : Int) (null : Bool) (k i : Nat) (hk : k < 3) (hi : i < 14) (hke : wrap64 ((IntKind.u64.wrap a0).tmod 5) = (k : Int)) (hie : wrap64 ((IntKind.u64.wrap a1).tmod 14) = (i : Int)) (hc : i = 13) (hk3 : k ≠ 3) (W : World) (hv : Vars W) :
    Calls Tryd.prog 6 #[.int .i64 a0, .int .i64 a1, .bool null] W fun e w' => e = .returned (.bool true) ∧ Below W.heap.size W w' := by
  obtain ⟨v, hv1⟩ : ∃ v, texts7[i]? = some v := ⟨_, List.getElem?_eq_getElem (show i < 14 from hi)⟩
  have hd := fits7_all ⟨k, by omega⟩ ⟨i, hi⟩ null
  have hln := texts7_len ⟨i, hi⟩
  simp only [List.getD_eq_getElem?_getD, hv1, Option.getD_some] at hd hln
  have hty : ty7 k null = [⟨k, -1, null⟩] := by unfold ty7; rw [if_pos hk]
  rw [hty] at hd
  have hw : want7 k i null = false := by
    unfold want7
    subst hc
    rw [show ((13 : Nat) == k) = false by rw [beq_eq_false_iff_ne]; omega, show (k == 3) = false by rw [beq_eq_false_iff_ne]; exact hk3]
    rfl
  rw [hw] at hd
  subst hc
  obtain rfl : [91, 93] = v := by simpa [texts7] using hv1
  have t1 : ((13 : Int) == (k : Int)) = false := by rw [beq_eq_false_iff_ne]; omega
  have t2 : ((k : Int) == 3) = false := by rw [beq_eq_false_iff_ne]; omega
  have tg : ¬ (3 : Int) ≤ (k : Int) := by omega
  have HD := Lib.hid hd
  clear hd hv1 hw hty
  go_enter Tryd.func6, Tryd.ntmps6
  go_wp2_with (fail)
  refine (awake7_calls W hv).mono ?_; rintro e w1 ⟨rfl, HB⟩
  have hN := nodes_lit1 w1 (k : Int) (-1) null
  have hB3 : Below w1.heap.size w1 (((w1.alloc (.cells #[.int .i64 (k : Int), .int .i64 (-1), .bool null] 37)).alloc (.cells #[.slice (some ⟨w1.heap.size, 0, none⟩) 1 1] 40)).alloc (.cells (texts7.map tv).toArray 9)) := below_alloc (below_alloc (below_alloc (Below.refl _ _) _) _) _
  have hN2 := hN.below (below_alloc (below_alloc (Below.refl _ _) (.cells #[.slice (some ⟨w1.heap.size, 0, none⟩) 1 1] 40)) (.cells (texts7.map tv).toArray 9))
  have hbx : (((w1.alloc (.cells #[.int .i64 (k : Int), .int .i64 (-1), .bool null] 37)).alloc (.cells #[.slice (some ⟨w1.heap.size, 0, none⟩) 1 1] 40)).alloc (.cells (texts7.map tv).toArray 9)).cell? ⟨w1.heap.size + 1, 0, none⟩ = some (.slice (some ⟨w1.heap.size, 0, none⟩) 1 1) := by
    have h := ((Row.new (w1.alloc (.cells #[.int .i64 (k : Int), .int .i64 (-1), .bool null] 37)) 40 #[.slice (some ⟨w1.heap.size, 0, none⟩) 1 1]).alloc (.cells (texts7.map tv).toArray 9)).cell (i := 0) rfl
    simpa using h
  have hs1 : w1.heap.size + 1 < (((w1.alloc (.cells #[.int .i64 (k : Int), .int .i64 (-1), .bool null] 37)).alloc (.cells #[.slice (some ⟨w1.heap.size, 0, none⟩) 1 1] 40)).alloc (.cells (texts7.map tv).toArray 9)).heap.size := by simp
  have hs2 : w1.heap.size + 1 + 1 < (((w1.alloc (.cells #[.int .i64 (k : Int), .int .i64 (-1), .bool null] 37)).alloc (.cells #[.slice (some ⟨w1.heap.size, 0, none⟩) 1 1] 40)).alloc (.cells (texts7.map tv).toArray 9)).heap.size := by simp
  have htx : (((w1.alloc (.cells #[.int .i64 (k : Int), .int .i64 (-1), .bool null] 37)).alloc (.cells #[.slice (some ⟨w1.heap.size, 0, none⟩) 1 1] 40)).alloc (.cells (texts7.map tv).toArray 9)).cell? ⟨w1.heap.size + 1 + 1, 13, none⟩ = some (tv [91, 93]) := lit_cell _ _ _ _ _ _ (by simp) rfl
  replace HB := below_then HB hB3
  clear hB3 hN
  simp only [texts7, tv, List.map_cons, List.map_nil] at hN2 hbx htx hs1 hs2 HB
  replace hN2 := hN2
  go_wp2_with (fail)
  go_region_held3 (fun w' => w'.cell? ⟨w1.heap.size + 1, 0, none⟩ = some (.slice (some ⟨w1.heap.size, 0, none⟩) 1 1) ∧ w'.cell? ⟨w1.heap.size + 1 + 1, 13, none⟩ = some (tv [91, 93]) ∧ Below W.heap.size W w' ∧ NodesAt w' (.slice (some ⟨w1.heap.size, 0, none⟩) 1 1) [⟨k, -1, null⟩] ∧ w1.heap.size + 1 < w'.heap.size ∧ w1.heap.size + 1 + 1 < w'.heap.size)
    (first | exact ⟨hbx, htx, HB, hN2, hs1, hs2⟩ | exact ⟨hbx, htx, below_drew HB, hN2, hs1, hs2⟩ | (go_split_ands; (refine ⟨?_, ?_, ?_, ?_, ?_, ?_⟩ <;> assumption)))
    (first | (go_at_call 21; refine (fitsB_calls [⟨k, -1, null⟩] _ [91, 93] _ _ _ (hv.below (by repeat (first | exact HB | apply below_drew)) hv.six) (by decide) hln (by first | exact hN2 | exact nodes_drew hN2) (by first | exact HD.out.1 | exact HD.out.2.1 | exact HD.out.2.2)).mono ?_; rintro e w' ⟨rfl, hb⟩; have HB' : Below W.heap.size W w' := (by first | exact below_then HB hb | exact below_then (below_drew HB) hb); have hbx' := (hb.cell (p := ⟨w1.heap.size + 1, 0, none⟩) hs1).trans hbx; have htx' := (hb.cell (p := ⟨w1.heap.size + 1 + 1, 13, none⟩) hs2).trans htx; have hN' : NodesAt w' _ _ := (by first | exact hN2.below hb | exact (nodes_drew hN2).below hb); have hs1' := Nat.lt_of_lt_of_le hs1 hb.size; have hs2' := Nat.lt_of_lt_of_le hs2 hb.size; clear HB hbx htx hN2 hs1 hs2 hb; have HB := HB'; have hbx := hbx'; have htx := htx'; have hN2 := hN'; have hs1 := hs1'; have hs2 := hs2'; clear HB' hbx' htx' hN' hs1' hs2') | (go_at_call 15; refine (num_calls _ _).mono ?_; rintro e w' ⟨rfl, rfl⟩))
  go_wp2
  go_ret
  exact ⟨rfl, HB⟩

set_option maxHeartbeats 1600000 in
set_option maxRecDepth 100000 in
theorem fits7_s_other (a0 a1 : Int) (null : Bool) (k i : Nat) (hk : k < 3) (hi : i < 14) (hke : wrap64 ((IntKind.u64.wrap a0).tmod 5) = (k : Int)) (hie : wrap64 ((IntKind.u64.wrap a1).tmod 14) = (i : Int)) (hc : i ≠ k) (hc5 : i ≠ 5) (hc13 : i ≠ 13) (W : World) (hv : Vars W) :
    Calls Tryd.prog 6 #[.int .i64 a0, .int .i64 a1, .bool null] W fun e w' => e = .returned (.bool true) ∧ Below W.heap.size W w' := by
  obtain ⟨v, hv1⟩ : ∃ v, texts7[i]? = some v := ⟨_, List.getElem?_eq_getElem (show i < 14 from hi)⟩
  have hd := fits7_all ⟨k, by omega⟩ ⟨i, hi⟩ null
  have hln := texts7_len ⟨i, hi⟩
  simp only [List.getD_eq_getElem?_getD, hv1, Option.getD_some] at hd hln
  have hty : ty7 k null = [⟨k, -1, null⟩] := by unfold ty7; rw [if_pos hk]
  rw [hty] at hd
  have hw : want7 k i null = false := by
    unfold want7
    rw [show (i == k) = false by rw [beq_eq_false_iff_ne]; exact hc, show (i == 5) = false by rw [beq_eq_false_iff_ne]; exact hc5, show (i == 13) = false by rw [beq_eq_false_iff_ne]; exact hc13]
    rfl
  rw [hw] at hd
  have HCv := Lib.hid (show ∀ h : i < (texts7.map tv).length, (texts7.map tv)[i] = tv v from fun h => by
    have : (texts7.map tv)[i]? = some (tv v) := by rw [List.getElem?_map, hv1]; rfl
    rw [List.getElem?_eq_getElem h] at this
    exact Option.some.inj this)
  have i0 : (0 : Int) ≤ (i : Int) := by omega
  have i14 : (i : Int) < 14 := by omega
  have HTX := Lib.hid (show (texts7.map tv).toArray[i]? = some (tv v) by rw [List.getElem?_toArray, List.getElem?_map, hv1]; rfl)
  have t1 : ((i : Int) == (k : Int)) = false := by rw [beq_eq_false_iff_ne]; omega
  have t2 : ((i : Int) == 5) = false := by rw [beq_eq_false_iff_ne]; omega
  have t3 : ((i : Int) == 13) = false := by rw [beq_eq_false_iff_ne]; omega
  have tg : ¬ (3 : Int) ≤ (k : Int) := by omega
  have HD := Lib.hid hd
  clear hd hv1 hw hty
  go_enter Tryd.func6, Tryd.ntmps6
  go_wp2_with (fail)
  refine (awake7_calls W hv).mono ?_; rintro e w1 ⟨rfl, HB⟩
  have hN := nodes_lit1 w1 (k : Int) (-1) null
  have hB3 : Below w1.heap.size w1 (((w1.alloc (.cells #[.int .i64 (k : Int), .int .i64 (-1), .bool null] 37)).alloc (.cells #[.slice (some ⟨w1.heap.size, 0, none⟩) 1 1] 40)).alloc (.cells (texts7.map tv).toArray 9)) := below_alloc (below_alloc (below_alloc (Below.refl _ _) _) _) _
  have hN2 := hN.below (below_alloc (below_alloc (Below.refl _ _) (.cells #[.slice (some ⟨w1.heap.size, 0, none⟩) 1 1] 40)) (.cells (texts7.map tv).toArray 9))
  have hbx : (((w1.alloc (.cells #[.int .i64 (k : Int), .int .i64 (-1), .bool null] 37)).alloc (.cells #[.slice (some ⟨w1.heap.size, 0, none⟩) 1 1] 40)).alloc (.cells (texts7.map tv).toArray 9)).cell? ⟨w1.heap.size + 1, 0, none⟩ = some (.slice (some ⟨w1.heap.size, 0, none⟩) 1 1) := by
    have h := ((Row.new (w1.alloc (.cells #[.int .i64 (k : Int), .int .i64 (-1), .bool null] 37)) 40 #[.slice (some ⟨w1.heap.size, 0, none⟩) 1 1]).alloc (.cells (texts7.map tv).toArray 9)).cell (i := 0) rfl
    simpa using h
  have hs1 : w1.heap.size + 1 < (((w1.alloc (.cells #[.int .i64 (k : Int), .int .i64 (-1), .bool null] 37)).alloc (.cells #[.slice (some ⟨w1.heap.size, 0, none⟩) 1 1] 40)).alloc (.cells (texts7.map tv).toArray 9)).heap.size := by simp
  have hs2 : w1.heap.size + 1 + 1 < (((w1.alloc (.cells #[.int .i64 (k : Int), .int .i64 (-1), .bool null] 37)).alloc (.cells #[.slice (some ⟨w1.heap.size, 0, none⟩) 1 1] 40)).alloc (.cells (texts7.map tv).toArray 9)).heap.size := by simp
  have htx : (((w1.alloc (.cells #[.int .i64 (k : Int), .int .i64 (-1), .bool null] 37)).alloc (.cells #[.slice (some ⟨w1.heap.size, 0, none⟩) 1 1] 40)).alloc (.cells (texts7.map tv).toArray 9)).cell? ⟨w1.heap.size + 1 + 1, i, none⟩ = some (tv v) := lit_cell _ _ _ _ _ _ (by simp) HTX.out
  replace HB := below_then HB hB3
  clear hB3 hN
  have hcv := HCv.out
  simp only [texts7, tv, List.map_cons, List.map_nil] at hN2 hbx htx hs1 hs2 HB hcv
  replace hcv := Lib.hid hcv
  replace hN2 := hN2
  go_wp2_with (fail)
  go_region_held3 (fun w' => w'.cell? ⟨w1.heap.size + 1, 0, none⟩ = some (.slice (some ⟨w1.heap.size, 0, none⟩) 1 1) ∧ w'.cell? ⟨w1.heap.size + 1 + 1, i, none⟩ = some (tv v) ∧ Below W.heap.size W w' ∧ NodesAt w' (.slice (some ⟨w1.heap.size, 0, none⟩) 1 1) [⟨k, -1, null⟩] ∧ w1.heap.size + 1 < w'.heap.size ∧ w1.heap.size + 1 + 1 < w'.heap.size)
    (first | exact ⟨hbx, htx, HB, hN2, hs1, hs2⟩ | exact ⟨hbx, htx, below_drew HB, hN2, hs1, hs2⟩ | (go_split_ands; (refine ⟨?_, ?_, ?_, ?_, ?_, ?_⟩ <;> assumption)))
    (first | (go_at_call 21; refine (fitsB_calls [⟨k, -1, null⟩] _ v _ _ _ (hv.below (by repeat (first | exact HB | apply below_drew)) hv.six) (by decide) hln (by first | exact hN2 | exact nodes_drew hN2) (by first | exact HD.out.1 | exact HD.out.2.1 | exact HD.out.2.2)).mono ?_; rintro e w' ⟨rfl, hb⟩; have HB' : Below W.heap.size W w' := (by first | exact below_then HB hb | exact below_then (below_drew HB) hb); have hbx' := (hb.cell (p := ⟨w1.heap.size + 1, 0, none⟩) hs1).trans hbx; have htx' := (hb.cell (p := ⟨w1.heap.size + 1 + 1, i, none⟩) hs2).trans htx; have hN' : NodesAt w' _ _ := (by first | exact hN2.below hb | exact (nodes_drew hN2).below hb); have hs1' := Nat.lt_of_lt_of_le hs1 hb.size; have hs2' := Nat.lt_of_lt_of_le hs2 hb.size; clear HB hbx htx hN2 hs1 hs2 hb; have HB := HB'; have hbx := hbx'; have htx := htx'; have hN2 := hN'; have hs1 := hs1'; have hs2 := hs2'; clear HB' hbx' htx' hN' hs1' hs2') | (go_at_call 15; refine (num_calls _ _).mono ?_; rintro e w' ⟨rfl, rfl⟩))
  go_wp2
  go_ret
  exact ⟨rfl, HB⟩

set_option maxHeartbeats 1600000 in
set_option maxRecDepth 100000 in
theorem fits7_b_eq (a0 a1 : Int) (null : Bool) (k i : Nat) (hk : 3 ≤ k ∧ k < 5) (hi : i < 14) (hke : wrap64 ((IntKind.u64.wrap a0).tmod 5) = (k : Int)) (hie : wrap64 ((IntKind.u64.wrap a1).tmod 14) = (i : Int)) (hc : i = k) (W : World) (hv : Vars W) :
    Calls Tryd.prog 6 #[.int .i64 a0, .int .i64 a1, .bool null] W fun e w' => e = .returned (.bool true) ∧ Below W.heap.size W w' := by
  obtain ⟨v, hv1⟩ : ∃ v, texts7[i]? = some v := ⟨_, List.getElem?_eq_getElem (show i < 14 from hi)⟩
  have hd := fits7_all ⟨k, by omega⟩ ⟨i, hi⟩ null
  have hln := texts7_len ⟨i, hi⟩
  simp only [List.getD_eq_getElem?_getD, hv1, Option.getD_some] at hd hln
  have hty : ty7 k null = [⟨k, -1, null⟩, ⟨0, 0, false⟩] := by unfold ty7; rw [if_neg (by omega)]
  rw [hty] at hd
  have hw : want7 k i null = true := by
    unfold want7
    simp [hc]
  rw [hw] at hd
  have HCv := Lib.hid (show ∀ h : i < (texts7.map tv).length, (texts7.map tv)[i] = tv v from fun h => by
    have : (texts7.map tv)[i]? = some (tv v) := by rw [List.getElem?_map, hv1]; rfl
    rw [List.getElem?_eq_getElem h] at this
    exact Option.some.inj this)
  have i0 : (0 : Int) ≤ (i : Int) := by omega
  have i14 : (i : Int) < 14 := by omega
  have HTX := Lib.hid (show (texts7.map tv).toArray[i]? = some (tv v) by rw [List.getElem?_toArray, List.getElem?_map, hv1]; rfl)
  subst hc
  have tg : (3 : Int) ≤ (i : Int) := by omega
  have HD := Lib.hid hd
  clear hd hv1 hw hty
  go_enter Tryd.func6, Tryd.ntmps6
  go_wp2_with (fail)
  refine (awake7_calls W hv).mono ?_; rintro e w1 ⟨rfl, HB⟩
  have hRow := (Row.new (w1.alloc (.cells #[.int .i64 (i : Int), .int .i64 (-1), .bool null] 37)) 40 #[.slice (some ⟨w1.heap.size, 0, none⟩) 1 1])
  rw [show (w1.alloc (.cells #[.int .i64 (i : Int), .int .i64 (-1), .bool null] 37)).heap.size = w1.heap.size + 1 by simp] at hRow
  have HR := Lib.hid hRow
  clear hRow
  have HO := Lib.hid ((own_litN w1 W.heap.size 37 3 1 (ndv ⟨(i : Int), -1, null⟩) HB.size rfl (by decide)).alloc (.cells #[.slice (some ⟨w1.heap.size, 0, none⟩) 1 1] 40))
  have hB0 : Below W.heap.size W ((w1.alloc (.cells #[.int .i64 (i : Int), .int .i64 (-1), .bool null] 37)).alloc (.cells #[.slice (some ⟨w1.heap.size, 0, none⟩) 1 1] 40)) := below_alloc (below_alloc HB _) _
  have hsz0 : W.heap.size ≤ w1.heap.size := HB.size
  have HB0 := Lib.hid hB0
  clear hB0
  go_wp2_with (at_builtin; refine wp_appN (w0 := (w1.alloc (.cells #[.int .i64 (i : Int), .int .i64 (-1), .bool null] 37)).alloc (.cells #[.slice (some ⟨w1.heap.size, 0, none⟩) 1 1] 40)) (us := ndv ⟨0, 0, false⟩) rfl _ _ 38 37 rfl W.heap.size 3 24 (.agg #[.int .i64 0, .int .i64 0, .bool false]) Tryd.underlying38 info_node rfl (by decide) (.slice (some ⟨w1.heap.size, 0, none⟩) 1 1) 1 _ rfl (by simp [ndv, Value.oneCell']) rfl rfl (by simp) HO.out (by decide) (by decide) (by simp; omega) ?_; intro v2 w2 ho2 hb2 hg2; obtain ⟨va, vc, rfl⟩ := own_sliceN ho2; have hrw := HR.out.grown hg2 (by simp [Value.ownBlock]); have hbc : w2.cell? ⟨w1.heap.size + 1, 0, none⟩ = some (.slice (some ⟨w1.heap.size, 0, none⟩) 1 1) := hrw.cell (i := 0) rfl; have hbf : w2.frozen? ⟨w1.heap.size + 1, 0, none⟩ = false := hrw.free (i := 0) (by simp))
  have hB2 : Below W.heap.size W w2 := HB0.out.trans hb2
  have hB3 : Below W.heap.size W ((w2.setCell ⟨w1.heap.size + 1, 0, none⟩ (.slice va 2 vc)).alloc (.cells (texts7.map tv).toArray 9)) := below_alloc (below_set hB2 (by simp; omega) _) _
  have hne := own_ne ho2 (show w2.heap[w1.heap.size + 1]? = some _ from hrw.choose_spec.choose_spec.1) (by decide)
  have hW := World.grownBy_alloc
  have ho3 := ho2.kept (grown_set (grown_refl w2 (some (w1.heap.size + 1))) 0 (.slice va 2 vc)) hne
  have ho4 := own_below ho3 (below_alloc (Below.refl _ _) (.cells (texts7.map tv).toArray 9))
  have hN2 := own_nodes (ns := [⟨i, -1, null⟩, ⟨0, 0, false⟩]) ho4
  have hbx : ((w2.setCell ⟨w1.heap.size + 1, 0, none⟩ (.slice va 2 vc)).alloc (.cells (texts7.map tv).toArray 9)).cell? ⟨w1.heap.size + 1, 0, none⟩ = some (.slice va 2 vc) := ((hrw.set 0 (.slice va 2 vc)).alloc _).cell (i := 0) rfl
  have hs1 : w1.heap.size + 1 < ((w2.setCell ⟨w1.heap.size + 1, 0, none⟩ (.slice va 2 vc)).alloc (.cells (texts7.map tv).toArray 9)).heap.size := ((hrw.set 0 (.slice va 2 vc)).alloc _).lt
  have hsw : (w2.setCell ⟨w1.heap.size + 1, 0, none⟩ (.slice va 2 vc)).heap.size = w2.heap.size := by simp [World.setCell]
  have hs2 : w2.heap.size < ((w2.setCell ⟨w1.heap.size + 1, 0, none⟩ (.slice va 2 vc)).alloc (.cells (texts7.map tv).toArray 9)).heap.size := by simp [World.setCell]
  have htx : ((w2.setCell ⟨w1.heap.size + 1, 0, none⟩ (.slice va 2 vc)).alloc (.cells (texts7.map tv).toArray 9)).cell? ⟨w2.heap.size, i, none⟩ = some (tv v) := lit_cell _ _ _ _ _ _ hsw HTX.out
  clear hbc hbf hrw hne ho2 ho3 ho4 hB2 hW HB hg2 hb2 HR HO HB0
  have HB := hB3
  clear hB3
  have hcv := HCv.out
  simp only [texts7, tv, List.map_cons, List.map_nil] at hN2 hbx htx hs1 hs2 HB hcv
  replace hcv := Lib.hid hcv
  replace hN2 := hN2
  go_wp2_with (fail)
  go_region_held3 (fun w' => w'.cell? ⟨w1.heap.size + 1, 0, none⟩ = some (.slice va 2 vc) ∧ w'.cell? ⟨w2.heap.size, i, none⟩ = some (tv v) ∧ Below W.heap.size W w' ∧ NodesAt w' (.slice va 2 vc) [⟨i, -1, null⟩, ⟨0, 0, false⟩] ∧ w1.heap.size + 1 < w'.heap.size ∧ w2.heap.size < w'.heap.size)
    (first | exact ⟨hbx, htx, HB, hN2, hs1, hs2⟩ | exact ⟨hbx, htx, below_drew HB, hN2, hs1, hs2⟩ | (go_split_ands; (refine ⟨?_, ?_, ?_, ?_, ?_, ?_⟩ <;> assumption)))
    (first | (go_at_call 21; refine (fitsB_calls [⟨i, -1, null⟩, ⟨0, 0, false⟩] _ v _ _ _ (hv.below (by repeat (first | exact HB | apply below_drew)) hv.six) (by decide) hln (by first | exact hN2 | exact nodes_drew hN2) (by first | exact HD.out.1 | exact HD.out.2.1 | exact HD.out.2.2)).mono ?_; rintro e w' ⟨rfl, hb⟩; have HB' : Below W.heap.size W w' := (by first | exact below_then HB hb | exact below_then (below_drew HB) hb); have hbx' := (hb.cell (p := ⟨w1.heap.size + 1, 0, none⟩) hs1).trans hbx; have htx' := (hb.cell (p := ⟨w2.heap.size, i, none⟩) hs2).trans htx; have hN' : NodesAt w' _ _ := (by first | exact hN2.below hb | exact (nodes_drew hN2).below hb); have hs1' := Nat.lt_of_lt_of_le hs1 hb.size; have hs2' := Nat.lt_of_lt_of_le hs2 hb.size; clear HB hbx htx hN2 hs1 hs2 hb; have HB := HB'; have hbx := hbx'; have htx := htx'; have hN2 := hN'; have hs1 := hs1'; have hs2 := hs2'; clear HB' hbx' htx' hN' hs1' hs2') | (go_at_call 15; refine (num_calls _ _).mono ?_; rintro e w' ⟨rfl, rfl⟩))
  go_wp2
  go_ret
  exact ⟨rfl, HB⟩

set_option maxHeartbeats 1600000 in
set_option maxRecDepth 100000 in
theorem fits7_b_five0 (a0 a1 : Int) (k i : Nat) (hk : 3 ≤ k ∧ k < 5) (hi : i < 14) (hke : wrap64 ((IntKind.u64.wrap a0).tmod 5) = (k : Int)) (hie : wrap64 ((IntKind.u64.wrap a1).tmod 14) = (i : Int)) (hc : i = 5) (W : World) (hv : Vars W) :
    Calls Tryd.prog 6 #[.int .i64 a0, .int .i64 a1, .bool false] W fun e w' => e = .returned (.bool true) ∧ Below W.heap.size W w' := by
  obtain ⟨v, hv1⟩ : ∃ v, texts7[i]? = some v := ⟨_, List.getElem?_eq_getElem (show i < 14 from hi)⟩
  have hd := fits7_all ⟨k, by omega⟩ ⟨i, hi⟩ false
  have hln := texts7_len ⟨i, hi⟩
  simp only [List.getD_eq_getElem?_getD, hv1, Option.getD_some] at hd hln
  have hty : ty7 k false = [⟨k, -1, false⟩, ⟨0, 0, false⟩] := by unfold ty7; rw [if_neg (by omega)]
  rw [hty] at hd
  have hw : want7 k i false = false := by
    unfold want7
    subst hc
    rw [show ((5 : Nat) == k) = false by rw [beq_eq_false_iff_ne]; omega]
    rfl
  rw [hw] at hd
  subst hc
  obtain rfl : [110] = v := by simpa [texts7] using hv1
  have t1 : ((5 : Int) == (k : Int)) = false := by rw [beq_eq_false_iff_ne]; omega
  have tg : (3 : Int) ≤ (k : Int) := by omega
  have HD := Lib.hid hd
  clear hd hv1 hw hty
  go_enter Tryd.func6, Tryd.ntmps6
  go_wp2_with (fail)
  refine (awake7_calls W hv).mono ?_; rintro e w1 ⟨rfl, HB⟩
  have hRow := (Row.new (w1.alloc (.cells #[.int .i64 (k : Int), .int .i64 (-1), .bool false] 37)) 40 #[.slice (some ⟨w1.heap.size, 0, none⟩) 1 1])
  rw [show (w1.alloc (.cells #[.int .i64 (k : Int), .int .i64 (-1), .bool false] 37)).heap.size = w1.heap.size + 1 by simp] at hRow
  have HR := Lib.hid hRow
  clear hRow
  have HO := Lib.hid ((own_litN w1 W.heap.size 37 3 1 (ndv ⟨(k : Int), -1, false⟩) HB.size rfl (by decide)).alloc (.cells #[.slice (some ⟨w1.heap.size, 0, none⟩) 1 1] 40))
  have hB0 : Below W.heap.size W ((w1.alloc (.cells #[.int .i64 (k : Int), .int .i64 (-1), .bool false] 37)).alloc (.cells #[.slice (some ⟨w1.heap.size, 0, none⟩) 1 1] 40)) := below_alloc (below_alloc HB _) _
  have hsz0 : W.heap.size ≤ w1.heap.size := HB.size
  have HB0 := Lib.hid hB0
  clear hB0
  go_wp2_with (at_builtin; refine wp_appN (w0 := (w1.alloc (.cells #[.int .i64 (k : Int), .int .i64 (-1), .bool false] 37)).alloc (.cells #[.slice (some ⟨w1.heap.size, 0, none⟩) 1 1] 40)) (us := ndv ⟨0, 0, false⟩) rfl _ _ 38 37 rfl W.heap.size 3 24 (.agg #[.int .i64 0, .int .i64 0, .bool false]) Tryd.underlying38 info_node rfl (by decide) (.slice (some ⟨w1.heap.size, 0, none⟩) 1 1) 1 _ rfl (by simp [ndv, Value.oneCell']) rfl rfl (by simp) HO.out (by decide) (by decide) (by simp; omega) ?_; intro v2 w2 ho2 hb2 hg2; obtain ⟨va, vc, rfl⟩ := own_sliceN ho2; have hrw := HR.out.grown hg2 (by simp [Value.ownBlock]); have hbc : w2.cell? ⟨w1.heap.size + 1, 0, none⟩ = some (.slice (some ⟨w1.heap.size, 0, none⟩) 1 1) := hrw.cell (i := 0) rfl; have hbf : w2.frozen? ⟨w1.heap.size + 1, 0, none⟩ = false := hrw.free (i := 0) (by simp))
  have hB2 : Below W.heap.size W w2 := HB0.out.trans hb2
  have hB3 : Below W.heap.size W ((w2.setCell ⟨w1.heap.size + 1, 0, none⟩ (.slice va 2 vc)).alloc (.cells (texts7.map tv).toArray 9)) := below_alloc (below_set hB2 (by simp; omega) _) _
  have hne := own_ne ho2 (show w2.heap[w1.heap.size + 1]? = some _ from hrw.choose_spec.choose_spec.1) (by decide)
  have hW := World.grownBy_alloc
  have ho3 := ho2.kept (grown_set (grown_refl w2 (some (w1.heap.size + 1))) 0 (.slice va 2 vc)) hne
  have ho4 := own_below ho3 (below_alloc (Below.refl _ _) (.cells (texts7.map tv).toArray 9))
  have hN2 := own_nodes (ns := [⟨k, -1, false⟩, ⟨0, 0, false⟩]) ho4
  have hbx : ((w2.setCell ⟨w1.heap.size + 1, 0, none⟩ (.slice va 2 vc)).alloc (.cells (texts7.map tv).toArray 9)).cell? ⟨w1.heap.size + 1, 0, none⟩ = some (.slice va 2 vc) := ((hrw.set 0 (.slice va 2 vc)).alloc _).cell (i := 0) rfl
  have hs1 : w1.heap.size + 1 < ((w2.setCell ⟨w1.heap.size + 1, 0, none⟩ (.slice va 2 vc)).alloc (.cells (texts7.map tv).toArray 9)).heap.size := ((hrw.set 0 (.slice va 2 vc)).alloc _).lt
  have hsw : (w2.setCell ⟨w1.heap.size + 1, 0, none⟩ (.slice va 2 vc)).heap.size = w2.heap.size := by simp [World.setCell]
  have hs2 : w2.heap.size < ((w2.setCell ⟨w1.heap.size + 1, 0, none⟩ (.slice va 2 vc)).alloc (.cells (texts7.map tv).toArray 9)).heap.size := by simp [World.setCell]
  have htx : ((w2.setCell ⟨w1.heap.size + 1, 0, none⟩ (.slice va 2 vc)).alloc (.cells (texts7.map tv).toArray 9)).cell? ⟨w2.heap.size, 5, none⟩ = some (tv [110]) := lit_cell _ _ _ _ _ _ hsw rfl
  clear hbc hbf hrw hne ho2 ho3 ho4 hB2 hW HB hg2 hb2 HR HO HB0
  have HB := hB3
  clear hB3
  simp only [texts7, tv, List.map_cons, List.map_nil] at hN2 hbx htx hs1 hs2 HB
  replace hN2 := hN2
  go_wp2_with (fail)
  go_region_held3 (fun w' => w'.cell? ⟨w1.heap.size + 1, 0, none⟩ = some (.slice va 2 vc) ∧ w'.cell? ⟨w2.heap.size, 5, none⟩ = some (tv [110]) ∧ Below W.heap.size W w' ∧ NodesAt w' (.slice va 2 vc) [⟨k, -1, false⟩, ⟨0, 0, false⟩] ∧ w1.heap.size + 1 < w'.heap.size ∧ w2.heap.size < w'.heap.size)
    (first | exact ⟨hbx, htx, HB, hN2, hs1, hs2⟩ | exact ⟨hbx, htx, below_drew HB, hN2, hs1, hs2⟩ | (go_split_ands; (refine ⟨?_, ?_, ?_, ?_, ?_, ?_⟩ <;> assumption)))
    (first | (go_at_call 21; refine (fitsB_calls [⟨k, -1, false⟩, ⟨0, 0, false⟩] _ [110] _ _ _ (hv.below (by repeat (first | exact HB | apply below_drew)) hv.six) (by decide) hln (by first | exact hN2 | exact nodes_drew hN2) (by first | exact HD.out.1 | exact HD.out.2.1 | exact HD.out.2.2)).mono ?_; rintro e w' ⟨rfl, hb⟩; have HB' : Below W.heap.size W w' := (by first | exact below_then HB hb | exact below_then (below_drew HB) hb); have hbx' := (hb.cell (p := ⟨w1.heap.size + 1, 0, none⟩) hs1).trans hbx; have htx' := (hb.cell (p := ⟨w2.heap.size, 5, none⟩) hs2).trans htx; have hN' : NodesAt w' _ _ := (by first | exact hN2.below hb | exact (nodes_drew hN2).below hb); have hs1' := Nat.lt_of_lt_of_le hs1 hb.size; have hs2' := Nat.lt_of_lt_of_le hs2 hb.size; clear HB hbx htx hN2 hs1 hs2 hb; have HB := HB'; have hbx := hbx'; have htx := htx'; have hN2 := hN'; have hs1 := hs1'; have hs2 := hs2'; clear HB' hbx' htx' hN' hs1' hs2') | (go_at_call 15; refine (num_calls _ _).mono ?_; rintro e w' ⟨rfl, rfl⟩))
  go_wp2
  go_ret
  exact ⟨rfl, HB⟩

set_option maxHeartbeats 1600000 in
set_option maxRecDepth 100000 in
theorem fits7_b_five1 (a0 a1 : Int) (k i : Nat) (hk : 3 ≤ k ∧ k < 5) (hi : i < 14) (hke : wrap64 ((IntKind.u64.wrap a0).tmod 5) = (k : Int)) (hie : wrap64 ((IntKind.u64.wrap a1).tmod 14) = (i : Int)) (hc : i = 5) (W : World) (hv : Vars W) :
    Calls Tryd.prog 6 #[.int .i64 a0, .int .i64 a1, .bool true] W fun e w' => e = .returned (.bool true) ∧ Below W.heap.size W w' := by
  obtain ⟨v, hv1⟩ : ∃ v, texts7[i]? = some v := ⟨_, List.getElem?_eq_getElem (show i < 14 from hi)⟩
  have hd := fits7_all ⟨k, by omega⟩ ⟨i, hi⟩ true
  have hln := texts7_len ⟨i, hi⟩
  simp only [List.getD_eq_getElem?_getD, hv1, Option.getD_some] at hd hln
  have hty : ty7 k true = [⟨k, -1, true⟩, ⟨0, 0, false⟩] := by unfold ty7; rw [if_neg (by omega)]
  rw [hty] at hd
  have hw : want7 k i true = true := by
    unfold want7
    subst hc
    rw [show ((5 : Nat) == k) = false by rw [beq_eq_false_iff_ne]; omega]
    rfl
  rw [hw] at hd
  subst hc
  obtain rfl : [110] = v := by simpa [texts7] using hv1
  have t1 : ((5 : Int) == (k : Int)) = false := by rw [beq_eq_false_iff_ne]; omega
  have tg : (3 : Int) ≤ (k : Int) := by omega
  have HD := Lib.hid hd
  clear hd hv1 hw hty
  go_enter Tryd.func6, Tryd.ntmps6
  go_wp2_with (fail)
  refine (awake7_calls W hv).mono ?_; rintro e w1 ⟨rfl, HB⟩
  have hRow := (Row.new (w1.alloc (.cells #[.int .i64 (k : Int), .int .i64 (-1), .bool true] 37)) 40 #[.slice (some ⟨w1.heap.size, 0, none⟩) 1 1])
  rw [show (w1.alloc (.cells #[.int .i64 (k : Int), .int .i64 (-1), .bool true] 37)).heap.size = w1.heap.size + 1 by simp] at hRow
  have HR := Lib.hid hRow
  clear hRow
  have HO := Lib.hid ((own_litN w1 W.heap.size 37 3 1 (ndv ⟨(k : Int), -1, true⟩) HB.size rfl (by decide)).alloc (.cells #[.slice (some ⟨w1.heap.size, 0, none⟩) 1 1] 40))
  have hB0 : Below W.heap.size W ((w1.alloc (.cells #[.int .i64 (k : Int), .int .i64 (-1), .bool true] 37)).alloc (.cells #[.slice (some ⟨w1.heap.size, 0, none⟩) 1 1] 40)) := below_alloc (below_alloc HB _) _
  have hsz0 : W.heap.size ≤ w1.heap.size := HB.size
  have HB0 := Lib.hid hB0
  clear hB0
  go_wp2_with (at_builtin; refine wp_appN (w0 := (w1.alloc (.cells #[.int .i64 (k : Int), .int .i64 (-1), .bool true] 37)).alloc (.cells #[.slice (some ⟨w1.heap.size, 0, none⟩) 1 1] 40)) (us := ndv ⟨0, 0, false⟩) rfl _ _ 38 37 rfl W.heap.size 3 24 (.agg #[.int .i64 0, .int .i64 0, .bool false]) Tryd.underlying38 info_node rfl (by decide) (.slice (some ⟨w1.heap.size, 0, none⟩) 1 1) 1 _ rfl (by simp [ndv, Value.oneCell']) rfl rfl (by simp) HO.out (by decide) (by decide) (by simp; omega) ?_; intro v2 w2 ho2 hb2 hg2; obtain ⟨va, vc, rfl⟩ := own_sliceN ho2; have hrw := HR.out.grown hg2 (by simp [Value.ownBlock]); have hbc : w2.cell? ⟨w1.heap.size + 1, 0, none⟩ = some (.slice (some ⟨w1.heap.size, 0, none⟩) 1 1) := hrw.cell (i := 0) rfl; have hbf : w2.frozen? ⟨w1.heap.size + 1, 0, none⟩ = false := hrw.free (i := 0) (by simp))
  have hB2 : Below W.heap.size W w2 := HB0.out.trans hb2
  have hB3 : Below W.heap.size W ((w2.setCell ⟨w1.heap.size + 1, 0, none⟩ (.slice va 2 vc)).alloc (.cells (texts7.map tv).toArray 9)) := below_alloc (below_set hB2 (by simp; omega) _) _
  have hne := own_ne ho2 (show w2.heap[w1.heap.size + 1]? = some _ from hrw.choose_spec.choose_spec.1) (by decide)
  have hW := World.grownBy_alloc
  have ho3 := ho2.kept (grown_set (grown_refl w2 (some (w1.heap.size + 1))) 0 (.slice va 2 vc)) hne
  have ho4 := own_below ho3 (below_alloc (Below.refl _ _) (.cells (texts7.map tv).toArray 9))
  have hN2 := own_nodes (ns := [⟨k, -1, true⟩, ⟨0, 0, false⟩]) ho4
  have hbx : ((w2.setCell ⟨w1.heap.size + 1, 0, none⟩ (.slice va 2 vc)).alloc (.cells (texts7.map tv).toArray 9)).cell? ⟨w1.heap.size + 1, 0, none⟩ = some (.slice va 2 vc) := ((hrw.set 0 (.slice va 2 vc)).alloc _).cell (i := 0) rfl
  have hs1 : w1.heap.size + 1 < ((w2.setCell ⟨w1.heap.size + 1, 0, none⟩ (.slice va 2 vc)).alloc (.cells (texts7.map tv).toArray 9)).heap.size := ((hrw.set 0 (.slice va 2 vc)).alloc _).lt
  have hsw : (w2.setCell ⟨w1.heap.size + 1, 0, none⟩ (.slice va 2 vc)).heap.size = w2.heap.size := by simp [World.setCell]
  have hs2 : w2.heap.size < ((w2.setCell ⟨w1.heap.size + 1, 0, none⟩ (.slice va 2 vc)).alloc (.cells (texts7.map tv).toArray 9)).heap.size := by simp [World.setCell]
  have htx : ((w2.setCell ⟨w1.heap.size + 1, 0, none⟩ (.slice va 2 vc)).alloc (.cells (texts7.map tv).toArray 9)).cell? ⟨w2.heap.size, 5, none⟩ = some (tv [110]) := lit_cell _ _ _ _ _ _ hsw rfl
  clear hbc hbf hrw hne ho2 ho3 ho4 hB2 hW HB hg2 hb2 HR HO HB0
  have HB := hB3
  clear hB3
  simp only [texts7, tv, List.map_cons, List.map_nil] at hN2 hbx htx hs1 hs2 HB
  replace hN2 := hN2
  go_wp2_with (fail)
  go_region_held3 (fun w' => w'.cell? ⟨w1.heap.size + 1, 0, none⟩ = some (.slice va 2 vc) ∧ w'.cell? ⟨w2.heap.size, 5, none⟩ = some (tv [110]) ∧ Below W.heap.size W w' ∧ NodesAt w' (.slice va 2 vc) [⟨k, -1, true⟩, ⟨0, 0, false⟩] ∧ w1.heap.size + 1 < w'.heap.size ∧ w2.heap.size < w'.heap.size)
    (first | exact ⟨hbx, htx, HB, hN2, hs1, hs2⟩ | exact ⟨hbx, htx, below_drew HB, hN2, hs1, hs2⟩ | (go_split_ands; (refine ⟨?_, ?_, ?_, ?_, ?_, ?_⟩ <;> assumption)))
    (first | (go_at_call 21; refine (fitsB_calls [⟨k, -1, true⟩, ⟨0, 0, false⟩] _ [110] _ _ _ (hv.below (by repeat (first | exact HB | apply below_drew)) hv.six) (by decide) hln (by first | exact hN2 | exact nodes_drew hN2) (by first | exact HD.out.1 | exact HD.out.2.1 | exact HD.out.2.2)).mono ?_; rintro e w' ⟨rfl, hb⟩; have HB' : Below W.heap.size W w' := (by first | exact below_then HB hb | exact below_then (below_drew HB) hb); have hbx' := (hb.cell (p := ⟨w1.heap.size + 1, 0, none⟩) hs1).trans hbx; have htx' := (hb.cell (p := ⟨w2.heap.size, 5, none⟩) hs2).trans htx; have hN' : NodesAt w' _ _ := (by first | exact hN2.below hb | exact (nodes_drew hN2).below hb); have hs1' := Nat.lt_of_lt_of_le hs1 hb.size; have hs2' := Nat.lt_of_lt_of_le hs2 hb.size; clear HB hbx htx hN2 hs1 hs2 hb; have HB := HB'; have hbx := hbx'; have htx := htx'; have hN2 := hN'; have hs1 := hs1'; have hs2 := hs2'; clear HB' hbx' htx' hN' hs1' hs2') | (go_at_call 15; refine (num_calls _ _).mono ?_; rintro e w' ⟨rfl, rfl⟩))
  go_wp2
  go_ret
  exact ⟨rfl, HB⟩

set_option maxHeartbeats 1600000 in
set_option maxRecDepth 100000 in
theorem fits7_b_thirteen (a0 a1 : Int) (null : Bool) (k i : Nat) (hk : 3 ≤ k ∧ k < 5) (hi : i < 14) (hke : wrap64 ((IntKind.u64.wrap a0).tmod 5) = (k : Int)) (hie : wrap64 ((IntKind.u64.wrap a1).tmod 14) = (i : Int)) (hc : i = 13) (hk3 : k ≠ 3) (W : World) (hv : Vars W) :
    Calls Tryd.prog 6 #[.int .i64 a0, .int .i64 a1, .bool null] W fun e w' => e = .returned (.bool true) ∧ Below W.heap.size W w' := by
  obtain ⟨v, hv1⟩ : ∃ v, texts7[i]? = some v := ⟨_, List.getElem?_eq_getElem (show i < 14 from hi)⟩
  have hd := fits7_all ⟨k, by omega⟩ ⟨i, hi⟩ null
  have hln := texts7_len ⟨i, hi⟩
  simp only [List.getD_eq_getElem?_getD, hv1, Option.getD_some] at hd hln
  have hty : ty7 k null = [⟨k, -1, null⟩, ⟨0, 0, false⟩] := by unfold ty7; rw [if_neg (by omega)]
  rw [hty] at hd
  have hw : want7 k i null = false := by
    unfold want7
    subst hc
    rw [show ((13 : Nat) == k) = false by rw [beq_eq_false_iff_ne]; omega, show (k == 3) = false by rw [beq_eq_false_iff_ne]; exact hk3]
    rfl
  rw [hw] at hd
  subst hc
  obtain rfl : [91, 93] = v := by simpa [texts7] using hv1
  have t1 : ((13 : Int) == (k : Int)) = false := by rw [beq_eq_false_iff_ne]; omega
  have t2 : ((k : Int) == 3) = false := by rw [beq_eq_false_iff_ne]; omega
  have tg : (3 : Int) ≤ (k : Int) := by omega
  have HD := Lib.hid hd
  clear hd hv1 hw hty
  go_enter Tryd.func6, Tryd.ntmps6
  go_wp2_with (fail)
  refine (awake7_calls W hv).mono ?_; rintro e w1 ⟨rfl, HB⟩
  have hRow := (Row.new (w1.alloc (.cells #[.int .i64 (k : Int), .int .i64 (-1), .bool null] 37)) 40 #[.slice (some ⟨w1.heap.size, 0, none⟩) 1 1])
  rw [show (w1.alloc (.cells #[.int .i64 (k : Int), .int .i64 (-1), .bool null] 37)).heap.size = w1.heap.size + 1 by simp] at hRow
  have HR := Lib.hid hRow
  clear hRow
  have HO := Lib.hid ((own_litN w1 W.heap.size 37 3 1 (ndv ⟨(k : Int), -1, null⟩) HB.size rfl (by decide)).alloc (.cells #[.slice (some ⟨w1.heap.size, 0, none⟩) 1 1] 40))
  have hB0 : Below W.heap.size W ((w1.alloc (.cells #[.int .i64 (k : Int), .int .i64 (-1), .bool null] 37)).alloc (.cells #[.slice (some ⟨w1.heap.size, 0, none⟩) 1 1] 40)) := below_alloc (below_alloc HB _) _
  have hsz0 : W.heap.size ≤ w1.heap.size := HB.size
  have HB0 := Lib.hid hB0
  clear hB0
  go_wp2_with (at_builtin; refine wp_appN (w0 := (w1.alloc (.cells #[.int .i64 (k : Int), .int .i64 (-1), .bool null] 37)).alloc (.cells #[.slice (some ⟨w1.heap.size, 0, none⟩) 1 1] 40)) (us := ndv ⟨0, 0, false⟩) rfl _ _ 38 37 rfl W.heap.size 3 24 (.agg #[.int .i64 0, .int .i64 0, .bool false]) Tryd.underlying38 info_node rfl (by decide) (.slice (some ⟨w1.heap.size, 0, none⟩) 1 1) 1 _ rfl (by simp [ndv, Value.oneCell']) rfl rfl (by simp) HO.out (by decide) (by decide) (by simp; omega) ?_; intro v2 w2 ho2 hb2 hg2; obtain ⟨va, vc, rfl⟩ := own_sliceN ho2; have hrw := HR.out.grown hg2 (by simp [Value.ownBlock]); have hbc : w2.cell? ⟨w1.heap.size + 1, 0, none⟩ = some (.slice (some ⟨w1.heap.size, 0, none⟩) 1 1) := hrw.cell (i := 0) rfl; have hbf : w2.frozen? ⟨w1.heap.size + 1, 0, none⟩ = false := hrw.free (i := 0) (by simp))
  have hB2 : Below W.heap.size W w2 := HB0.out.trans hb2
  have hB3 : Below W.heap.size W ((w2.setCell ⟨w1.heap.size + 1, 0, none⟩ (.slice va 2 vc)).alloc (.cells (texts7.map tv).toArray 9)) := below_alloc (below_set hB2 (by simp; omega) _) _
  have hne := own_ne ho2 (show w2.heap[w1.heap.size + 1]? = some _ from hrw.choose_spec.choose_spec.1) (by decide)
  have hW := World.grownBy_alloc
  have ho3 := ho2.kept (grown_set (grown_refl w2 (some (w1.heap.size + 1))) 0 (.slice va 2 vc)) hne
  have ho4 := own_below ho3 (below_alloc (Below.refl _ _) (.cells (texts7.map tv).toArray 9))
  have hN2 := own_nodes (ns := [⟨k, -1, null⟩, ⟨0, 0, false⟩]) ho4
  have hbx : ((w2.setCell ⟨w1.heap.size + 1, 0, none⟩ (.slice va 2 vc)).alloc (.cells (texts7.map tv).toArray 9)).cell? ⟨w1.heap.size + 1, 0, none⟩ = some (.slice va 2 vc) := ((hrw.set 0 (.slice va 2 vc)).alloc _).cell (i := 0) rfl
  have hs1 : w1.heap.size + 1 < ((w2.setCell ⟨w1.heap.size + 1, 0, none⟩ (.slice va 2 vc)).alloc (.cells (texts7.map tv).toArray 9)).heap.size := ((hrw.set 0 (.slice va 2 vc)).alloc _).lt
  have hsw : (w2.setCell ⟨w1.heap.size + 1, 0, none⟩ (.slice va 2 vc)).heap.size = w2.heap.size := by simp [World.setCell]
  have hs2 : w2.heap.size < ((w2.setCell ⟨w1.heap.size + 1, 0, none⟩ (.slice va 2 vc)).alloc (.cells (texts7.map tv).toArray 9)).heap.size := by simp [World.setCell]
  have htx : ((w2.setCell ⟨w1.heap.size + 1, 0, none⟩ (.slice va 2 vc)).alloc (.cells (texts7.map tv).toArray 9)).cell? ⟨w2.heap.size, 13, none⟩ = some (tv [91, 93]) := lit_cell _ _ _ _ _ _ hsw rfl
  clear hbc hbf hrw hne ho2 ho3 ho4 hB2 hW HB hg2 hb2 HR HO HB0
  have HB := hB3
  clear hB3
  simp only [texts7, tv, List.map_cons, List.map_nil] at hN2 hbx htx hs1 hs2 HB
  replace hN2 := hN2
  go_wp2_with (fail)
  go_region_held3 (fun w' => w'.cell? ⟨w1.heap.size + 1, 0, none⟩ = some (.slice va 2 vc) ∧ w'.cell? ⟨w2.heap.size, 13, none⟩ = some (tv [91, 93]) ∧ Below W.heap.size W w' ∧ NodesAt w' (.slice va 2 vc) [⟨k, -1, null⟩, ⟨0, 0, false⟩] ∧ w1.heap.size + 1 < w'.heap.size ∧ w2.heap.size < w'.heap.size)
    (first | exact ⟨hbx, htx, HB, hN2, hs1, hs2⟩ | exact ⟨hbx, htx, below_drew HB, hN2, hs1, hs2⟩ | (go_split_ands; (refine ⟨?_, ?_, ?_, ?_, ?_, ?_⟩ <;> assumption)))
    (first | (go_at_call 21; refine (fitsB_calls [⟨k, -1, null⟩, ⟨0, 0, false⟩] _ [91, 93] _ _ _ (hv.below (by repeat (first | exact HB | apply below_drew)) hv.six) (by decide) hln (by first | exact hN2 | exact nodes_drew hN2) (by first | exact HD.out.1 | exact HD.out.2.1 | exact HD.out.2.2)).mono ?_; rintro e w' ⟨rfl, hb⟩; have HB' : Below W.heap.size W w' := (by first | exact below_then HB hb | exact below_then (below_drew HB) hb); have hbx' := (hb.cell (p := ⟨w1.heap.size + 1, 0, none⟩) hs1).trans hbx; have htx' := (hb.cell (p := ⟨w2.heap.size, 13, none⟩) hs2).trans htx; have hN' : NodesAt w' _ _ := (by first | exact hN2.below hb | exact (nodes_drew hN2).below hb); have hs1' := Nat.lt_of_lt_of_le hs1 hb.size; have hs2' := Nat.lt_of_lt_of_le hs2 hb.size; clear HB hbx htx hN2 hs1 hs2 hb; have HB := HB'; have hbx := hbx'; have htx := htx'; have hN2 := hN'; have hs1 := hs1'; have hs2 := hs2'; clear HB' hbx' htx' hN' hs1' hs2') | (go_at_call 15; refine (num_calls _ _).mono ?_; rintro e w' ⟨rfl, rfl⟩))
  go_wp2
  go_ret
  exact ⟨rfl, HB⟩

set_option maxHeartbeats 1600000 in
set_option maxRecDepth 100000 in
theorem fits7_b_both (a0 a1 : Int) (null : Bool) (k i : Nat) (hk : 3 ≤ k ∧ k < 5) (hi : i < 14) (hke : wrap64 ((IntKind.u64.wrap a0).tmod 5) = (k : Int)) (hie : wrap64 ((IntKind.u64.wrap a1).tmod 14) = (i : Int)) (hc : i = 13) (hk3 : k = 3) (W : World) (hv : Vars W) :
    Calls Tryd.prog 6 #[.int .i64 a0, .int .i64 a1, .bool null] W fun e w' => e = .returned (.bool true) ∧ Below W.heap.size W w' := by
  obtain ⟨v, hv1⟩ : ∃ v, texts7[i]? = some v := ⟨_, List.getElem?_eq_getElem (show i < 14 from hi)⟩
  have hd := fits7_all ⟨k, by omega⟩ ⟨i, hi⟩ null
  have hln := texts7_len ⟨i, hi⟩
  simp only [List.getD_eq_getElem?_getD, hv1, Option.getD_some] at hd hln
  have hty : ty7 k null = [⟨k, -1, null⟩, ⟨0, 0, false⟩] := by unfold ty7; rw [if_neg (by omega)]
  rw [hty] at hd
  have hw : want7 k i null = true := by
    unfold want7
    subst hc hk3
    rfl
  rw [hw] at hd
  subst hc
  subst hk3
  obtain rfl : [91, 93] = v := by simpa [texts7] using hv1
  have hke' : wrap64 ((IntKind.u64.wrap a0).tmod 5) = 3 := hke
  have HD := Lib.hid hd
  clear hd hv1 hw hty hke
  go_enter Tryd.func6, Tryd.ntmps6
  go_wp2_with (fail)
  refine (awake7_calls W hv).mono ?_; rintro e w1 ⟨rfl, HB⟩
  have hRow := (Row.new (w1.alloc (.cells #[.int .i64 (3 : Int), .int .i64 (-1), .bool null] 37)) 40 #[.slice (some ⟨w1.heap.size, 0, none⟩) 1 1])
  rw [show (w1.alloc (.cells #[.int .i64 (3 : Int), .int .i64 (-1), .bool null] 37)).heap.size = w1.heap.size + 1 by simp] at hRow
  have HR := Lib.hid hRow
  clear hRow
  have HO := Lib.hid ((own_litN w1 W.heap.size 37 3 1 (ndv ⟨(3 : Int), -1, null⟩) HB.size rfl (by decide)).alloc (.cells #[.slice (some ⟨w1.heap.size, 0, none⟩) 1 1] 40))
  have hB0 : Below W.heap.size W ((w1.alloc (.cells #[.int .i64 (3 : Int), .int .i64 (-1), .bool null] 37)).alloc (.cells #[.slice (some ⟨w1.heap.size, 0, none⟩) 1 1] 40)) := below_alloc (below_alloc HB _) _
  have hsz0 : W.heap.size ≤ w1.heap.size := HB.size
  have HB0 := Lib.hid hB0
  clear hB0
  go_wp2_with (at_builtin; refine wp_appN (w0 := (w1.alloc (.cells #[.int .i64 (3 : Int), .int .i64 (-1), .bool null] 37)).alloc (.cells #[.slice (some ⟨w1.heap.size, 0, none⟩) 1 1] 40)) (us := ndv ⟨0, 0, false⟩) rfl _ _ 38 37 rfl W.heap.size 3 24 (.agg #[.int .i64 0, .int .i64 0, .bool false]) Tryd.underlying38 info_node rfl (by decide) (.slice (some ⟨w1.heap.size, 0, none⟩) 1 1) 1 _ rfl (by simp [ndv, Value.oneCell']) rfl rfl (by simp) HO.out (by decide) (by decide) (by simp; omega) ?_; intro v2 w2 ho2 hb2 hg2; obtain ⟨va, vc, rfl⟩ := own_sliceN ho2; have hrw := HR.out.grown hg2 (by simp [Value.ownBlock]); have hbc : w2.cell? ⟨w1.heap.size + 1, 0, none⟩ = some (.slice (some ⟨w1.heap.size, 0, none⟩) 1 1) := hrw.cell (i := 0) rfl; have hbf : w2.frozen? ⟨w1.heap.size + 1, 0, none⟩ = false := hrw.free (i := 0) (by simp))
  have hB2 : Below W.heap.size W w2 := HB0.out.trans hb2
  have hB3 : Below W.heap.size W ((w2.setCell ⟨w1.heap.size + 1, 0, none⟩ (.slice va 2 vc)).alloc (.cells (texts7.map tv).toArray 9)) := below_alloc (below_set hB2 (by simp; omega) _) _
  have hne := own_ne ho2 (show w2.heap[w1.heap.size + 1]? = some _ from hrw.choose_spec.choose_spec.1) (by decide)
  have hW := World.grownBy_alloc
  have ho3 := ho2.kept (grown_set (grown_refl w2 (some (w1.heap.size + 1))) 0 (.slice va 2 vc)) hne
  have ho4 := own_below ho3 (below_alloc (Below.refl _ _) (.cells (texts7.map tv).toArray 9))
  have hN2 := own_nodes (ns := [⟨3, -1, null⟩, ⟨0, 0, false⟩]) ho4
  have hbx : ((w2.setCell ⟨w1.heap.size + 1, 0, none⟩ (.slice va 2 vc)).alloc (.cells (texts7.map tv).toArray 9)).cell? ⟨w1.heap.size + 1, 0, none⟩ = some (.slice va 2 vc) := ((hrw.set 0 (.slice va 2 vc)).alloc _).cell (i := 0) rfl
  have hs1 : w1.heap.size + 1 < ((w2.setCell ⟨w1.heap.size + 1, 0, none⟩ (.slice va 2 vc)).alloc (.cells (texts7.map tv).toArray 9)).heap.size := ((hrw.set 0 (.slice va 2 vc)).alloc _).lt
  have hsw : (w2.setCell ⟨w1.heap.size + 1, 0, none⟩ (.slice va 2 vc)).heap.size = w2.heap.size := by simp [World.setCell]
  have hs2 : w2.heap.size < ((w2.setCell ⟨w1.heap.size + 1, 0, none⟩ (.slice va 2 vc)).alloc (.cells (texts7.map tv).toArray 9)).heap.size := by simp [World.setCell]
  have htx : ((w2.setCell ⟨w1.heap.size + 1, 0, none⟩ (.slice va 2 vc)).alloc (.cells (texts7.map tv).toArray 9)).cell? ⟨w2.heap.size, 13, none⟩ = some (tv [91, 93]) := lit_cell _ _ _ _ _ _ hsw rfl
  clear hbc hbf hrw hne ho2 ho3 ho4 hB2 hW HB hg2 hb2 HR HO HB0
  have HB := hB3
  clear hB3
  simp only [texts7, tv, List.map_cons, List.map_nil] at hN2 hbx htx hs1 hs2 HB
  replace hN2 := hN2
  go_wp2_with (fail)
  go_region_held3 (fun w' => w'.cell? ⟨w1.heap.size + 1, 0, none⟩ = some (.slice va 2 vc) ∧ w'.cell? ⟨w2.heap.size, 13, none⟩ = some (tv [91, 93]) ∧ Below W.heap.size W w' ∧ NodesAt w' (.slice va 2 vc) [⟨3, -1, null⟩, ⟨0, 0, false⟩] ∧ w1.heap.size + 1 < w'.heap.size ∧ w2.heap.size < w'.heap.size)
    (first | exact ⟨hbx, htx, HB, hN2, hs1, hs2⟩ | exact ⟨hbx, htx, below_drew HB, hN2, hs1, hs2⟩ | (go_split_ands; (refine ⟨?_, ?_, ?_, ?_, ?_, ?_⟩ <;> assumption)))
    (first | (go_at_call 21; refine (fitsB_calls [⟨3, -1, null⟩, ⟨0, 0, false⟩] _ [91, 93] _ _ _ (hv.below (by repeat (first | exact HB | apply below_drew)) hv.six) (by decide) hln (by first | exact hN2 | exact nodes_drew hN2) (by first | exact HD.out.1 | exact HD.out.2.1 | exact HD.out.2.2)).mono ?_; rintro e w' ⟨rfl, hb⟩; have HB' : Below W.heap.size W w' := (by first | exact below_then HB hb | exact below_then (below_drew HB) hb); have hbx' := (hb.cell (p := ⟨w1.heap.size + 1, 0, none⟩) hs1).trans hbx; have htx' := (hb.cell (p := ⟨w2.heap.size, 13, none⟩) hs2).trans htx; have hN' : NodesAt w' _ _ := (by first | exact hN2.below hb | exact (nodes_drew hN2).below hb); have hs1' := Nat.lt_of_lt_of_le hs1 hb.size; have hs2' := Nat.lt_of_lt_of_le hs2 hb.size; clear HB hbx htx hN2 hs1 hs2 hb; have HB := HB'; have hbx := hbx'; have htx := htx'; have hN2 := hN'; have hs1 := hs1'; have hs2 := hs2'; clear HB' hbx' htx' hN' hs1' hs2') | (go_at_call 15; refine (num_calls _ _).mono ?_; rintro e w' ⟨rfl, rfl⟩))
  go_wp2
  go_ret
  exact ⟨rfl, HB⟩

set_option maxHeartbeats 1600000 in
set_option maxRecDepth 100000 in
theorem fits7_b_other (a0 a1 : Int) (null : Bool) (k i : Nat) (hk : 3 ≤ k ∧ k < 5) (hi : i < 14) (hke : wrap64 ((IntKind.u64.wrap a0).tmod 5) = (k : Int)) (hie : wrap64 ((IntKind.u64.wrap a1).tmod 14) = (i : Int)) (hc : i ≠ k) (hc5 : i ≠ 5) (hc13 : i ≠ 13) (W : World) (hv : Vars W) :
    Calls Tryd.prog 6 #[.int .i64 a0, .int .i64 a1, .bool null] W fun e w' => e = .returned (.bool true) ∧ Below W.heap.size W w' := by
  obtain ⟨v, hv1⟩ : ∃ v, texts7[i]? = some v := ⟨_, List.getElem?_eq_getElem (show i < 14 from hi)⟩
  have hd := fits7_all ⟨k, by omega⟩ ⟨i, hi⟩ null
  have hln := texts7_len ⟨i, hi⟩
  simp only [List.getD_eq_getElem?_getD, hv1, Option.getD_some] at hd hln
  have hty : ty7 k null = [⟨k, -1, null⟩, ⟨0, 0, false⟩] := by unfold ty7; rw [if_neg (by omega)]
  rw [hty] at hd
  have hw : want7 k i null = false := by
    unfold want7
    rw [show (i == k) = false by rw [beq_eq_false_iff_ne]; exact hc, show (i == 5) = false by rw [beq_eq_false_iff_ne]; exact hc5, show (i == 13) = false by rw [beq_eq_false_iff_ne]; exact hc13]
    rfl
  rw [hw] at hd
  have HCv := Lib.hid (show ∀ h : i < (texts7.map tv).length, (texts7.map tv)[i] = tv v from fun h => by
    have : (texts7.map tv)[i]? = some (tv v) := by rw [List.getElem?_map, hv1]; rfl
    rw [List.getElem?_eq_getElem h] at this
    exact Option.some.inj this)
  have i0 : (0 : Int) ≤ (i : Int) := by omega
  have i14 : (i : Int) < 14 := by omega
  have HTX := Lib.hid (show (texts7.map tv).toArray[i]? = some (tv v) by rw [List.getElem?_toArray, List.getElem?_map, hv1]; rfl)
  have t1 : ((i : Int) == (k : Int)) = false := by rw [beq_eq_false_iff_ne]; omega
  have t2 : ((i : Int) == 5) = false := by rw [beq_eq_false_iff_ne]; omega
  have t3 : ((i : Int) == 13) = false := by rw [beq_eq_false_iff_ne]; omega
  have tg : (3 : Int) ≤ (k : Int) := by omega
  have HD := Lib.hid hd
  clear hd hv1 hw hty
  go_enter Tryd.func6, Tryd.ntmps6
  go_wp2_with (fail)
  refine (awake7_calls W hv).mono ?_; rintro e w1 ⟨rfl, HB⟩
  have hRow := (Row.new (w1.alloc (.cells #[.int .i64 (k : Int), .int .i64 (-1), .bool null] 37)) 40 #[.slice (some ⟨w1.heap.size, 0, none⟩) 1 1])
  rw [show (w1.alloc (.cells #[.int .i64 (k : Int), .int .i64 (-1), .bool null] 37)).heap.size = w1.heap.size + 1 by simp] at hRow
  have HR := Lib.hid hRow
  clear hRow
  have HO := Lib.hid ((own_litN w1 W.heap.size 37 3 1 (ndv ⟨(k : Int), -1, null⟩) HB.size rfl (by decide)).alloc (.cells #[.slice (some ⟨w1.heap.size, 0, none⟩) 1 1] 40))
  have hB0 : Below W.heap.size W ((w1.alloc (.cells #[.int .i64 (k : Int), .int .i64 (-1), .bool null] 37)).alloc (.cells #[.slice (some ⟨w1.heap.size, 0, none⟩) 1 1] 40)) := below_alloc (below_alloc HB _) _
  have hsz0 : W.heap.size ≤ w1.heap.size := HB.size
  have HB0 := Lib.hid hB0
  clear hB0
  go_wp2_with (at_builtin; refine wp_appN (w0 := (w1.alloc (.cells #[.int .i64 (k : Int), .int .i64 (-1), .bool null] 37)).alloc (.cells #[.slice (some ⟨w1.heap.size, 0, none⟩) 1 1] 40)) (us := ndv ⟨0, 0, false⟩) rfl _ _ 38 37 rfl W.heap.size 3 24 (.agg #[.int .i64 0, .int .i64 0, .bool false]) Tryd.underlying38 info_node rfl (by decide) (.slice (some ⟨w1.heap.size, 0, none⟩) 1 1) 1 _ rfl (by simp [ndv, Value.oneCell']) rfl rfl (by simp) HO.out (by decide) (by decide) (by simp; omega) ?_; intro v2 w2 ho2 hb2 hg2; obtain ⟨va, vc, rfl⟩ := own_sliceN ho2; have hrw := HR.out.grown hg2 (by simp [Value.ownBlock]); have hbc : w2.cell? ⟨w1.heap.size + 1, 0, none⟩ = some (.slice (some ⟨w1.heap.size, 0, none⟩) 1 1) := hrw.cell (i := 0) rfl; have hbf : w2.frozen? ⟨w1.heap.size + 1, 0, none⟩ = false := hrw.free (i := 0) (by simp))
  have hB2 : Below W.heap.size W w2 := HB0.out.trans hb2
  have hB3 : Below W.heap.size W ((w2.setCell ⟨w1.heap.size + 1, 0, none⟩ (.slice va 2 vc)).alloc (.cells (texts7.map tv).toArray 9)) := below_alloc (below_set hB2 (by simp; omega) _) _
  have hne := own_ne ho2 (show w2.heap[w1.heap.size + 1]? = some _ from hrw.choose_spec.choose_spec.1) (by decide)
  have hW := World.grownBy_alloc
  have ho3 := ho2.kept (grown_set (grown_refl w2 (some (w1.heap.size + 1))) 0 (.slice va 2 vc)) hne
  have ho4 := own_below ho3 (below_alloc (Below.refl _ _) (.cells (texts7.map tv).toArray 9))
  have hN2 := own_nodes (ns := [⟨k, -1, null⟩, ⟨0, 0, false⟩]) ho4
  have hbx : ((w2.setCell ⟨w1.heap.size + 1, 0, none⟩ (.slice va 2 vc)).alloc (.cells (texts7.map tv).toArray 9)).cell? ⟨w1.heap.size + 1, 0, none⟩ = some (.slice va 2 vc) := ((hrw.set 0 (.slice va 2 vc)).alloc _).cell (i := 0) rfl
  have hs1 : w1.heap.size + 1 < ((w2.setCell ⟨w1.heap.size + 1, 0, none⟩ (.slice va 2 vc)).alloc (.cells (texts7.map tv).toArray 9)).heap.size := ((hrw.set 0 (.slice va 2 vc)).alloc _).lt
  have hsw : (w2.setCell ⟨w1.heap.size + 1, 0, none⟩ (.slice va 2 vc)).heap.size = w2.heap.size := by simp [World.setCell]
  have hs2 : w2.heap.size < ((w2.setCell ⟨w1.heap.size + 1, 0, none⟩ (.slice va 2 vc)).alloc (.cells (texts7.map tv).toArray 9)).heap.size := by simp [World.setCell]
  have htx : ((w2.setCell ⟨w1.heap.size + 1, 0, none⟩ (.slice va 2 vc)).alloc (.cells (texts7.map tv).toArray 9)).cell? ⟨w2.heap.size, i, none⟩ = some (tv v) := lit_cell _ _ _ _ _ _ hsw HTX.out
  clear hbc hbf hrw hne ho2 ho3 ho4 hB2 hW HB hg2 hb2 HR HO HB0
  have HB := hB3
  clear hB3
  have hcv := HCv.out
  simp only [texts7, tv, List.map_cons, List.map_nil] at hN2 hbx htx hs1 hs2 HB hcv
  replace hcv := Lib.hid hcv
  replace hN2 := hN2
  go_wp2_with (fail)
  go_region_held3 (fun w' => w'.cell? ⟨w1.heap.size + 1, 0, none⟩ = some (.slice va 2 vc) ∧ w'.cell? ⟨w2.heap.size, i, none⟩ = some (tv v) ∧ Below W.heap.size W w' ∧ NodesAt w' (.slice va 2 vc) [⟨k, -1, null⟩, ⟨0, 0, false⟩] ∧ w1.heap.size + 1 < w'.heap.size ∧ w2.heap.size < w'.heap.size)
    (first | exact ⟨hbx, htx, HB, hN2, hs1, hs2⟩ | exact ⟨hbx, htx, below_drew HB, hN2, hs1, hs2⟩ | (go_split_ands; (refine ⟨?_, ?_, ?_, ?_, ?_, ?_⟩ <;> assumption)))
    (first | (go_at_call 21; refine (fitsB_calls [⟨k, -1, null⟩, ⟨0, 0, false⟩] _ v _ _ _ (hv.below (by repeat (first | exact HB | apply below_drew)) hv.six) (by decide) hln (by first | exact hN2 | exact nodes_drew hN2) (by first | exact HD.out.1 | exact HD.out.2.1 | exact HD.out.2.2)).mono ?_; rintro e w' ⟨rfl, hb⟩; have HB' : Below W.heap.size W w' := (by first | exact below_then HB hb | exact below_then (below_drew HB) hb); have hbx' := (hb.cell (p := ⟨w1.heap.size + 1, 0, none⟩) hs1).trans hbx; have htx' := (hb.cell (p := ⟨w2.heap.size, i, none⟩) hs2).trans htx; have hN' : NodesAt w' _ _ := (by first | exact hN2.below hb | exact (nodes_drew hN2).below hb); have hs1' := Nat.lt_of_lt_of_le hs1 hb.size; have hs2' := Nat.lt_of_lt_of_le hs2 hb.size; clear HB hbx htx hN2 hs1 hs2 hb; have HB := HB'; have hbx := hbx'; have htx := htx'; have hN2 := hN'; have hs1 := hs1'; have hs2 := hs2'; clear HB' hbx' htx' hN' hs1' hs2') | (go_at_call 15; refine (num_calls _ _).mono ?_; rintro e w' ⟨rfl, rfl⟩))
  go_wp2
  go_ret
  exact ⟨rfl, HB⟩

theorem valueFits_walk (a0 a1 : Int) (null : Bool) (W : World) (hv : Vars W) (h0 : (Lit.int .i64 a0).wf = true) (h1 : (Lit.int .i64 a1).wf = true) :
    Calls Tryd.prog 6 #[.int .i64 a0, .int .i64 a1, .bool null] W fun e w' => e = .returned (.bool true) ∧ Below W.heap.size W w' := by
  obtain ⟨k, hk, hke⟩ := modN a0 5 (by decide) (by decide)
  obtain ⟨i, hi, hie⟩ := modN a1 14 (by decide) (by decide)
  by_cases hs : k < 3
  · by_cases h1 : i = k
    · exact fits7_s_eq a0 a1 null k i hs hi hke hie h1 W hv
    by_cases h5 : i = 5
    · cases null
      · exact fits7_s_five0 a0 a1 k i hs hi hke hie h5 W hv
      · exact fits7_s_five1 a0 a1 k i hs hi hke hie h5 W hv
    by_cases h13 : i = 13
    · exact fits7_s_thirteen a0 a1 null k i hs hi hke hie h13 (by omega) W hv
    · exact fits7_s_other a0 a1 null k i hs hi hke hie h1 h5 h13 W hv
  · have hb : 3 ≤ k ∧ k < 5 := ⟨by omega, hk⟩
    by_cases h1 : i = k
    · exact fits7_b_eq a0 a1 null k i hb hi hke hie h1 W hv
    by_cases h5 : i = 5
    · cases null
      · exact fits7_b_five0 a0 a1 k i hb hi hke hie h5 W hv
      · exact fits7_b_five1 a0 a1 k i hb hi hke hie h5 W hv
    by_cases h13 : i = 13
    · by_cases h3 : k = 3
      · exact fits7_b_both a0 a1 null k i hb hi hke hie h13 h3 W hv
      · exact fits7_b_thirteen a0 a1 null k i hb hi hke hie h13 h3 W hv
    · exact fits7_b_other a0 a1 null k i hb hi hke hie h1 h5 h13 W hv
end Go.Proofs.YtlllflacnlgigaaDoor
