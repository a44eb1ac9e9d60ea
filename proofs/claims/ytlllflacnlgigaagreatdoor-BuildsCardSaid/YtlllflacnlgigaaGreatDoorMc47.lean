/- quiverlaw0's lent and copied texts and types, walked. -/
import Derived.Test.YtlllflacnlgigaaGreatDoorMc11
import Derived.Test.YtlllflacnlgigaaGreatDoorMc1
import Derived.WalkKit
namespace Go.Proofs.YtlllflacnlgigaaGreatDoor
open Go.RowKit
set_option linter.unusedVariables false
set_option linter.unusedSimpArgs false

set_option maxHeartbeats 800000 in
theorem copyTexts_calls (v : Value) (xs : List Vp.Txt) (W : World) (hx : TextsAt W v xs) (hl : xs.length * 16 ≤ 140737488351232) :
    Calls Tryz.prog 35 #[v] W fun e w' => ∃ r, e = .returned r ∧ w'.ownsRow W.heap.size 9 1 r xs.length (xs.map tv) ∧ Below W.heap.size W w' := by
  have hb0 : Below W.heap.size W (W.alloc (.cells #[] 9)) := (Below.refl _ _).alloc (Nat.le_refl _) _
  have hsrc := hx.below hb0
  obtain ⟨a, c, rfl, _, _, _⟩ := hx
  have HS := Lib.hid (texts_src hsrc)
  have HO := Lib.hid (own_litN W W.heap.size 9 1 0 [] (Nat.le_refl _) rfl (Nat.zero_le _))
  clear hsrc
  by_cases hz : xs.length = 0
  · obtain rfl : xs = [] := List.eq_nil_of_length_eq_zero hz
    have hld : ∀ (a : Addr) (w : World), (loadCellsFrom a 0 0 #[]).run Tryz.prog w = .ok #[] w := fun _ _ => rfl
    have hst : ∀ (a : Addr) (w : World), (storeCells a []).run Tryz.prog w = .ok () w := fun _ _ => rfl
    have hpu : ∀ (w : World), (pure (#[] : Array Value) : Sem (Array Value)).run Tryz.prog w = .ok #[] w := fun _ => rfl
    cases a with
    | none =>
      go_enter Tryz.func35, Tryz.ntmps35
      go_wp2
      go_ret
      exact ⟨_, rfl, HO.out, hb0⟩
    | some ad =>
      go_enter Tryz.func35, Tryz.ntmps35
      go_wp2
      go_ret
      exact ⟨_, rfl, HO.out, hb0⟩
  · go_enter Tryz.func35, Tryz.ntmps35
    go_wp2_with (at_builtin; refine wp_appS rfl _ _ 22 9 rfl W.heap.size 1 16 (.string ⟨#[]⟩) Tryz.underlying22 info_string rfl (by decide) _ 0 _ rfl HO.out a xs.length c (xs.map tv) rfl (by simp) HS.out (tvs_one xs) (by omega) (by omega) (by simp) ?_; intro v2 w3 ho3 hb3 hg3)
    go_ret
    exact ⟨_, rfl, by simpa using ho3, hb0.trans hb3⟩

/-- Lent texts: with the marked room behind them. -/
def room : Vp.Txt := [126, 114, 111, 111, 109]
def behind : Vp.Txt := [126, 98, 101, 104, 105, 110, 100]
def LentAt (w : World) (v : Value) (xs : List Vp.Txt) : Prop :=
  ∃ g c, v = .slice (some ⟨g, 0, none⟩) xs.length c ∧ xs.length + 2 ≤ c ∧ c ≤ maxLen ∧ g < w.heap.size ∧ (∃ cs, w.heap[g]? = some (.cells cs 9)) ∧ ∀ j x, (xs ++ [room, behind])[j]? = some x → w.cell? ⟨g, j, none⟩ = some (tv x)
theorem LentAt.below {w w' : World} {v : Value} {xs : List Vp.Txt} (h : LentAt w v xs) (hb : Below w.heap.size w w') : LentAt w' v xs := by
  obtain ⟨g, c, rfl, h1, h2, h3, ⟨cs, h5⟩, h4⟩ := h
  exact ⟨g, c, rfl, h1, h2, Nat.lt_of_lt_of_le h3 hb.size, ⟨cs, (hb.block g h3).trans h5⟩, fun j x hx => by rw [hb.cell (p := ⟨g, j, none⟩) h3]; exact h4 j x hx⟩
theorem LentAt.far {w : World} {v : Value} {xs : List Vp.Txt} (h : LentAt w v xs) {b : Nat} {t : TypeId} {cs : Array Value} {fz : Nat × Nat} (hb : w.heap[b]? = some (.cells cs t fz)) (hne : 9 ≠ t) (u : Value) : LentAt (w.setCell ⟨b, 0, none⟩ u) v xs := by
  obtain ⟨g, c, rfl, h1, h2, h3, ⟨cs', h5⟩, h4⟩ := h
  have hgb : g ≠ b := by
    rintro rfl
    rw [hb] at h5
    simp only [Option.some.injEq, Obj.cells.injEq] at h5
    exact hne h5.2.1.symm
  have hk : (w.setCell ⟨b, 0, none⟩ u).heap[g]? = w.heap[g]? := Below.heap_setCell w ⟨b, 0, none⟩ u g hgb
  exact ⟨g, c, rfl, h1, h2, by simpa using h3, ⟨cs', hk.trans h5⟩, fun j x hx => by rw [World.cell?_of_block (w := w) (a := ⟨g, j, none⟩) hk]; exact h4 j x hx⟩
theorem LentAt.texts {w : World} {v : Value} {xs : List Vp.Txt} (h : LentAt w v xs) : TextsAt w v xs := by
  obtain ⟨g, c, rfl, h1, h2, h3, _, h4⟩ := h
  refine ⟨_, c, rfl, by omega, h2, fun _ => ⟨g, 0, rfl, h3, fun j x hx => ?_⟩⟩
  rw [Nat.zero_add]
  exact h4 j x (by rw [List.getElem?_append_left (List.getElem?_eq_some_iff.1 hx).1]; exact hx)
theorem lent_src (w : World) (j : Nat) (u : Value) (hu : [tv room, tv behind][j]? = some u) : (w.alloc (.cells #[tv room, tv behind] 9)).cell? ((⟨w.heap.size, 0, none⟩ : Addr).add j) = some u := by
  rw [add_zero_]
  match j, hu with
  | 0, hu => simp at hu; subst hu; simp
  | 1, hu => simp at hu; subst hu; simp
theorem own_lent {w : World} {base : Nat} {v : Value} {xs : List Vp.Txt} (h : w.ownsRow base 9 1 v (xs.length + 2) (xs.map tv ++ [tv room, tv behind])) :
    ∃ g c, v = .slice (some ⟨g, 0, none⟩) (xs.length + 2) c ∧ xs.length + 2 ≤ c ∧ c ≤ maxLen ∧ base ≤ g ∧ g < w.heap.size ∧ (∃ cs, w.heap[g]? = some (.cells cs 9)) ∧ ∀ j x, (xs ++ [room, behind])[j]? = some x → w.cell? ⟨g, j, none⟩ = some (tv x) := by
  obtain ⟨hl, h⟩ := h
  rcases h with ⟨_, hx⟩ | ⟨g, cap, cur, rfl, hb, hh, hnc, hm, hcs, htake⟩
  · simp at hx
  · have hlt : g < w.heap.size := (Array.getElem?_eq_some_iff.1 hh).1
    refine ⟨g, cap, rfl, hnc, hm, hb, hlt, ⟨cur, hh⟩, fun j x hj => ?_⟩
    have hj2 : (xs.map tv ++ [tv room, tv behind])[j]? = some (tv x) := by
      rw [show xs.map tv ++ [tv room, tv behind] = (xs ++ [room, behind]).map tv by simp, List.getElem?_map, hj]; rfl
    have hjl : j < xs.length + 2 := by have := (List.getElem?_eq_some_iff.1 hj).1; simpa using this
    rw [← htake, List.getElem?_take, if_pos (by omega), Array.getElem?_toList] at hj2
    simp [World.cell?, hh, hj2]

theorem info_type_size : (Tryz.prog.info? 25).map (·.size) = some 1 := by kernel_rfl
theorem blk_set {w : World} {g : Nat} {t : TypeId} {u : Value} (h : w.heap[g]? = some (.cells #[u] t)) (x : Value) : (w.setCell ⟨g, 0, none⟩ x).heap[g]? = some (.cells #[x] t) := by simp [World.setCell, Array.getElem?_modify, h]
theorem cellAt_blk {w : World} {g : Nat} {t : TypeId} {u : Value} (h : w.heap[g]? = some (.cells #[u] t)) : w.cell? ⟨g, 0, none⟩ = some u := by simp [World.cell?, h]
theorem frozenAt_blk {w : World} {g : Nat} {t : TypeId} {u : Value} (h : w.heap[g]? = some (.cells #[u] t)) : w.frozen? ⟨g, 0, none⟩ = false := by simp [World.frozen?, h]
set_option maxHeartbeats 800000 in
theorem copyType_calls (v : Value) (ns : List Tp.Nd) (W : World) (hx : NodesAt W v ns) (hl : ns.length ≤ 1048576) :
    Calls Tryz.prog 7 #[typeV v] W fun e w' => ∃ r, e = .returned (typeV r) ∧ w'.ownsRow W.heap.size 67 3 r ns.length (ns.flatMap ndv) ∧ Below W.heap.size W w' := by
  have hb1 : Below W.heap.size W (W.alloc (.cells #[v] 25)) := (Below.refl _ _).alloc (Nat.le_refl _) _
  have hb2 := hb1.alloc (Nat.le_of_lt (by simp)) (.cells #[.slice none 0 0] 25)
  have hb3 := hb2.alloc (by simp; omega) (.cells #[] 67)
  have hsrc := hx.below hb3
  have HB := Lib.hid (show (((W.alloc (.cells #[v] 25)).alloc (.cells #[.slice none 0 0] 25)).alloc (.cells #[] 67)).heap[W.heap.size + 1]? = some (.cells #[.slice none 0 0] 25) by
    rw [Below.heap_alloc _ _ _ (by simp)]
    have := heap_alloc_new (W.alloc (.cells #[v] 25)) (.cells #[.slice none 0 0] 25)
    simpa using this)
  obtain ⟨a, c, rfl, _, _, _⟩ := hx
  have HS := Lib.hid (nodes_src hsrc)
  have hs1 : ((W.alloc (.cells #[.slice a ns.length c] 25)).alloc (.cells #[.slice none 0 0] 25)).heap.size = W.heap.size + 1 + 1 := by simp
  have HO := own_litN ((W.alloc (.cells #[.slice a ns.length c] 25)).alloc (.cells #[.slice none 0 0] 25)) W.heap.size 67 3 0 [] (by simp; omega) rfl (Nat.zero_le _)
  rw [hs1] at HO
  replace HO := Lib.hid HO
  clear hs1
  clear hsrc
  by_cases hz : ns.length = 0
  · obtain rfl : ns = [] := List.eq_nil_of_length_eq_zero hz
    have hld : ∀ (a : Addr) (w : World), (loadCellsFrom a 0 0 #[]).run Tryz.prog w = .ok #[] w := fun _ _ => rfl
    have hst : ∀ (a : Addr) (w : World), (storeCells a []).run Tryz.prog w = .ok () w := fun _ _ => rfl
    have hpu : ∀ (w : World), (pure (#[] : Array Value) : Sem (Array Value)).run Tryz.prog w = .ok #[] w := fun _ => rfl
    have hend : ∀ v0 : Value, Below W.heap.size W (((W.alloc (.cells #[v0] 25)).alloc (.cells #[.slice (some ⟨W.heap.size + 1 + 1, 0, none⟩) 0 0] 25)).alloc (.cells #[] 67)) ∧
        (((W.alloc (.cells #[v0] 25)).alloc (.cells #[.slice (some ⟨W.heap.size + 1 + 1, 0, none⟩) 0 0] 25)).alloc (.cells #[] 67)).ownsRow W.heap.size 67 3 (.slice (some ⟨W.heap.size + 1 + 1, 0, none⟩) 0 0) 0 [] ∧
        (((W.alloc (.cells #[v0] 25)).alloc (.cells #[.slice (some ⟨W.heap.size + 1 + 1, 0, none⟩) 0 0] 25)).alloc (.cells #[] 67)).heap[W.heap.size + 1]? = some (.cells #[.slice (some ⟨W.heap.size + 1 + 1, 0, none⟩) 0 0] 25) := by
      intro v0
      have h1 : Below W.heap.size W (W.alloc (.cells #[v0] 25)) := (Below.refl _ _).alloc (Nat.le_refl _) _
      have h2 := h1.alloc (Nat.le_of_lt (by simp)) (.cells #[.slice (some ⟨W.heap.size + 1 + 1, 0, none⟩) 0 0] 25)
      refine ⟨h2.alloc (by simp; omega) _, ?_, ?_⟩
      · have h3 := own_litN ((W.alloc (.cells #[v0] 25)).alloc (.cells #[.slice (some ⟨W.heap.size + 1 + 1, 0, none⟩) 0 0] 25)) W.heap.size 67 3 0 [] (by simp; omega) rfl (Nat.zero_le _)
        have hs1 : ((W.alloc (.cells #[v0] 25)).alloc (.cells #[.slice (some ⟨W.heap.size + 1 + 1, 0, none⟩) 0 0] 25)).heap.size = W.heap.size + 1 + 1 := by simp
        rw [hs1] at h3
        exact h3
      · rw [Below.heap_alloc _ _ _ (by simp)]
        have := heap_alloc_new (W.alloc (.cells #[v0] 25)) (.cells #[.slice (some ⟨W.heap.size + 1 + 1, 0, none⟩) 0 0] 25)
        simpa using this
    replace hend := Lib.hid hend
    clear HB HO hb1 hb2 hb3 HS
    cases a with
    | none =>
      go_enter Tryz.func7, Tryz.ntmps7
      go_wp2
      (try simp only [Exit.inBlock, Exit.then]); refine bodyPost_ret (results_cell_row rfl _ _ (W.heap.size + 1) 25 #[_] (0, 0) _ rfl (hend.out _).2.2 Tryz.underlying25 rfl info_type_size) rfl ?_
      exact ⟨_, rfl, (hend.out _).2.1, (hend.out _).1⟩
    | some ad =>
      go_enter Tryz.func7, Tryz.ntmps7
      go_wp2
      (try simp only [Exit.inBlock, Exit.then]); refine bodyPost_ret (results_cell_row rfl _ _ (W.heap.size + 1) 25 #[_] (0, 0) _ rfl (hend.out _).2.2 Tryz.underlying25 rfl info_type_size) rfl ?_
      exact ⟨_, rfl, (hend.out _).2.1, (hend.out _).1⟩
  · go_enter Tryz.func7, Tryz.ntmps7
    go_wp2_with ((at_builtin; refine wp_appS rfl _ _ 23 67 rfl W.heap.size 3 24 (.agg #[.int .i64 0, .int .i64 0, .bool false]) Tryz.underlying23 info_node rfl (by decide) (.slice (some ⟨W.heap.size + 1 + 1, 0, none⟩) 0 0) 0 _ rfl HO.out a ns.length c (ns.flatMap ndv) rfl (ndv_length ns) HS.out (ndv_one ns) (by omega) (by omega) (by simp; omega) ?_; intro v2 w3 ho3 hb4 hg3; have hblk := (hg3.block (W.heap.size + 1) (by simp) (by simp [Value.ownBlock])).trans HB.out; have hcw := cellAt_blk hblk; have hfz := frozenAt_blk hblk; obtain ⟨a2, c2, rfl⟩ := own_sliceN ho3; replace ho3 := ho3.kept (grown_set (World.grownBy.refl w3 _) 0 (.slice a2 (0 + ns.length) c2)) (own_ne ho3 hblk (by decide)); replace ho3 := Lib.hid ho3; replace hblk := Lib.hid hblk))
    (try simp only [Exit.inBlock, Exit.then]); refine bodyPost_ret (results_cell_row rfl _ _ (W.heap.size + 1) 25 #[_] (0, 0) _ rfl (blk_set hblk.out _) Tryz.underlying25 rfl info_type_size) rfl ?_
    exact ⟨_, rfl, by simpa using ho3.out, (hb3.trans hb4).setCell (by simp) _⟩

set_option maxHeartbeats 800000 in
theorem lendTexts_calls (v : Value) (xs : List Vp.Txt) (W : World) (hx : TextsAt W v xs) (hl : xs.length * 16 ≤ 140737488351232) :
    Calls Tryz.prog 6 #[v] W fun e w' => ∃ r, e = .returned r ∧ LentAt w' r xs ∧ Below W.heap.size W w' := by
  have HC := Lib.hid (copyTexts_calls v xs W hx hl)
  obtain ⟨a, c, rfl, _, _, _⟩ := hx
  go_enter Tryz.func6, Tryz.ntmps6
  go_wp2_with (first
    | (go_at_call 35; refine HC.out.mono ?_; rintro e w1 ⟨r, rfl, ho1, hb1⟩; obtain ⟨a1, c1, rfl⟩ := own_slice ho1; have HO := Lib.hid ho1; clear ho1)
    | (at_builtin; refine wp_appS rfl _ _ 22 9 rfl W.heap.size 1 16 (.string ⟨#[]⟩) Tryz.underlying22 info_string rfl (by decide) (.slice a1 xs.length c1) xs.length _ rfl (HO.out.alloc _) (some ⟨w1.heap.size, 0, none⟩) 2 2 [tv room, tv behind] rfl rfl (fun _ => ⟨_, rfl, lent_src w1⟩) (tvs_one [room, behind]) (by omega) (by omega) (by have := hb1.size; simp; omega) ?_; intro v2 w3 ho3 hb3 hg3; obtain ⟨g, cc, rfl, hcc, hmm, hgb, hgl, hcs, hcell⟩ := own_lent ho3; replace hcs := Lib.hid hcs; replace hcell := Lib.hid hcell; replace hb3 := (below_alloc hb1 _).trans hb3; clear ho3))
  go_ret
  exact ⟨_, rfl, ⟨g, cc, rfl, hcc, hmm, hgl, hcs.out, hcell.out⟩, hb3⟩

theorem Vp.join_part (vs : List Vp.Txt) (p : Vp.Txt) (h : p ∈ vs) : p.length ≤ (Vp.join vs).length := by
  unfold Vp.join
  induction vs with
  | nil => simp at h
  | cons v vs ih =>
    rw [List.flatten_cons, List.length_append]
    rcases List.mem_cons.1 h with rfl | h
    · omega
    · have := ih h; omega
theorem Vp.made_bound {k : Int} {ps : List Vp.Txt} {v : Vp.Txt} (h : Vp.Made k ps v) : ∀ p ∈ ps, p.length ≤ v.length := by
  intro p hp
  cases h with
  | null => simp at hp
  | int x => rw [List.mem_singleton] at hp; subst hp; simp [Vp.int]; omega
  | bool b => rw [List.mem_singleton] at hp; subst hp; exact Nat.le_refl _
  | str s => rw [List.mem_singleton] at hp; subst hp; simp [Vp.str]; omega
  | list => have := Vp.join_part ps p hp; simp [Vp.list]; omega
  | struct => have := Vp.join_part ps p hp; simp [Vp.struct]; omega
theorem Vp.parts_bound (v : Vp.Txt) : ∀ p ∈ (Vp.parts v).2.1, p.length ≤ 65536 := by
  intro p hp
  by_cases he : (Vp.parts v).2.2 = 0
  · obtain ⟨hl, _, hm, _⟩ := Vp.is_of_parts he
    have := Vp.made_bound hm p hp
    omega
  · rw [Vp.parts_bad he] at hp
    simp at hp

theorem tv_tilde (y : Vp.Txt) : tv (126 :: y) = Value.string (⟨#[126]⟩ ++ ⟨y.toArray⟩) := by
  rw [show (⟨#[126]⟩ : ByteArray) ++ ⟨y.toArray⟩ = ⟨([126] ++ y).toArray⟩ from mk_append [126] y]
  rfl
set_option maxHeartbeats 1600000 in
theorem spoilTexts_calls (v : Value) (xs : List Vp.Txt) (B : Nat) (W : World) (ho : W.ownsRow B 9 1 v xs.length (xs.map tv)) (hs : ∀ p ∈ xs, p.length ≤ 65536) :
    Calls Tryz.prog 12 #[v] W fun e w' => e = .returned (.tuple #[]) ∧ Below B W w' := by
  have hn := own_max ho
  unfold maxLen at hn
  obtain ⟨a, c, rfl⟩ := own_slice ho
  have HO := Lib.hid ho
  have HS := Lib.hid hs
  clear ho hs
  go_enter Tryz.func12, Tryz.ntmps12
  go_wp2
  go_loopw [2] (fun i wr => ∃ (k : Nat) (ys : List Vp.Txt), k ≤ xs.length ∧ i = .int .i64 k ∧ ys.length = xs.length ∧ (∀ j y, k ≤ j → ys[j]? = some y → y.length ≤ 65536) ∧ wr.ownsRow B 9 1 (.slice a xs.length c) xs.length (ys.map tv) ∧ Below B W wr) (fun i _ => xs.length - (intOf i).toNat)
  case atStart => exact ⟨0, xs, Nat.zero_le _, rfl, rfl, fun j y _ hy => HS.out y (List.mem_of_getElem? hy), HO.out, Below.refl _ _⟩
  case round =>
    obtain ⟨k, ys, hk, rfl, hyl, hys, hown, hb⟩ := hrel
    have HY := Lib.hid hys
    have HW := Lib.hid hown
    clear hys hown
    by_cases hlt : k < xs.length
    · obtain ⟨g, cap, hv, hgb, hcap, _, hrow⟩ := own_row HW.out (by omega)
      obtain ⟨rfl, _, rfl⟩ := Value.slice.inj hv
      have hlt2 : k < ys.length := by omega
      have hkl : (ys.map tv)[k]? = some (tv ys[k]) := by rw [List.getElem?_map, List.getElem?_eq_getElem hlt2]; rfl
      have hc := hrow.cell hkl
      have hf := hrow.free (i := k) (by simpa using hlt2)
      have hyk := HY.out k _ (Nat.le_refl _) (List.getElem?_eq_getElem hlt2)
      clear hkl hv hrow
      generalize ys[k] = y at hc hyk
      have hz := mk_size y
      have hlti : (k : Int) < (xs.length : Int) := by omega
      go_wp2
      refine ⟨⟨k + 1, ys.set k (126 :: y), by omega, by go_num, by rw [List.length_set, hyl], fun j z hj hz => ?_, ?_, hb.setCell hgb _⟩, by simp [intOf]; omega⟩
      · rw [List.getElem?_set, if_neg (by omega)] at hz
        exact HY.out j z (by omega) hz
      · rw [List.map_set, tv_tilde]
        exact (HW.out.stored k _).1
    · obtain rfl : k = xs.length := by omega
      go_wp2
      go_end0
      exact ⟨rfl, hb⟩

set_option maxHeartbeats 1600000 in
theorem keptTexts_calls (v u : Value) (xs : List Vp.Txt) (W : World) (hv : LentAt W v xs) (hu : TextsAt W u xs) (hn : xs.length * 16 ≤ 140737488351232) :
    Calls Tryz.prog 26 #[v, u] W fun e w' => e = .returned (.bool true) ∧ Below W.heap.size W w' := by
  have HS := Lib.hid (sameTexts_calls v u xs xs W hv.texts hu)
  obtain ⟨g, c, rfl, hc, hm, hg, _, hcell⟩ := hv
  obtain ⟨a', c', rfl, _, _, _⟩ := hu
  have r0 := hcell xs.length room (by rw [List.getElem?_append_right (Nat.le_refl _)]; simp)
  have r1 := hcell (xs.length + 1) behind (by rw [List.getElem?_append_right (by omega)]; simp)
  clear hcell
  unfold maxLen at hm
  rw [show (xs == xs) = true by simp] at HS
  have hi0 : (xs.length : Int) < (xs.length : Int) + 2 := by omega
  have hi1 : (xs.length : Int) + 1 < (xs.length : Int) + 2 := by omega
  unfold tv room at r0
  unfold tv behind at r1
  go_enter Tryz.func26, Tryz.ntmps26
  go_wp2_with (go_at_call 10; refine HS.out.mono ?_; rintro e w1 ⟨rfl, hb⟩; have q0 := (hb.cell (p := ⟨g, xs.length, none⟩) hg).trans r0; have q1 := (hb.cell (p := ⟨g, xs.length + 1, none⟩) hg).trans r1)
  go_ret
  exact ⟨rfl, hb⟩

set_option maxHeartbeats 1600000 in
theorem sameNodes_calls (v u : Value) (ns : List Tp.Nd) (W : World) (hv : NodesAt W v ns) (hu : NodesAt W u ns) :
    Calls Tryz.prog 51 #[v, u] W fun e w' => e = .returned (.bool true) ∧ Below W.heap.size W w' := by
  obtain ⟨a, c, rfl, hc, hm, h3⟩ := hv
  obtain ⟨a', c', rfl, hc', hm', h3'⟩ := hu
  unfold maxLen at hm hm'
  replace h3 := Lib.hid h3
  replace h3' := Lib.hid h3'
  go_enter Tryz.func51, Tryz.ntmps51
  go_wp2
  go_loopw [5] (fun i wr => ∃ k : Nat, k ≤ ns.length ∧ i = .int .i64 k ∧ Below W.heap.size W wr) (fun i _ => ns.length - (intOf i).toNat)
  case atStart => exact ⟨0, Nat.zero_le _, rfl, Below.refl _ _⟩
  case round =>
    obtain ⟨k, hk, rfl, hb⟩ := hrel
    by_cases hlt : k < ns.length
    · obtain ⟨bk, o, rfl, hbk, hcell⟩ := h3.out (by intro e; rw [e] at hlt; exact Nat.not_lt_zero _ hlt)
      obtain ⟨bk', o', rfl, hbk', hcell'⟩ := h3'.out (by intro e; rw [e] at hlt; exact Nat.not_lt_zero _ hlt)
      obtain ⟨g0, g1, g2⟩ := hcell k _ (List.getElem?_eq_getElem hlt)
      obtain ⟨e0, e1, e2⟩ := hcell' k _ (List.getElem?_eq_getElem hlt)
      have c0 := (hb.cell (p := ⟨bk, o + k * 3, none⟩) hbk).trans g0
      have c1 := (hb.cell (p := ⟨bk, o + k * 3 + 1, none⟩) hbk).trans g1
      have c2 := (hb.cell (p := ⟨bk, o + k * 3 + 2, none⟩) hbk).trans g2
      have d0 := (hb.cell (p := ⟨bk', o' + k * 3, none⟩) hbk').trans e0
      have d1 := (hb.cell (p := ⟨bk', o' + k * 3 + 1, none⟩) hbk').trans e1
      have d2 := (hb.cell (p := ⟨bk', o' + k * 3 + 2, none⟩) hbk').trans e2
      have hlti : (k : Int) < (ns.length : Int) := by omega
      clear hcell hcell' g0 g1 g2 e0 e1 e2
      generalize (ns[k]).kind = kd at c0 d0
      generalize (ns[k]).parent = pr at c1 d1
      generalize (ns[k]).null = nu at c2 d2
      go_wp2
      go_quiet (fail)
      go_wp2
      exact ⟨⟨k + 1, by omega, by go_num, below_drewN hb nq⟩, by simp [intOf]; omega⟩
    · obtain rfl : k = ns.length := by omega
      go_wp2
      go_ret
      exact ⟨rfl, hb⟩

set_option maxHeartbeats 800000 in
theorem sameType_calls (v u : Value) (ns : List Tp.Nd) (W : World) (hv : NodesAt W v ns) (hu : NodesAt W u ns) :
    Calls Tryz.prog 27 #[typeV v, typeV u] W fun e w' => e = .returned (.bool true) ∧ Below W.heap.size W w' := by
  have hb1 : Below W.heap.size W (W.alloc (.cells #[v] 25)) := (Below.refl _ _).alloc (Nat.le_refl _) _
  have hb2 := hb1.alloc (Nat.le_of_lt (by simp)) (.cells #[u] 25)
  have HS := Lib.hid (sameNodes_calls v u ns _ (hv.below hb2) (hu.below hb2))
  obtain ⟨a, c, rfl, hc, hm, h3⟩ := hv
  obtain ⟨a', c', rfl, hc', hm', h3'⟩ := hu
  clear h3 h3'
  go_enter Tryz.func27, Tryz.ntmps27
  go_wp2_with (go_at_call 51; refine HS.out.mono ?_; rintro e w1 ⟨rfl, hb⟩)
  go_ret
  exact ⟨rfl, below_then hb2 hb⟩
end Go.Proofs.YtlllflacnlgigaaGreatDoor
