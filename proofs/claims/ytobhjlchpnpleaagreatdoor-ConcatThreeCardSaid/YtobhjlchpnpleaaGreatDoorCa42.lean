/- Package concat: Concat, walked. -/
import Derived.Test.YtobhjlchpnpleaaGreatDoorCa13
import Derived.Test.YtobhjlchpnpleaaGreatDoorCa41
import Derived.Deep.DeepCutAuto
import Derived.Laws.AppendOwn
namespace Go.Proofs.YtobhjlchpnpleaaGreatDoor
open Go.RowKit
set_option linter.unusedVariables false
set_option linter.unusedSimpArgs false

theorem step_appS {P : Program} {w : World} {ops : Array Oper} {o : Oper} {a : Act} {K : Act → World → Prop} {Q : Exit → Act → World → Prop} {E : Prop} (hgd : o.guard = none) (s x : Operand) (t e : TypeId)
  (ho : o.op = .call { callee := .builtin .append, args := #[s, x], argTypes := #[t, t] })
  (base size bytes : Nat) (z : Value) (ht : P.underlying t = some (.slice e)) (hi : (P.info? e).map (fun i => (i.zero, i.size, i.bytes)) = some (some z, size, bytes)) (hz : z.cells.size = size) (hsz : 0 < size)
  (v : Value) (n : Nat) (xs : List Value) (hs : a.eval s = v) (hown : w.ownsRow base e size v n xs)
  (A : Option Addr) (m c : Nat) (news : List Value) (hx : a.eval x = .slice A m c) (hl : news.length = m * size) (hA : m ≠ 0 → ∃ ad, A = some ad ∧ ∀ j u, news[j]? = some u → w.cell? (ad.add j) = some u)
  (h1 : ∀ u ∈ news, u.oneCell' = true) (hn : (n + m) * bytes ≤ 140737488355328) (hm : n + m < 140737488355328) (hb : base ≤ w.heap.size)
  (h : ∀ v' w', w'.ownsRow base e size v' (n + m) (xs ++ news) → Below base w w' → w.grownBy w' v.ownBlock → K (a.put o.dst v') w') :
  if Region.wanted o (yielded ops a.tmps) = true then Oper.wp P o a w K Q else E := by
 have hw : Region.wanted o (yielded ops a.tmps) = true := by simp [Region.wanted, hgd]
 rw [if_pos hw]
 obtain ⟨i0, hi, hz0, hz1, hz2⟩ := info_parts hi
 have hbel : ∀ w', w.grownBy w' v.ownBlock → Below base w w' := fun w' hg => ⟨hg.os, hg.tape, hg.output, hg.size, fun k hk => hg.block k (by omega) (fun e => by have := (hown.lt k e.symm).1; omega)⟩
 cases A with
 | none =>
  have hm0 : m = 0 := by
   rcases Nat.eq_zero_or_pos m with h0 | h0
   ·exact h0
   ·obtain ⟨ad, hh, _⟩ := hA (by omega)
    cases hh
  subst hm0
  have hnews : news = [] := List.eq_nil_of_length_eq_zero (by simpa using hl)
  subst hnews
  have hrun : (Builtin.append_ #[t, t] o.type #[v, .slice none 0 c]).run P w = .ok v w := by
   rcases hown.2 with ⟨rfl, hn0⟩ | ⟨g, cap, cur, rfl, _, _, hnc, _⟩
   ·simp [Builtin.append_, run_underlying ht, sizeOf, typeInfo, hi, Builtin.lenOf, Builtin.firstCells]
   ·simp [Builtin.append_, run_underlying ht, sizeOf, typeInfo, hi, Builtin.lenOf, Builtin.firstCells, hnc, storeCells]
  unfold Oper.wp
  simp [execOp, ho, resolve, invoke, builtin, hs, hx, hrun, Result.andThen]
  exact h v w (by simpa using hown) (Below.refl _ _) (World.grownBy.refl w _)
 | some ad =>
  have hcells : ∀ j u, news[j]? = some u → w.cell? (ad.add j) = some u := fun j u hu => by
   rcases Nat.eq_zero_or_pos m with h0 | h0
   ·subst h0
    have hnews : news = [] := List.eq_nil_of_length_eq_zero (by simpa using hl)
    subst hnews
    simp at hu
   ·obtain ⟨ad', hh, hc⟩ := hA (by omega)
    obtain rfl := Option.some.inj hh
    exact hc j u hu
  exact wp_append_own w s x t ho base e i0 z size bytes ht hi hz0 hz1 hz2 hz hsz v n xs hs hown ad m c news hx hl hcells h1 (by unfold maxLen; omega) hn hb fun v' w' h2 h3 _ => h v' w' h2 (hbel w' h3) h3
/-- Behind 'out, e := build.Build(..)': a variable that holds what was built. -/
def ConR (r : Arr × Int) (W : World) (s11 s14 : Value) (wx : World) : Prop :=
 ∃ (c : Nat) (k : Value), s14 = .pointer (some ⟨c, 0, none⟩) ∧ s11 = .int .i64 r.2 ∧ W.heap.size ≤ c ∧ wx.heap[c]? = some (.cells (arrC r.1.lay r.1.off r.1.len r.1.valid r.1.ends r.1.data k) 27) ∧ KidsOwn wx (fun g => W.heap.size ≤ g) r.1.kids k ∧ Below W.heap.size W wx
theorem conR_alloc {A : Arr} {er : Int} {W w5 : World} {k : Value} (hko : KidsOwn w5 (fun g => W.heap.size ≤ g) A.kids k) (hb : Below W.heap.size W w5) :
  ConR (A, er) W (.int .i64 er) (.pointer (some ⟨w5.heap.size, 0, none⟩)) (w5.alloc (.cells (arrC A.lay A.off A.len A.valid A.ends A.data k) 27)) :=
 ⟨_, k, rfl, rfl, hb.size, heap_alloc_new w5 _, KidsOwn.below hko (below_alloc (Below.refl _ _) _), below_alloc hb _⟩
theorem conR_set {A : Arr} {er : Int} {W w5 : World} {c : Nat} {k c0 c1 c2 c3 c4 c5 c6 : Value} (hc : W.heap.size ≤ c) (hko : KidsOwn w5 (fun g => W.heap.size ≤ g ∧ c < g) A.kids k) (hb : Below W.heap.size W w5) (hblk : w5.heap[c]? = some (.cells #[c0, c1, c2, c3, c4, c5, c6] 27)) :
  ConR (A, er) W (.int .i64 er) (.pointer (some ⟨c, 0, none⟩)) (set7 w5 c (.int .i64 A.lay) (.int .i64 A.off) (.int .i64 A.len) (tv A.valid) (tv A.ends) (tv A.data) k) :=
 ⟨c, k, rfl, rfl, hc, set7_at hblk _ _ _ _ _ _ _, KidsOwn.weak _ _ _ _ (fun g hg _ => hg.1) (KidsOwn.same _ _ _ (fun g hg _ => set7_far _ _ _ (by have : c < g := hg.2; omega) _ _ _ _ _ _ _) hko), below_set7 hb hc _ _ _ _ _ _ _⟩
set_option maxRecDepth 100000 in
set_option maxHeartbeats 3200000 in
theorem concat2_calls (ns : List Tp.Nd) (a b : Arr) (x : Int) (u v vv : Value) (W : World) (ha : ArrAt W a u) (hb : ArrAt W b v) (hn : NodesAt W vv ns) (hv : Vars W) (hx : x ≤ 9223372036854775807) :
  Calls Tryz.prog 14 #[typeV vv, .int .i64 x, u, v] W (BuildR (Vp.concR ns x a b) W) := by
 obtain ⟨ka, kac, rfl, hka⟩ := arrAt_open ha
 obtain ⟨kb, kbc, rfl, hkb⟩ := arrAt_open hb
 obtain ⟨C0, CA, CB, CR, hsz, hb1⟩ := blk4 W (.cells #[vv] 24) (.cells (arrC a.lay a.off a.len a.valid a.ends a.data (.slice ka a.kids.length kac)) 27) (.cells (arrC b.lay b.off b.len b.valid b.ends b.data (.slice kb b.kids.length kbc)) 27) (.cells (arrC 0 0 0 [] [] [] (.slice none 0 0)) 27)
 obtain ⟨W1, hW1⟩ : ∃ W1, (((W.alloc (.cells #[vv] 24)).alloc (.cells (arrC a.lay a.off a.len a.valid a.ends a.data (.slice ka a.kids.length kac)) 27)).alloc (.cells (arrC b.lay b.off b.len b.valid b.ends b.data (.slice kb b.kids.length kbc)) 27)).alloc (.cells (arrC 0 0 0 [] [] [] (.slice none 0 0)) 27) = W1 := ⟨_, rfl⟩
 rw [hW1] at C0 CA CB CR hsz hb1
 have HV1 := Lib.hid (readValues_calls ns a x _ vv W1 (arrAt_bel ha hb1) (hn.below hb1) (hv.below hb1 hv.six))
 have HV2 := Lib.hid (fun (w' : World) (h : Below W1.heap.size W1 w') => readValues_calls ns b x _ vv w' (arrAt_bel hb (below_then hb1 h)) (hn.below (below_then hb1 h)) (hv.below (below_then hb1 h) hv.six))
 obtain ⟨E1, hE1⟩ : ∃ E : Int, (if mayX ns a x = true then (0 : Int) else 900) = E := ⟨_, rfl⟩
 obtain ⟨E2, hE2⟩ : ∃ E : Int, (if mayX ns b x = true then (0 : Int) else 900) = E := ⟨_, rfl⟩
 rw [hE1] at HV1
 rw [hE2] at HV2
 have HE1 := Lib.hid hE1
 have HE2 := Lib.hid hE2
 clear hE1 hE2
 have HN := Lib.hid (hn.below hb1)
 have HVV := Lib.hid (hv.below hb1 hv.six)
 have hsix := hv.six
 have HB1 := Lib.hid hb1
 have HC0 := Lib.hid C0
 have HCR := Lib.hid CR
 have q0 := cell_of_one C0
 obtain ⟨x0, x1, x2, x3, x4, x5, x6, _⟩ := zero_cells CA
 have hL1 := readV_len ns a x
 have hL2 := readV_len ns b x
 have HS1 := Lib.hid (readV_small ns a x)
 have HS2 := Lib.hid (readV_small ns b x)
 have HYES := Lib.hid (fun h k => concR_yes (ns := ns) (a := a) (b := b) (x := x) h k)
 have HNO := Lib.hid (fun h => concR_no (ns := ns) (a := a) (b := b) (x := x) h)
 clear ha hb hn hb1 hka hkb C0 CA CR
 go_enter Tryz.func14, Tryz.ntmps14
 go_wp2_with (fail)
 refine HV1.out.mono ?_; rintro e w2 ⟨r1, rfl, ho1, hb2⟩
 clear x0 x1 x2 x3 x4 x5 x6 q0 hW1
 have q0 := cell_of_one ((hb2.block _ (by omega)).trans HC0.out)
 obtain ⟨x0, x1, x2, x3, x4, x5, x6, _⟩ := zero_cells ((hb2.block _ (by omega)).trans CB)
 go_wp2_with (fail)
 refine (HV2.out w2 hb2).mono ?_; rintro e w3 ⟨r2, rfl, ho2, hb3⟩
 have HB3 := Lib.hid (hb2.trans (hb3.mono hb2.size))
 have h3 := HB3.out.size
 have HO1 := Lib.hid (own_below ho1 hb3)
 have HO2 := Lib.hid ho2
 have HR3 := Lib.hid ((HB3.out.block _ (by omega)).trans HCR.out)
 clear x0 x1 x2 x3 x4 x5 x6 q0 HV1 HV2 CB
 have q0 := cell_of_one ((HB3.out.block _ (by omega)).trans HC0.out)
 obtain ⟨z0, z1, z2, z3, z4, z5, z6, p0, p1, p2, p3, p4, p5, p6⟩ := zero_cells HR3.out
 have hlt3 : W.heap.size + 3 < w3.heap.size := lt_of_block HR3.out
 have HBB := Lib.hid (HB1.out.trans (HB3.out.mono HB1.out.size))
 obtain ⟨a1, c1, rfl⟩ := own_slice HO1.out
 obtain ⟨a2, c2, rfl⟩ := own_slice HO2.out
 clear ho1 ho2 hb2 hb3
 cases hma : mayX ns a x with
 | false =>
  have HU := Lib.hid (HNO.out (by rw [hma]; rfl))
  obtain rfl : E1 = 900 := by have := HE1.out; rw [hma] at this; exact this.symm
  clear hma
  go_wp2
  (try simp only [Exit.inBlock, Exit.then])
  refine bodyPost_ret (results_cell2_row rfl _ _ (W.heap.size + 1 + 1 + 1) 27 (arrC 0 0 0 [] [] [] (.slice none 0 0)) (0, 0) _ rfl (set7_at HR3.out _ _ _ _ _ _ _) Tryz.underlying27 rfl info_array_size) rfl ?_
  rw [HU.out]
  exact ⟨_, rfl, none_own _ _, below_set7 HBB.out (by omega) _ _ _ _ _ _ _⟩
 | true =>
  obtain rfl : E1 = 0 := by have := HE1.out; rw [hma] at this; exact this.symm
  cases hmb : mayX ns b x with
  | false =>
   have HU := Lib.hid (HNO.out (by rw [hma, hmb]; rfl))
   obtain rfl : E2 = 900 := by have := HE2.out; rw [hmb] at this; exact this.symm
   clear hma hmb
   go_wp2
   (try simp only [Exit.inBlock, Exit.then])
   refine bodyPost_ret (results_cell2_row rfl _ _ (W.heap.size + 1 + 1 + 1) 27 (arrC 0 0 0 [] [] [] (.slice none 0 0)) (0, 0) _ rfl (set7_at HR3.out _ _ _ _ _ _ _) Tryz.underlying27 rfl info_array_size) rfl ?_
   rw [HU.out]
   exact ⟨_, rfl, none_own _ _, below_set7 HBB.out (by omega) _ _ _ _ _ _ _⟩
  | true =>
   have HU := Lib.hid (HYES.out hma hmb)
   obtain rfl : E2 = 0 := by have := HE2.out; rw [hmb] at this; exact this.symm
   clear HNO HYES HE1 HE2
   generalize readV ns a x = X at HU HO1 HO2 HS1 hL1
   generalize readV ns b x = Y at HU HO1 HO2 HS2 hL2
   have HBU := Lib.hid (fun (v' : Value) (w' : World) (h : Below W1.heap.size W1 w') (ho : w'.ownsRow W1.heap.size 9 1 v' (X.length + Y.length) (X.map tv ++ Y.map tv)) => buildR_calls v' vv ns x (X ++ Y) w' (HN.out.below h) (own_texts (base := W1.heap.size) (by rw [List.length_append, List.map_append]; exact ho)) (HVV.out.below h (by omega)) hx (fun t ht => by
    rcases List.mem_append.1 ht with h | h
    ·have := HS1.out t h; omega
    ·have := HS2.out t h; omega) (by rw [List.length_append]; omega))
   obtain ⟨⟨A, er⟩, hr⟩ : ∃ r, Vp.buildR ns x (X ++ Y) = r := ⟨_, rfl⟩
   have HF := Lib.hid (show Vp.concR ns x a b = if er = 0 then (A, 0) else (Arr.none, 1201) by
    rw [HU.out]
    unfold Vp.fulR
    rw [hr])
   rw [hr] at HBU
   have HNE : ∀ g, w3.heap.size ≤ g → some g ≠ (Value.slice a1 X.length c1).ownBlock := fun g hg e => by
    have := (HO1.out.lt g e.symm).2
    omega
   clear hr hma hmb HU
   go_upto_region 5 with (fail)
   have HS := Lib.hid (show ∀ w', Below W1.heap.size W1 w' → (fun w' => w'.cell? ⟨W.heap.size, 0, none⟩ = some vv ∧ Below W1.heap.size W1 w') w' from fun w' h => ⟨(h.cell (p := ⟨W.heap.size, 0, none⟩) (by simp only; omega)).trans (cell_of_one HC0.out), h⟩)
   go_cut [11, 14] (fun s11 s14 wx => ConR (A, er) W1 s11 s14 wx)
   case first =>
    refine wp_region_held_drew (S := (fun w' => w'.cell? ⟨W.heap.size, 0, none⟩ = some vv ∧ Below W1.heap.size W1 w')) (by kernel_rfl) (HS.out _ (below_drew HB3.out)) (fun hHeld => ?_)
    refine tk 0 (v := ?_) rfl (fun _ _ _ h => h) (Or.inl ⟨by rfl, ?_⟩) (by assumption) ?_; rotate_left; focus (intro w hSw; (try dsimp only at hSw); go_simp; try with_reducible rfl)
    (try simp only [sx])
    refine tk 1 (v := ?_) rfl (fun _ _ _ h => h) (Or.inl ⟨by rfl, ?_⟩) (by assumption) ?_; rotate_left; focus (intro w hSw; (try dsimp only at hSw); go_simp; try with_reducible rfl)
    (try simp only [sx])
    refine tk 2 (v := ?_) rfl (fun _ _ _ h => h) (Or.inl ⟨by rfl, ?_⟩) (by assumption) ?_; rotate_left; focus (intro w hSw; (try dsimp only at hSw); go_simp; try with_reducible rfl)
    (try simp only [sx])
    refine tk 3 (v := ?_) rfl (fun _ _ _ h => h) (Or.inl ⟨by rfl, ?_⟩) (by assumption) ?_; rotate_left; focus (intro w hSw; (try dsimp only at hSw); go_simp; try with_reducible rfl)
    (try simp only [sx])
    refine wpAnyH_ready (rs := [4, 9]) (by kernel_rfl) (by simp) ?_
    refine AllReadyH.cons rfl (fun K hK => ?_) (AllReadyH.cons rfl (fun K hK => ?_) AllReadyH.nil)
    ·refine step_appS (by rfl) _ _ 39 9 (by rfl) W1.heap.size 1 16 (.string ⟨#[]⟩) Tryz.underlying39 info_string rfl (by decide) _ _ _ (by rfl) (own_below HO1.out (by repeat (first | exact Below.refl _ _ | apply below_drew | apply below_alloc))) a2 Y.length c2 (Y.map tv) (by rfl) (by simp) (own_srcT (own_below HO2.out (by repeat (first | exact Below.refl _ _ | apply below_drew | apply below_alloc)))) (tvs_one Y) (by omega) (by omega) (by have := (hHeld.2).size; omega) ?_
     intro v4 w4 ho4 hb4 hg4
     have HX4 : Below W1.heap.size W1 w4 := hHeld.2.trans hb4
     clear hHeld
     refine hK.out _ _ (HS.out _ (HX4)) (fun hHeld => ?_)
     clear hK K
     (try simp only [sx])
     refine wpAnyH_ready (rs := [5, 9]) (by kernel_rfl) (by simp) ?_
     refine AllReadyH.cons rfl (fun K hK => ?_) (AllReadyH.cons rfl (fun K hK => ?_) AllReadyH.nil)
     ·go_simp
      go_at_call 37; refine (HBU.out _ _ hHeld.2 ho4).mono ?_; rintro e5 w5 ⟨u5, he5, ho5, hb5⟩
      replace he5 : e5 = .returned (.tuple #[u5, .int .i64 er]) := he5
      subst he5
      have HX5 := below_then hHeld.2 hb5
      obtain ⟨k5, ac, cc, hk5, rfl, hko⟩ := ho5.value
      subst hk5
      have hko2 := KidsOwn.weak _ _ (fun g => W1.heap.size ≤ g) _ (fun g hg _ => Nat.le_trans hHeld.2.size hg) hko
      clear hHeld
      refine hK.out _ _ (HS.out _ (HX5)) (fun hHeld => ?_)
      clear hK K
      (try simp only [sx])
      refine tk 6 (v := ?_) rfl (fun _ _ _ h => h) (Or.inl ⟨by rfl, ?_⟩) (by assumption) ?_; rotate_left; focus (intro w hSw; (try dsimp only at hSw); go_simp; try with_reducible rfl)
      (try simp only [sx])
      refine tk 7 (v := ?_) rfl (fun _ _ _ h => h) (Or.inl ⟨by rfl, ?_⟩) (by assumption) ?_; rotate_left; focus (intro w hSw; (try dsimp only at hSw); go_simp; try with_reducible rfl)
      (try simp only [sx])
      refine tk 8 (v := ?_) rfl (fun _ _ _ h => h) (Or.inl ⟨by rfl, ?_⟩) (by assumption) ?_; rotate_left; focus (intro w hSw; (try dsimp only at hSw); go_simp; try with_reducible rfl)
      (try simp only [sx])
      refine wpAnyH_ready (rs := [9]) (by kernel_rfl) (by simp) ?_
      refine AllReadyH.cons rfl (fun K hK => ?_) AllReadyH.nil
      go_simp
      clear hHeld
      refine hK.out _ _ (HS.out _ (below_alloc HX5 _)) (fun hHeld => ?_)
      clear hK K
      (try simp only [sx])
      refine wpAnyH_ready (rs := [10]) (by kernel_rfl) (by simp) ?_
      refine AllReadyH.cons rfl (fun K hK => ?_) AllReadyH.nil
      go_simp
      clear hHeld
      refine hK.out _ _ (HS.out _ (below_alloc HX5 _)) (fun hHeld => ?_)
      clear hK K
      (try simp only [sx])
      refine tk 11 (v := ?_) rfl (fun _ _ _ h => h) (Or.inl ⟨by rfl, ?_⟩) (by assumption) ?_; rotate_left; focus (intro w hSw; (try dsimp only at hSw); go_simp; try with_reducible rfl)
      (try simp only [sx])
      refine wpAnyH_done (by kernel_rfl) ?_ _
      go_wp2_with fail
      go_meet
      exact conR_alloc hko2 HX5
     ·go_simp
      clear hHeld
      refine hK.out _ _ (HS.out _ (below_alloc HX4 _)) (fun hHeld => ?_)
      clear hK K
      (try simp only [sx])
      refine wpAnyH_ready (rs := [5]) (by kernel_rfl) (by simp) ?_
      refine AllReadyH.cons rfl (fun K hK => ?_) AllReadyH.nil
      go_simp
      go_at_call 37; refine (HBU.out _ _ hHeld.2 (own_below ho4 (below_alloc (Below.refl _ _) _))).mono ?_; rintro e5 w5 ⟨u5, he5, ho5, hb5⟩
      replace he5 : e5 = .returned (.tuple #[u5, .int .i64 er]) := he5
      subst he5
      have HX5 := below_then hHeld.2 hb5
      obtain ⟨k5, ac, cc, hk5, rfl, hko⟩ := ho5.value
      subst hk5
      have hblk : w5.heap[w4.heap.size]? = some (.cells #[.int .i64 0, .int .i64 0, .int .i64 0, .string ⟨#[]⟩, .string ⟨#[]⟩, .string ⟨#[]⟩, .slice none 0 0] 27) := (hb5.block _ (by simp)).trans (heap_alloc_new w4 _)
      have hko2 := KidsOwn.weak _ _ (fun g => W1.heap.size ≤ g ∧ w4.heap.size < g) _ (fun g hg _ => ⟨Nat.le_trans hHeld.2.size hg, Nat.lt_of_lt_of_le (by simp) hg⟩) hko
      obtain ⟨z0, z1, z2, z3, z4, z5, z6, y0, y1, y2, y3, y4, y5, y6⟩ := zero_cells hblk
      clear hHeld
      refine hK.out _ _ (HS.out _ (HX5)) (fun hHeld => ?_)
      clear hK K
      (try simp only [sx])
      refine tk 6 (v := ?_) rfl (fun _ _ _ h => h) (Or.inl ⟨by rfl, ?_⟩) (by assumption) ?_; rotate_left; focus (intro w hSw; (try dsimp only at hSw); go_simp; try with_reducible rfl)
      (try simp only [sx])
      refine tk 7 (v := ?_) rfl (fun _ _ _ h => h) (Or.inl ⟨by rfl, ?_⟩) (by assumption) ?_; rotate_left; focus (intro w hSw; (try dsimp only at hSw); go_simp; try with_reducible rfl)
      (try simp only [sx])
      refine tk 8 (v := ?_) rfl (fun _ _ _ h => h) (Or.inl ⟨by rfl, ?_⟩) (by assumption) ?_; rotate_left; focus (intro w hSw; (try dsimp only at hSw); go_simp; try with_reducible rfl)
      (try simp only [sx])
      refine wpAnyH_ready (rs := [10]) (by kernel_rfl) (by simp) ?_
      refine AllReadyH.cons rfl (fun K hK => ?_) AllReadyH.nil
      go_simp
      clear hHeld
      refine hK.out _ _ (HS.out _ (below_set7 HX5 HX4.size _ _ _ _ _ _ _)) (fun hHeld => ?_)
      clear hK K
      (try simp only [sx])
      refine tk 11 (v := ?_) rfl (fun _ _ _ h => h) (Or.inl ⟨by rfl, ?_⟩) (by assumption) ?_; rotate_left; focus (intro w hSw; (try dsimp only at hSw); go_simp; try with_reducible rfl)
      (try simp only [sx])
      refine wpAnyH_done (by kernel_rfl) ?_ _
      go_wp2_with fail
      go_meet
      exact conR_set HX4.size hko2 HX5 hblk
    ·go_simp
     clear hHeld
     refine hK.out _ _ (HS.out _ (below_alloc (below_drew HB3.out) _)) (fun hHeld => ?_)
     clear hK K
     (try simp only [sx])
     refine wpAnyH_ready (rs := [4]) (by kernel_rfl) (by simp) ?_
     refine AllReadyH.cons rfl (fun K hK => ?_) AllReadyH.nil
     refine step_appS (by rfl) _ _ 39 9 (by rfl) W1.heap.size 1 16 (.string ⟨#[]⟩) Tryz.underlying39 info_string rfl (by decide) _ _ _ (by rfl) (own_below HO1.out (by repeat (first | exact Below.refl _ _ | apply below_drew | apply below_alloc))) a2 Y.length c2 (Y.map tv) (by rfl) (by simp) (own_srcT (own_below HO2.out (by repeat (first | exact Below.refl _ _ | apply below_drew | apply below_alloc)))) (tvs_one Y) (by omega) (by omega) (by have := (hHeld.2).size; omega) ?_
     intro v4 w4 ho4 hb4 hg4
     have HX4 : Below W1.heap.size W1 w4 := hHeld.2.trans hb4
     have hblk4 : w4.heap[w3.heap.size]? = some (.cells #[.int .i64 0, .int .i64 0, .int .i64 0, .string ⟨#[]⟩, .string ⟨#[]⟩, .string ⟨#[]⟩, .slice none 0 0] 27) := (hg4.block _ (by show w3.heap.size < (w3.drew.alloc _).heap.size; simp) (HNE w3.heap.size (Nat.le_refl _))).trans (heap_alloc_new w3.drew _)
     have hl4 : w3.heap.size < w4.heap.size := lt_of_block hblk4
     clear hHeld
     refine hK.out _ _ (HS.out _ (HX4)) (fun hHeld => ?_)
     clear hK K
     (try simp only [sx])
     refine wpAnyH_ready (rs := [5]) (by kernel_rfl) (by simp) ?_
     refine AllReadyH.cons rfl (fun K hK => ?_) AllReadyH.nil
     go_simp
     go_at_call 37; refine (HBU.out _ _ hHeld.2 ho4).mono ?_; rintro e5 w5 ⟨u5, he5, ho5, hb5⟩
     replace he5 : e5 = .returned (.tuple #[u5, .int .i64 er]) := he5
     subst he5
     have HX5 := below_then hHeld.2 hb5
     obtain ⟨k5, ac, cc, hk5, rfl, hko⟩ := ho5.value
     subst hk5
     have hblk := (hb5.block _ hl4).trans hblk4
     have hko2 := KidsOwn.weak _ _ (fun g => W1.heap.size ≤ g ∧ w3.heap.size < g) _ (fun g hg _ => ⟨Nat.le_trans hHeld.2.size hg, Nat.lt_of_lt_of_le hl4 hg⟩) hko
     obtain ⟨z0, z1, z2, z3, z4, z5, z6, y0, y1, y2, y3, y4, y5, y6⟩ := zero_cells hblk
     clear hHeld
     refine hK.out _ _ (HS.out _ (HX5)) (fun hHeld => ?_)
     clear hK K
     (try simp only [sx])
     refine tk 6 (v := ?_) rfl (fun _ _ _ h => h) (Or.inl ⟨by rfl, ?_⟩) (by assumption) ?_; rotate_left; focus (intro w hSw; (try dsimp only at hSw); go_simp; try with_reducible rfl)
     (try simp only [sx])
     refine tk 7 (v := ?_) rfl (fun _ _ _ h => h) (Or.inl ⟨by rfl, ?_⟩) (by assumption) ?_; rotate_left; focus (intro w hSw; (try dsimp only at hSw); go_simp; try with_reducible rfl)
     (try simp only [sx])
     refine tk 8 (v := ?_) rfl (fun _ _ _ h => h) (Or.inl ⟨by rfl, ?_⟩) (by assumption) ?_; rotate_left; focus (intro w hSw; (try dsimp only at hSw); go_simp; try with_reducible rfl)
     (try simp only [sx])
     refine wpAnyH_ready (rs := [10]) (by kernel_rfl) (by simp) ?_
     refine AllReadyH.cons rfl (fun K hK => ?_) AllReadyH.nil
     go_simp
     clear hHeld
     refine hK.out _ _ (HS.out _ (below_set7 HX5 h3 _ _ _ _ _ _ _)) (fun hHeld => ?_)
     clear hK K
     (try simp only [sx])
     refine tk 11 (v := ?_) rfl (fun _ _ _ h => h) (Or.inl ⟨by rfl, ?_⟩) (by assumption) ?_; rotate_left; focus (intro w hSw; (try dsimp only at hSw); go_simp; try with_reducible rfl)
     (try simp only [sx])
     refine wpAnyH_done (by kernel_rfl) ?_ _
     go_wp2_with fail
     go_meet
     exact conR_set h3 hko2 HX5 hblk
   case rest =>
    obtain ⟨c5, k5, rfl, rfl, hc5, hblk, hko, hbx⟩ := hcut
    rename World => w6
    replace hblk : w6.heap[c5]? = some (.cells (arrC A.lay A.off A.len A.valid A.ends A.data k5) 27) := hblk
    replace hko : KidsOwn w6 (fun g => W1.heap.size ≤ g) A.kids k5 := hko
    obtain ⟨ac, cc, rfl⟩ := hko.slice
    have HR5 := Lib.hid ((hbx.block _ (by omega)).trans HCR.out)
    have HB5 := Lib.hid (HB1.out.trans (hbx.mono HB1.out.size))
    have HK := Lib.hid (KidsOwn.weak _ _ (fun g => W.heap.size + 3 < g) _ (fun g hg _ => by have : W1.heap.size ≤ g := hg; show W.heap.size + 3 < g; omega) hko)
    clear z0 z1 z2 z3 z4 z5 z6 p0 p1 p2 p3 p4 p5 p6 q0
    obtain ⟨z0, z1, z2, z3, z4, z5, z6, p0, p1, p2, p3, p4, p5, p6⟩ := zero_cells HR5.out
    obtain ⟨s0, s1, s2, s3, s4, s5, s6, _⟩ := zero_cells hblk
    clear hko hbx HS
    by_cases he : er = 0
    ·subst he
     have HU := Lib.hid (show Vp.concR ns x a b = (A, 0) from HF.out)
     go_wp2
     (try simp only [Exit.inBlock, Exit.then])
     refine bodyPost_ret (results_cell2_row rfl _ _ (W.heap.size + 1 + 1 + 1) 27 (arrC A.lay A.off A.len A.valid A.ends A.data (.slice ac A.kids.length cc)) (0, 0) _ rfl (set7_at HR5.out _ _ _ _ _ _ _) Tryz.underlying27 rfl info_array_size) rfl ?_
     rw [HU.out]
     exact built_own HK.out (by omega) (below_set7 HB5.out (by omega) _ _ _ _ _ _ _)
    ·have he2 : (er != 0) = true := bne_iff_ne.2 he
     have HU := Lib.hid (show Vp.concR ns x a b = (Arr.none, 1201) by rw [HF.out, if_neg he])
     go_wp2
     (try simp only [Exit.inBlock, Exit.then])
     refine bodyPost_ret (results_cell2_row rfl _ _ (W.heap.size + 1 + 1 + 1) 27 (arrC 0 0 0 [] [] [] (.slice none 0 0)) (0, 0) _ rfl (set7_at HR5.out _ _ _ _ _ _ _) Tryz.underlying27 rfl info_array_size) rfl ?_
     rw [HU.out]
     exact ⟨_, rfl, none_own _ _, below_set7 HB5.out (by omega) _ _ _ _ _ _ _⟩
end Go.Proofs.YtobhjlchpnpleaaGreatDoor
