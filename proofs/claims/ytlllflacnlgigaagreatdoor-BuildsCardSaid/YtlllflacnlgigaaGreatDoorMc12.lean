/- SameArray, walked. -/
import Derived.Test.YtlllflacnlgigaaGreatDoorMc11
namespace Go.Proofs.YtlllflacnlgigaaGreatDoor
open Go.RowKit
set_option linter.unusedVariables false
set_option linter.unusedSimpArgs false

def SameOK (N : Nat) : Prop := ∀ (l f n : Int) (v e d : Vp.Txt) (ks : List Arr) (l' f' n' : Int) (v' e' d' : Vp.Txt) (ks' : List Arr) (k k' : Value) (W : World), SizeOf.sizeOf ks < N → KidsAt W ks k → KidsAt W ks' k' →
  Calls Tryz.prog 31 #[arrV l f n v e d k, arrV l' f' n' v' e' d' k'] W fun x w' => x = .returned (.bool (Arr.same (.mk l f n v e d ks) (.mk l' f' n' v' e' d' ks'))) ∧ Below W.heap.size W w'

theorem same_no {l f n : Int} {v e d : Vp.Txt} {ks : List Arr} {l' f' n' : Int} {v' e' d' : Vp.Txt} {ks' : List Arr}
    (h : ¬ (l = l' ∧ f = f' ∧ n = n' ∧ v = v' ∧ e = e' ∧ d = d' ∧ ks = ks')) : Arr.same (.mk l f n v e d ks) (.mk l' f' n' v' e' d' ks') = false := by
  rw [Bool.eq_false_iff]
  intro hs
  rw [Arr.same_eq] at hs
  simp only [Arr.mk.injEq] at hs
  exact h hs
theorem same_yes (l f n : Int) (v e d : Vp.Txt) (ks : List Arr) : Arr.same (.mk l f n v e d ks) (.mk l f n v e d ks) = true := (Arr.same_eq _ _).2 rfl

theorem kids_open {w : World} {ks : List Arr} {a : Option Addr} {c : Nat} (h : KidsAt w ks (.slice a ks.length c)) : ks ≠ [] → ∃ bk o, a = some ⟨bk, o, none⟩ ∧ bk < w.heap.size ∧ CellsAt w bk o ks := by
  rw [KidsAt] at h
  obtain ⟨a', c', hv, _, _, h3⟩ := h
  obtain ⟨rfl, _, rfl⟩ := Value.slice.inj hv
  exact h3
theorem take_next {α : Type} {xs ys : List α} {q : Nat} {x y : α} (h : xs.take q = ys.take q) (hx : xs[q]? = some x) (hy : ys[q]? = some y) (hxy : x = y) : xs.take (q + 1) = ys.take (q + 1) := by
  subst hxy
  rw [List.take_add_one, List.take_add_one, h, hx, hy]
set_option maxRecDepth 100000 in
set_option maxHeartbeats 3200000 in
theorem same_succ (N : Nat) (ih : SameOK N) : SameOK (N + 1) := by
  intro l f n v e d ks l' f' n' v' e' d' ks' k k' W hsz hk hk'
  have hb1 : Below W.heap.size W (W.alloc (.cells #[.int .i64 l, .int .i64 f, .int .i64 n, tv v, tv e, tv d, k] 47)) := (Below.refl _ _).alloc (Nat.le_refl _) _
  have hb2 := hb1.alloc (Nat.le_of_lt (by simp)) (.cells #[.int .i64 l', .int .i64 f', .int .i64 n', tv v', tv e', tv d', k'] 47)
  have hA := Lib.hid (KidsAt.below hb2 _ _ hk)
  have hA' := Lib.hid (KidsAt.below hb2 _ _ hk')
  rw [KidsAt] at hk hk'
  obtain ⟨a, c, rfl, _, hm, _⟩ := hk
  obtain ⟨a', c', rfl, _, hm', _⟩ := hk'
  unfold maxLen at hm hm'
  simp only [tv] at hb1 hb2 hA hA'
  simp only [arrV, tv]
  by_cases hx0 : l = l'
  · subst hx0
    by_cases hx1 : f = f'
    · subst hx1
      by_cases hx2 : n = n'
      · subst hx2
        by_cases hx3 : v = v'
        · subst hx3
          by_cases hx4 : e = e'
          · subst hx4
            by_cases hx5 : d = d'
            · subst hx5
              by_cases hlen : ks.length = ks'.length
              · have hleni : ((ks.length : Int) != (ks'.length : Int)) = false := by simp; omega
                have HLEN := Lib.hid hlen
                clear hlen
                have hp6 : ((W.alloc (.cells #[.int .i64 l, .int .i64 f, .int .i64 n, .string ⟨v.toArray⟩, .string ⟨e.toArray⟩, .string ⟨d.toArray⟩, .slice a ks.length c] 47)).alloc (.cells #[.int .i64 l, .int .i64 f, .int .i64 n, .string ⟨v.toArray⟩, .string ⟨e.toArray⟩, .string ⟨d.toArray⟩, .slice a' ks'.length c'] 47)).cell? ⟨W.heap.size, 6, none⟩ = some (.slice a ks.length c) := by simp
                have hq6 : ((W.alloc (.cells #[.int .i64 l, .int .i64 f, .int .i64 n, .string ⟨v.toArray⟩, .string ⟨e.toArray⟩, .string ⟨d.toArray⟩, .slice a ks.length c] 47)).alloc (.cells #[.int .i64 l, .int .i64 f, .int .i64 n, .string ⟨v.toArray⟩, .string ⟨e.toArray⟩, .string ⟨d.toArray⟩, .slice a' ks'.length c'] 47)).cell? ⟨W.heap.size + 1, 6, none⟩ = some (.slice a' ks'.length c') := by simp
                have hs0 : W.heap.size + 1 < ((W.alloc (.cells #[.int .i64 l, .int .i64 f, .int .i64 n, .string ⟨v.toArray⟩, .string ⟨e.toArray⟩, .string ⟨d.toArray⟩, .slice a ks.length c] 47)).alloc (.cells #[.int .i64 l, .int .i64 f, .int .i64 n, .string ⟨v.toArray⟩, .string ⟨e.toArray⟩, .string ⟨d.toArray⟩, .slice a' ks'.length c'] 47)).heap.size := by simp
                go_enter Tryz.func31, Tryz.ntmps31
                go_wp2
                obtain ⟨W2, hW2⟩ : ∃ W2, (W.alloc (.cells #[.int .i64 l, .int .i64 f, .int .i64 n, .string ⟨v.toArray⟩, .string ⟨e.toArray⟩, .string ⟨d.toArray⟩, .slice a ks.length c] 47)).alloc (.cells #[.int .i64 l, .int .i64 f, .int .i64 n, .string ⟨v.toArray⟩, .string ⟨e.toArray⟩, .string ⟨d.toArray⟩, .slice a' ks'.length c'] 47) = W2 := ⟨_, rfl⟩
                rw [hW2] at hb2 hA hA' hp6 hq6 hs0 ⊢
                clear hW2 hb1
                have HK := Lib.hid (kids_open hA.out)
                have HK' := Lib.hid (kids_open hA'.out)
                clear hA hA'
                go_loopw [5] (fun i wr => ∃ q : Nat, q ≤ ks.length ∧ i = .int .i64 q ∧ ks.take q = ks'.take q ∧ Below W2.heap.size W2 wr) (fun i _ => ks.length - (intOf i).toNat)
                case atStart => exact ⟨0, Nat.zero_le _, rfl, by simp, Below.refl _ _⟩
                case round =>
                  obtain ⟨q, hq, rfl, htk, hb⟩ := hrel
                  have HT := Lib.hid htk
                  clear htk
                  have p6 := (hb.cell (p := ⟨W.heap.size, 6, none⟩) (Nat.lt_of_succ_lt hs0)).trans hp6
                  have q6 := (hb.cell (p := ⟨W.heap.size + 1, 6, none⟩) hs0).trans hq6
                  by_cases hlt : q < ks.length
                  · have hlt' : q < ks'.length := by have := HLEN.out; omega
                    have hi : (q : Int) < (ks.length : Int) := by omega
                    have hi' : (q : Int) < (ks'.length : Int) := by omega
                    obtain ⟨bk, o, rfl, hbk, hc⟩ := HK.out (by intro h; rw [h] at hlt; exact Nat.not_lt_zero _ hlt)
                    obtain ⟨bk', o', rfl, hbk', hc'⟩ := HK'.out (by intro h; rw [h] at hlt'; exact Nat.not_lt_zero _ hlt')
                    have hx := List.getElem?_eq_getElem hlt
                    have hy := List.getElem?_eq_getElem hlt'
                    have hsx : SizeOf.sizeOf ks[q] < SizeOf.sizeOf ks := List.sizeOf_lt_of_mem (List.getElem_mem hlt)
                    have HX := Lib.hid hx
                    have HY := Lib.hid hy
                    generalize ks[q] = x at hx hsx HX
                    generalize ks'[q] = y at hy HY
                    obtain ⟨xl, xf, xn, xv, xe, xd, xs⟩ := x
                    obtain ⟨yl, yf, yn, yv, ye, yd, ys⟩ := y
                    obtain ⟨g0, g1, g2, g3, g4, g5, kx, g6, hkx⟩ := CellsAt.at ks o q _ _ _ _ _ _ _ hc hx
                    obtain ⟨h0, h1, h2, h3, h4, h5, ky, h6, hky⟩ := CellsAt.at ks' o' q _ _ _ _ _ _ _ hc' hy
                    have cc := fun j => hb.cell (p := ⟨bk, j, none⟩) hbk
                    have cc' := fun j => hb.cell (p := ⟨bk', j, none⟩) hbk'
                    replace g0 := (cc _).trans g0
                    replace g1 := (cc _).trans g1
                    replace g2 := (cc _).trans g2
                    replace g3 := (cc _).trans g3
                    replace g4 := (cc _).trans g4
                    replace g5 := (cc _).trans g5
                    replace g6 := (cc _).trans g6
                    replace h0 := (cc' _).trans h0
                    replace h1 := (cc' _).trans h1
                    replace h2 := (cc' _).trans h2
                    replace h3 := (cc' _).trans h3
                    replace h4 := (cc' _).trans h4
                    replace h5 := (cc' _).trans h5
                    replace h6 := (cc' _).trans h6
                    simp only [tv] at g3 g4 g5 h3 h4 h5
                    have HC := Lib.hid (fun W' (h : Below W2.heap.size W2 W') => ih xl xf xn xv xe xd xs yl yf yn yv ye yd ys kx ky W' (by simp only [Arr.mk.sizeOf_spec] at hsx; omega) (KidsAt.below h _ _ hkx) (KidsAt.below h _ _ hky))
                    simp only [arrV, tv] at HC
                    obtain ⟨bb, hbb⟩ : ∃ bb, Arr.same (.mk xl xf xn xv xe xd xs) (.mk yl yf yn yv ye yd ys) = bb := ⟨_, rfl⟩
                    rw [hbb] at HC
                    have HBB := Lib.hid hbb
                    clear hbb cc cc' hc hc' hx hy hsx hkx hky
                    cases bb with
                    | true =>
                      go_wp2
                      go_region_with (refine (HC.out _ (by repeat (first | exact hb | apply below_drewN | apply below_drew))).mono ?_; rintro e w' ⟨rfl, hb4⟩)
                      all_goals
                        have hb5 := Below.trans (below_drew hb) (hb4.mono (by simpa using hb.size))
                        go_wp2
                        exact ⟨⟨q + 1, by omega, by go_num, take_next HT.out HX.out HY.out ((Arr.same_eq _ _).1 HBB.out), hb5⟩, by simp [intOf]; omega⟩
                    | false =>
                      go_wp2
                      go_region_with (refine (HC.out _ (by repeat (first | exact hb | apply below_drewN | apply below_drew))).mono ?_; rintro e w' ⟨rfl, hb4⟩)
                      all_goals
                        have hb5 := Below.trans (below_drew hb) (hb4.mono (by simpa using hb.size))
                        go_wp2
                        go_ret
                        exact ⟨ret_bool (by rw [same_no]; rintro ⟨_, _, _, _, _, _, rfl⟩; have := Option.some.inj (HX.out.symm.trans HY.out); rw [this, (Arr.same_eq _ _).2 rfl] at HBB; exact absurd HBB.out (by simp)), hb2.trans (hb5.mono hb2.size)⟩
                  · obtain rfl : q = ks.length := by omega
                    have HE := Lib.hid (show ks = ks' by have := HT.out; rwa [List.take_length, HLEN.out, List.take_length] at this)
                    go_wp2
                    go_ret
                    exact ⟨ret_bool (by rw [← HE.out, same_yes]), hb2.trans (hb.mono hb2.size)⟩
              · have HU := Lib.hid (same_no (l := l) (f := f) (n := n) (v := v) (e := e) (d := d) (ks := ks) (l' := l) (f' := f) (n' := n) (v' := v) (e' := e) (d' := d) (ks' := ks') (fun h => hlen (by rw [h.2.2.2.2.2.2])))
                have hne : ((ks.length : Int) != (ks'.length : Int)) = true := by simp; omega
                clear hA hA' hlen
                go_enter Tryz.func31, Tryz.ntmps31
                go_wp2
                go_ret
                exact ⟨by rw [HU.out]; rfl, hb2⟩
            · have HU := Lib.hid (same_no (l := l) (f := f) (n := n) (v := v) (e := e) (d := d) (ks := ks) (l' := l) (f' := f) (n' := n) (v' := v) (e' := e) (d' := d') (ks' := ks') (fun h => hx5 h.2.2.2.2.2.1))
              have hne : (d != d') = true := bne_iff_ne.2 hx5
              have heq : (d == d') = false := beq_eq_false_iff_ne.2 hx5
              clear hx5 hA hA'
              go_enter Tryz.func31, Tryz.ntmps31
              go_wp2
              go_ret
              exact ⟨by rw [HU.out]; rfl, hb2⟩
          · have HU := Lib.hid (same_no (l := l) (f := f) (n := n) (v := v) (e := e) (d := d) (ks := ks) (l' := l) (f' := f) (n' := n) (v' := v) (e' := e') (d' := d') (ks' := ks') (fun h => hx4 h.2.2.2.2.1))
            have hne : (e != e') = true := bne_iff_ne.2 hx4
            have heq : (e == e') = false := beq_eq_false_iff_ne.2 hx4
            clear hx4 hA hA'
            go_enter Tryz.func31, Tryz.ntmps31
            go_wp2
            go_ret
            exact ⟨by rw [HU.out]; rfl, hb2⟩
        · have HU := Lib.hid (same_no (l := l) (f := f) (n := n) (v := v) (e := e) (d := d) (ks := ks) (l' := l) (f' := f) (n' := n) (v' := v') (e' := e') (d' := d') (ks' := ks') (fun h => hx3 h.2.2.2.1))
          have hne : (v != v') = true := bne_iff_ne.2 hx3
          have heq : (v == v') = false := beq_eq_false_iff_ne.2 hx3
          clear hx3 hA hA'
          go_enter Tryz.func31, Tryz.ntmps31
          go_wp2
          go_ret
          exact ⟨by rw [HU.out]; rfl, hb2⟩
      · have HU := Lib.hid (same_no (l := l) (f := f) (n := n) (v := v) (e := e) (d := d) (ks := ks) (l' := l) (f' := f) (n' := n') (v' := v') (e' := e') (d' := d') (ks' := ks') (fun h => hx2 h.2.2.1))
        have hne : (n != n') = true := bne_iff_ne.2 hx2
        have heq : (n == n') = false := beq_eq_false_iff_ne.2 hx2
        clear hx2 hA hA'
        go_enter Tryz.func31, Tryz.ntmps31
        go_wp2
        go_ret
        exact ⟨by rw [HU.out]; rfl, hb2⟩
    · have HU := Lib.hid (same_no (l := l) (f := f) (n := n) (v := v) (e := e) (d := d) (ks := ks) (l' := l) (f' := f') (n' := n') (v' := v') (e' := e') (d' := d') (ks' := ks') (fun h => hx1 h.2.1))
      have hne : (f != f') = true := bne_iff_ne.2 hx1
      have heq : (f == f') = false := beq_eq_false_iff_ne.2 hx1
      clear hx1 hA hA'
      go_enter Tryz.func31, Tryz.ntmps31
      go_wp2
      go_ret
      exact ⟨by rw [HU.out]; rfl, hb2⟩
  · have HU := Lib.hid (same_no (l := l) (f := f) (n := n) (v := v) (e := e) (d := d) (ks := ks) (l' := l') (f' := f') (n' := n') (v' := v') (e' := e') (d' := d') (ks' := ks') (fun h => hx0 h.1))
    have hne : (l != l') = true := bne_iff_ne.2 hx0
    have heq : (l == l') = false := beq_eq_false_iff_ne.2 hx0
    clear hx0 hA hA'
    go_enter Tryz.func31, Tryz.ntmps31
    go_wp2
    go_ret
    exact ⟨by rw [HU.out]; rfl, hb2⟩
theorem same_all : ∀ N, SameOK N
  | 0 => fun _ _ _ _ _ _ _ _ _ _ _ _ _ _ _ _ _ h _ _ => absurd h (Nat.not_lt_zero _)
  | N + 1 => same_succ N (same_all N)
/-- An array's value. -/
def ArrAt (w : World) : Arr → Value → Prop
  | .mk l f n v e d ks, u => ∃ k, u = arrV l f n v e d k ∧ KidsAt w ks k
theorem sameArray_calls (a b : Arr) (u v : Value) (W : World) (ha : ArrAt W a u) (hb : ArrAt W b v) :
    Calls Tryz.prog 31 #[u, v] W fun x w' => x = .returned (.bool (Arr.same a b)) ∧ Below W.heap.size W w' := by
  obtain ⟨l, f, n, x, e, d, ks⟩ := a
  obtain ⟨l', f', n', x', e', d', ks'⟩ := b
  obtain ⟨k, rfl, hk⟩ := ha
  obtain ⟨k', rfl, hk'⟩ := hb
  exact same_all _ l f n x e d ks l' f' n' x' e' d' ks' k k' W (Nat.lt_succ_self _) hk hk'
end Go.Proofs.YtlllflacnlgigaaGreatDoor
