/- Chapter 5's functions that the others lean on, walked: Inner, stands, kids, way, May, Node, Kids. -/
import Derived.Test.YtobhjlchpnpleaaGreatDoorCa3
import Derived.Test.YtobhjlchpnpleaaGreatDoorCa1
import Derived.BigRegion
namespace Go.Proofs.YtobhjlchpnpleaaGreatDoor
open Go.RowKit
set_option linter.unusedVariables false
set_option linter.unusedSimpArgs false

/-- As 'wp_app1', the argument's block told by an equation. -/
theorem wp_app1' {P : Program} {ops : Array Oper} {rest : List Oper} {o : Oper} {a : Act} {Q : Exit → Act → World → Prop} {w0 : World} {u : Value}
  (hgd : o.guard = none) (s x : Operand) (t e : TypeId) (ho : o.op = .call { callee := .builtin .append, args := #[s, x], argTypes := #[t, t] })
  (base bytes : Nat) (z : Value) (ht : P.underlying t = some (.slice e)) (hi : (P.info? e).map (fun i => (i.zero, i.size, i.bytes)) = some (some z, 1, bytes)) (hz : z.cells.size = 1)
  (v : Value) (n B : Nat) (xs : List Value) (hu : u.oneCell' = true) (hs : a.eval s = v) (hx : a.eval x = .slice (some ⟨B, 0, none⟩) 1 1) (hB : B = w0.heap.size)
  (hown : w0.ownsRow base e 1 v n xs) (hn : (n + 1) * bytes ≤ 140737488355328) (hm : n < 140737488355328) (hb : base ≤ w0.heap.size)
  (h : ∀ v' w', w'.ownsRow base e 1 v' (n + 1) (xs ++ [u]) → Below base w0 w' → w0.grownBy w' v.ownBlock → wpList P ops Q rest (a.put o.dst v') w') :
  wpList P ops Q (o :: rest) a (w0.alloc (.cells #[u] e)) := by
 subst hB
 exact wp_app1 hgd s x t e ho base bytes z ht hi hz v n xs hu hs hx hown hn hm hb h

/-- A slice of nodes. -/
def NodesAt (w : World) (v : Value) (ns : List Tp.Nd) : Prop :=
 ∃ a c, v = .slice a ns.length c ∧ ns.length ≤ c ∧ c ≤ maxLen ∧ (ns ≠ [] → ∃ bk o, a = some ⟨bk, o, none⟩ ∧ bk < w.heap.size ∧
  ∀ j n, ns[j]? = some n → w.cell? ⟨bk, o + j * 3, none⟩ = some (.int .i64 n.kind) ∧ w.cell? ⟨bk, o + j * 3 + 1, none⟩ = some (.int .i64 n.parent) ∧ w.cell? ⟨bk, o + j * 3 + 2, none⟩ = some (.bool n.null))
theorem NodesAt.below {w w' : World} {v : Value} {ns : List Tp.Nd} (h : NodesAt w v ns) (hb : Below w.heap.size w w') : NodesAt w' v ns := by
 obtain ⟨a, c, rfl, h1, h2, h3⟩ := h
 refine ⟨a, c, rfl, h1, h2, fun hn => ?_⟩
 obtain ⟨bk, o, rfl, hk, hc⟩ := h3 hn
 refine ⟨bk, o, rfl, Nat.lt_of_lt_of_le hk hb.size, fun j x hx => ?_⟩
 have := hc j x hx
 rw [hb.cell (p := ⟨bk, o + j * 3, none⟩) hk, hb.cell (p := ⟨bk, o + j * 3 + 1, none⟩) hk, hb.cell (p := ⟨bk, o + j * 3 + 2, none⟩) hk]
 exact this

theorem inner_calls (k : Int) (w : World) : Calls Tryz.prog 133 #[.int .i64 k] w fun e w' => e = .returned (.bool (Tp.inner k)) ∧ w = w' := by
 by_cases h3 : k = 3
 ·subst h3
  go_enter Tryz.func133, Tryz.ntmps133
  go_wp2
  go_ret
  exact ⟨rfl, rfl⟩
 ·have h3' : (k == 3) = false := by simp [h3]
  have HU := Lib.hid (show Tp.inner k = (k == 4) by unfold Tp.inner; rw [h3']; rfl)
  go_enter Tryz.func133, Tryz.ntmps133
  go_wp2
  go_ret
  exact ⟨by rw [HU.out]; rfl, rfl⟩

set_option maxHeartbeats 800000 in
theorem stands_calls (p : Nat) (v : Value) (ns : List Tp.Nd) (i : Nat) (W : World) (hp : W.cell? ⟨p, 0, none⟩ = some v) (hn : NodesAt W v ns) (hi : i < ns.length) :
  Calls Tryz.prog 121 #[.pointer (some ⟨p, 0, none⟩), .int .i64 (i : Int)] W fun e w' => e = .returned (.bool (Tp.stands ns i)) ∧ W = w' := by
 obtain ⟨a, c, rfl, hc, hm, h3⟩ := hn
 unfold maxLen at hm
 obtain ⟨bk, o, rfl, hbk, hcell⟩ := h3 (by intro e; rw [e] at hi; exact Nat.not_lt_zero _ hi)
 clear h3
 have h1 := (hcell i _ (List.getElem?_eq_getElem hi)).2.1
 have hpar : (ns[i]).parent = Tp.parentOf ns i := by unfold Tp.parentOf; rw [List.getD_eq_getElem?_getD, List.getElem?_eq_getElem hi]; rfl
 rw [hpar] at h1
 clear hpar
 by_cases h0 : i = 0
 ·subst h0
  have HU := Lib.hid (show Tp.stands ns 0 = (Tp.parentOf ns 0 == -1) by unfold Tp.stands; rw [if_pos rfl])
  clear hcell
  generalize Tp.parentOf ns 0 = up at h1 HU
  go_enter Tryz.func121, Tryz.ntmps121
  go_wp2
  go_ret
  exact ⟨by rw [HU.out]; rfl, rfl⟩
 ·by_cases hu0 : 0 ≤ Tp.parentOf ns i
  ·by_cases hu1 : Tp.parentOf ns i < i
   ·obtain ⟨q, hq⟩ := Int.eq_ofNat_of_zero_le hu0
    have hqi : q < i := by omega
    have hql : q < ns.length := by omega
    have h2 := (hcell q _ (List.getElem?_eq_getElem hql)).1
    have hkd : (ns[q]).kind = Tp.kindOf ns q := by unfold Tp.kindOf; rw [List.getD_eq_getElem?_getD, List.getElem?_eq_getElem hql]; rfl
    rw [hkd] at h2
    have HU := Lib.hid (show Tp.stands ns i = Tp.inner (Tp.kindOf ns q) by unfold Tp.stands; rw [if_neg h0, hq]; simp [hqi])
    rw [hq] at h1
    clear hcell hkd hq hu0 hu1
    have hqi' : (q : Int) < (i : Int) := by omega
    have h0' : ¬ (i : Int) = 0 := by omega
    go_enter Tryz.func121, Tryz.ntmps121
    go_wp2_with (go_at_call 133; refine (inner_calls _ _).mono ?_; rintro e w' ⟨rfl, rfl⟩)
    go_ret
    exact ⟨by rw [HU.out]; rfl, rfl⟩
   ·have HU := Lib.hid (show Tp.stands ns i = false by unfold Tp.stands; rw [if_neg h0]; simp [hu1])
    generalize Tp.parentOf ns i = up at h1 hu0 hu1
    have h0' : ¬ (i : Int) = 0 := by omega
    clear hcell
    go_enter Tryz.func121, Tryz.ntmps121
    go_wp2
    go_ret
    exact ⟨by rw [HU.out]; rfl, rfl⟩
  ·have HU := Lib.hid (show Tp.stands ns i = false by unfold Tp.stands; rw [if_neg h0]; simp [hu0])
   generalize Tp.parentOf ns i = up at h1 hu0
   have h0' : ¬ (i : Int) = 0 := by omega
   clear hcell
   go_enter Tryz.func121, Tryz.ntmps121
   go_wp2
   go_ret
   exact ⟨by rw [HU.out]; rfl, rfl⟩

/-- A type in a block. -/
def TypeAt (w : World) (p : Nat) (ns : List Tp.Nd) : Prop := p < w.heap.size ∧ ∃ v, w.cell? ⟨p, 0, none⟩ = some v ∧ NodesAt w v ns
theorem TypeAt.below {w w' : World} {p : Nat} {ns : List Tp.Nd} (h : TypeAt w p ns) (hb : Below w.heap.size w w') : TypeAt w' p ns := by
 obtain ⟨hp, v, hc, hn⟩ := h
 exact ⟨Nat.lt_of_lt_of_le hp hb.size, v, by rw [hb.cell (p := ⟨p, 0, none⟩) hp]; exact hc, hn.below hb⟩

def natv (xs : List Nat) : List Value := xs.map fun n : Nat => Value.int .i64 (Int.ofNat n)
theorem info_int_ : (Tryz.prog.info? 3).map (fun i => (i.zero, i.size, i.bytes)) = some (some (.int .i64 0), 1, 8) := by kernel_rfl
theorem natv_snoc (xs : List Nat) (n : Nat) : natv xs ++ [.int .i64 (n : Int)] = natv (xs ++ [n]) := by simp [natv]

set_option maxHeartbeats 1600000 in
theorem kids_calls (p : Nat) (ns : List Tp.Nd) (x : Int) (W : World) (ht : TypeAt W p ns) (hlen : ns.length ≤ 65536) :
  Calls Tryz.prog 120 #[.pointer (some ⟨p, 0, none⟩), .int .i64 x] W fun e w' => ∃ v, e = .returned v ∧
   w'.ownsRow W.heap.size 3 1 v (Tp.kids ns x).length (natv (Tp.kids ns x)) ∧ Below W.heap.size W w' := by
 obtain ⟨hp, v, hc, hn⟩ := ht
 obtain ⟨a, c, rfl, hcap, hm, h3⟩ := hn
 unfold maxLen at hm
 replace h3 := Lib.hid h3
 go_enter Tryz.func120, Tryz.ntmps120
 go_wp2
 go_loopw [5, 13] (fun v i wr => ∃ k : Nat, k ≤ ns.length ∧ i = .int .i64 k ∧ wr.ownsRow W.heap.size 3 1 v (Tp.kidsTo ns x k).length (natv (Tp.kidsTo ns x k)) ∧ Below W.heap.size W wr) (fun _ i _ => ns.length - (intOf i).toNat)
 case atStart => exact ⟨0, Nat.zero_le _, rfl, ⟨by rfl, .inl ⟨rfl, rfl⟩⟩, Below.refl _ _⟩
 case round =>
  obtain ⟨k, hk, rfl, hown, hb⟩ := hrel
  by_cases hlt : k < ns.length
  ·obtain ⟨bk, o, rfl, hbk, hcell⟩ := h3.out (by intro e; rw [e] at hlt; exact Nat.not_lt_zero _ hlt)
   obtain ⟨g0, g1, g2⟩ := hcell k _ (List.getElem?_eq_getElem hlt)
   have c0 := (hb.cell (p := ⟨bk, o + k * 3, none⟩) hbk).trans g0
   have c1 := (hb.cell (p := ⟨bk, o + k * 3 + 1, none⟩) hbk).trans g1
   have c2 := (hb.cell (p := ⟨bk, o + k * 3 + 2, none⟩) hbk).trans g2
   have hpar : (ns[k]).parent = Tp.parentOf ns k := by unfold Tp.parentOf; rw [List.getD_eq_getElem?_getD, List.getElem?_eq_getElem hlt]; rfl
   rw [hpar] at c1
   clear hpar g0 g1 g2 hcell h3
   have HS := Lib.hid (Tp.kidsTo_succ ns x k)
   have HO := Lib.hid hown
   have hle : (Tp.kidsTo ns x k).length ≤ k := by unfold Tp.kidsTo; exact Nat.le_trans (List.length_filter_le _ _) (by simp)
   clear hown
   generalize (ns[k]).kind = kd at c0
   generalize (ns[k]).null = nu at c2
   by_cases hk0 : 0 < k
   ·have hk0' : (0 : Int) < (k : Int) := by omega
    by_cases hx : Tp.parentOf ns k = x
    ·have HI := Lib.hid (show Tp.isKid ns x k = true by simp [Tp.isKid, hk0, hx])
     go_wp2_with (at_builtin; refine wp_app1' rfl _ _ 55 3 rfl W.heap.size 8 (.int .i64 0) Tryz.underlying55 info_int_ rfl _ _ _ _ rfl rfl rfl (by simp) (HO.out.alloc _) (by omega) (by omega) (by have := hb.size; simp; omega) ?_; intro v' w1 hown' hbel' _)
     refine ⟨⟨k + 1, by omega, by go_num, ?_, (below_alloc hb _).trans hbel'⟩, by simp [intOf]; omega⟩
     rw [HS.out, if_pos HI.out, List.length_append, ← natv_snoc]
     exact hown'
    ·have HI := Lib.hid (show ¬ Tp.isKid ns x k = true by simp [Tp.isKid, hk0, hx])
     go_wp2
     refine ⟨⟨k + 1, by omega, by go_num, ?_, below_alloc hb _⟩, by simp [intOf]; omega⟩
     rw [HS.out, if_neg HI.out, List.append_nil]
     exact HO.out.alloc _
   ·have HI := Lib.hid (show ¬ Tp.isKid ns x k = true by simp [Tp.isKid, hk0])
    have hk0' : ¬ (0 : Int) < (k : Int) := by omega
    go_wp2
    refine ⟨⟨k + 1, by omega, by go_num, ?_, below_alloc hb _⟩, by simp [intOf]; omega⟩
    rw [HS.out, if_neg HI.out, List.append_nil]
    exact HO.out.alloc _
  ·obtain rfl : k = ns.length := by omega
   go_wp2
   go_ret
   exact ⟨_, rfl, hown, hb⟩

set_option maxHeartbeats 1600000 in
theorem way_calls (p : Nat) (ns : List Tp.Nd) (i : Nat) (W : World) (ht : TypeAt W p ns) (hi : i < ns.length) (hlen : ns.length ≤ 65536) (hst : ∀ i, i < ns.length → Tp.stands ns i = true) :
  Calls Tryz.prog 122 #[.pointer (some ⟨p, 0, none⟩), .int .i64 (i : Int)] W fun e w' => ∃ v, e = .returned v ∧
   w'.ownsRow W.heap.size 3 1 v (Tp.way ns (ns.length + 1) i).length (i64s (Tp.way ns (ns.length + 1) i)) ∧ Below W.heap.size W w' := by
 obtain ⟨hp, v, hc, hn⟩ := ht
 obtain ⟨a, c, rfl, hcap, hm, h3⟩ := hn
 unfold maxLen at hm
 obtain ⟨bk, o, rfl, hbk, hcell⟩ := h3 (by intro e; rw [e] at hi; exact Nat.not_lt_zero _ hi)
 clear h3
 obtain ⟨R, hR⟩ : ∃ R, Tp.way ns (ns.length + 1) i = R := ⟨_, rfl⟩
 rw [hR]
 have HR := Lib.hid hR
 clear hR
 have hcell := Lib.hid hcell
 have hst := Lib.hid hst
 go_enter Tryz.func122, Tryz.ntmps122
 go_wp2
 go_loopw [1, 5] (fun x v wr => ∃ (y : Int) (m : Nat) (acc : List Int), x = .int .i64 y ∧ -1 ≤ y ∧ y < ns.length ∧ y + 1 ≤ m ∧ acc.length + (y + 1) ≤ ns.length ∧ acc ++ Tp.way ns m y = R ∧ wr.ownsRow W.heap.size 3 1 v acc.length (i64s acc) ∧ Below W.heap.size W wr) (fun x _ _ => (intOf x + 1).toNat)
 case atStart => exact ⟨i, ns.length + 1, [], rfl, by omega, by omega, by omega, by simp only [List.length_nil]; omega, HR.out, ⟨by rfl, .inl ⟨rfl, rfl⟩⟩, Below.refl _ _⟩
 case round =>
  obtain ⟨y, m, acc, rfl, hy1, hyn, hym, hacc, hway, hown, hb⟩ := hrel
  have HO := Lib.hid hown
  have HW := Lib.hid hway
  clear hown hway
  by_cases h0 : 0 ≤ y
  ·obtain ⟨q, rfl⟩ := Int.eq_ofNat_of_zero_le h0
   have hq : q < ns.length := by omega
   have g1 := (hcell.out q _ (List.getElem?_eq_getElem hq)).2.1
   have hpar : (ns[q]).parent = Tp.parentOf ns q := by unfold Tp.parentOf; rw [List.getD_eq_getElem?_getD, List.getElem?_eq_getElem hq]; rfl
   rw [hpar] at g1
   have hs := hst.out q hq
   have hpb : -1 ≤ Tp.parentOf ns q ∧ Tp.parentOf ns q < q := by
    unfold Tp.stands at hs
    split at hs
    ·rw [beq_iff_eq] at hs; omega
    ·simp only [Bool.and_eq_true, decide_eq_true_eq] at hs; omega
   obtain ⟨m', rfl⟩ : ∃ m', m = m' + 1 := ⟨m - 1, by omega⟩
   have HW2 := Lib.hid (show (acc ++ [(q : Int)]) ++ Tp.way ns m' (Tp.parentOf ns q) = R by rw [← HW.out, Tp.way, if_pos h0, Int.toNat_natCast]; simp)
   clear hpar hs HW
   have hpb := Lib.hid hpb
   generalize Tp.parentOf ns q = u at g1 HW2 hpb
   go_wp2_with (at_builtin; refine wp_app1' rfl _ _ 55 3 rfl W.heap.size 8 (.int .i64 0) Tryz.underlying55 info_int_ rfl _ _ _ _ rfl rfl rfl (by simp) HO.out (by omega) (by omega) hb.size ?_; intro v' w1 hown' hbel' _; have hb1 := hb.trans hbel'; have c9 := (hb1.cell (p := ⟨p, 0, none⟩) hp).trans hc; have c8 := (hb1.cell (p := ⟨bk, o + q * 3 + 1, none⟩) hbk).trans g1)
   have hp2 := hpb.out
   refine ⟨⟨u, m', acc ++ [(q : Int)], rfl, by omega, by omega, by omega, by rw [List.length_append, List.length_singleton]; omega, HW2.out, ?_, hb1⟩, by simp only [intOf]; omega⟩
   rw [List.length_append, show i64s (acc ++ [(q : Int)]) = i64s acc ++ [.int .i64 (q : Int)] by simp [i64s]]
   exact hown'
  ·have hw0 : Tp.way ns m y = [] := by cases m with | zero => rfl | succ m => rw [Tp.way, if_neg h0]
   have hR2 := HW.out
   rw [hw0, List.append_nil] at hR2
   have HR2 := Lib.hid hR2
   clear hR2 hw0 hacc
   go_wp2
   go_ret
   exact ⟨_, rfl, by rw [← HR2.out]; exact HO.out, hb⟩

/-- The answer of a pure walk over a list of whether. -/
theorem all_snoc (f : Nat → Bool) (n : Nat) (h : ∀ i, i < n → f i = true) (hn : f n = true) : ∀ i, i < n + 1 → f i = true := fun i hi => by
 by_cases h' : i < n
 ·exact h i h'
 ·have : i = n := by omega
  rw [this]; exact hn
theorem range_all (f : Nat → Bool) (n : Nat) (h : ∀ i, i < n → f i = true) : (List.range n).all f = true := by simpa using h
theorem range_not (f : Nat → Bool) (n i : Nat) (hi : i < n) (h : f i = false) : (List.range n).all f = false := by
 rw [List.all_eq_false]
 exact ⟨i, by simpa using hi, by simp [h]⟩

theorem own_mono_t {w : World} {base base' n : Nat} {e : TypeId} {v : Value} {xs : List Value} (h : w.ownsRow base e 1 v n xs) (hb : base' ≤ base) : w.ownsRow base' e 1 v n xs := by
 obtain ⟨h1, h2⟩ := h
 refine ⟨h1, h2.imp id ?_⟩
 rintro ⟨g, cap, cur, h3, h4, h5⟩
 exact ⟨g, cap, cur, h3, Nat.le_trans hb h4, h5⟩
theorem own_slice {w : World} {base n : Nat} {e : TypeId} {v : Value} {xs : List Value} (h : w.ownsRow base e 1 v n xs) : ∃ a c, v = .slice a n c := by
 rcases h.2 with ⟨rfl, hx⟩ | ⟨g, cap, cur, rfl, _⟩
 ·have : n = 0 := by have := h.1; rw [hx] at this; simp at this; omega
  subst this
  exact ⟨none, 0, rfl⟩
 ·exact ⟨_, cap, rfl⟩

/-- A type, as a value. -/
abbrev typeV (v : Value) : Value := .agg #[v]

set_option maxHeartbeats 1600000 in
theorem may_calls (v : Value) (ns : List Tp.Nd) (W : World) (hn : NodesAt W v ns) :
  Calls Tryz.prog 90 #[typeV v] W fun e w' => e = .returned (.bool (Tp.may ns)) ∧ Below W.heap.size W w' := by
 have hbox : Below W.heap.size W (W.alloc (.cells #[v] 24)) := (Below.refl _ _).alloc (Nat.le_refl _) _
 have hty : TypeAt (W.alloc (.cells #[v] 24)) W.heap.size ns := ⟨by simp, v, by simp, hn.below hbox⟩
 by_cases hl : ns ≠ [] ∧ ns.length ≤ 8
 ·obtain ⟨a, c, rfl, hcap, hm, h3⟩ := hn
  obtain ⟨bk, o, rfl, hbk, hcell⟩ := h3 hl.1
  clear h3
  have hl0 : 0 < ns.length := List.length_pos_iff.2 hl.1
  have hl0' : ¬ ns.length = 0 := by omega
  have hl8 := hl.2
  have hl8' : ¬ (8 : Int) < (ns.length : Int) := by omega
  have HU := Lib.hid (show Tp.may ns = ((List.range ns.length).all (Tp.okOne ns) && (List.range ns.length).all (Tp.okTwo ns)) by unfold Tp.may; rw [decide_eq_true hl]; rfl)
  have hcell := Lib.hid hcell
  have hty := Lib.hid hty
  unfold maxLen at hm
  go_enter Tryz.func90, Tryz.ntmps90
  go_wp2
  have hcell1 := Lib.hid (show ∀ j n, ns[j]? = some n → (W.alloc (.cells #[.slice (some ⟨bk, o, none⟩) ns.length c] 24)).cell? ⟨bk, o + j * 3, none⟩ = some (.int .i64 n.kind) ∧
    (W.alloc (.cells #[.slice (some ⟨bk, o, none⟩) ns.length c] 24)).cell? ⟨bk, o + j * 3 + 1, none⟩ = some (.int .i64 n.parent) ∧ (W.alloc (.cells #[.slice (some ⟨bk, o, none⟩) ns.length c] 24)).cell? ⟨bk, o + j * 3 + 2, none⟩ = some (.bool n.null) from fun j n hj => by
   rw [hbox.cell (p := ⟨bk, o + j * 3, none⟩) hbk, hbox.cell (p := ⟨bk, o + j * 3 + 1, none⟩) hbk, hbox.cell (p := ⟨bk, o + j * 3 + 2, none⟩) hbk]; exact hcell.out j n hj)
  have hpc : (W.alloc (.cells #[.slice (some ⟨bk, o, none⟩) ns.length c] 24)).cell? ⟨W.heap.size, 0, none⟩ = some (.slice (some ⟨bk, o, none⟩) ns.length c) := by simp
  have hps : W.heap.size < (W.alloc (.cells #[.slice (some ⟨bk, o, none⟩) ns.length c] 24)).heap.size := by simp
  have hbk1 : bk < (W.alloc (.cells #[.slice (some ⟨bk, o, none⟩) ns.length c] 24)).heap.size := by simp; omega
  clear hcell
  generalize W.alloc (.cells #[.slice (some ⟨bk, o, none⟩) ns.length c] 24) = W1 at hbox hty hcell1 hpc hps hbk1 ⊢
  go_loopw [21] (fun i wr => ∃ k : Nat, k ≤ ns.length ∧ i = .int .i64 k ∧ (∀ j, j < k → Tp.okOne ns j = true) ∧ Below W1.heap.size W1 wr) (fun i _ => ns.length - (intOf i).toNat)
  case atStart => exact ⟨0, Nat.zero_le _, rfl, fun j hj => absurd hj (Nat.not_lt_zero _), Below.refl _ _⟩
  case round =>
   obtain ⟨k, hk, rfl, hall, hb⟩ := hrel
   replace hall := Lib.hid hall
   by_cases hlt : k < ns.length
   ·obtain ⟨g0, g1, g2⟩ := hcell1.out k _ (List.getElem?_eq_getElem hlt)
    have c0 := (hb.cell (p := ⟨bk, o + k * 3, none⟩) hbk1).trans g0
    have c1 := (hb.cell (p := ⟨bk, o + k * 3 + 1, none⟩) hbk1).trans g1
    have c2 := (hb.cell (p := ⟨bk, o + k * 3 + 2, none⟩) hbk1).trans g2
    have hkd : (ns[k]).kind = Tp.kindOf ns k := by unfold Tp.kindOf; rw [List.getD_eq_getElem?_getD, List.getElem?_eq_getElem hlt]; rfl
    rw [hkd] at c0
    clear hkd g0 g1 g2
    obtain ⟨kd, hkd⟩ : ∃ kd, Tp.kindOf ns k = kd := ⟨_, rfl⟩
    rw [hkd] at c0
    have HKD := Lib.hid hkd
    clear hkd
    generalize (ns[k]).parent = pr at c1
    generalize (ns[k]).null = nu at c2
    by_cases h0 : 0 ≤ kd
    ·by_cases h4 : kd ≤ 4
     ·cases hs : Tp.stands ns k with
      | true =>
       have HF := Lib.hid (show Tp.okOne ns k = true by unfold Tp.okOne; rw [HKD.out, hs]; simp [h0, h4])
       go_wp2_with (go_at_call 121; obtain ⟨_, vv, hvc, hvn⟩ := hty.out.below (below_alloc hb _); refine (stands_calls _ vv ns k _ hvc hvn hlt).mono ?_; rw [hs]; rintro e w' ⟨rfl, rfl⟩)
       exact ⟨⟨k + 1, by omega, by go_num, all_snoc _ k hall.out HF.out, below_alloc hb _⟩, by simp [intOf]; omega⟩
      | false =>
       have HF := Lib.hid (show Tp.okOne ns k = false by unfold Tp.okOne; rw [HKD.out, hs]; simp)
       go_wp2_with (go_at_call 121; obtain ⟨_, vv, hvc, hvn⟩ := hty.out.below (below_alloc hb _); refine (stands_calls _ vv ns k _ hvc hvn hlt).mono ?_; rw [hs]; rintro e w' ⟨rfl, rfl⟩)
       go_ret
       exact ⟨by rw [HU.out, range_not _ _ k hlt HF.out, Bool.false_and]; rfl, hbox.trans ((below_alloc hb _).mono hbox.size)⟩
     ·have HF := Lib.hid (show Tp.okOne ns k = false by unfold Tp.okOne; rw [HKD.out]; simp [h4])
      go_wp2
      go_ret
      exact ⟨by rw [HU.out, range_not _ _ k hlt HF.out, Bool.false_and]; rfl, hbox.trans ((below_alloc hb _).mono hbox.size)⟩
    ·have HF := Lib.hid (show Tp.okOne ns k = false by unfold Tp.okOne; rw [HKD.out]; simp [h0])
     go_wp2
     go_ret
     exact ⟨by rw [HU.out, range_not _ _ k hlt HF.out, Bool.false_and]; rfl, hbox.trans ((below_alloc hb _).mono hbox.size)⟩
   ·obtain rfl : k = ns.length := by omega
    have hstall := Lib.hid (show ∀ j, j < ns.length → Tp.stands ns j = true from fun j hj => by have := hall.out j hj; unfold Tp.okOne at this; simp only [Bool.and_eq_true] at this; exact this.2.2)
    have hfst := Lib.hid (range_all _ _ hall.out)
    have hpw := (hb.cell (p := ⟨W.heap.size, 0, none⟩) hps).trans hpc
    clear hall
    go_wp2
    go_loopw [43] (fun i wr => ∃ k : Nat, k ≤ ns.length ∧ i = .int .i64 k ∧ (∀ j, j < k → Tp.okTwo ns j = true) ∧ Below W1.heap.size W1 wr) (fun i _ => ns.length - (intOf i).toNat)
    case atStart => exact ⟨0, Nat.zero_le _, rfl, fun j hj => absurd hj (Nat.not_lt_zero _), hb⟩
    case round =>
     clear hpw hb
     obtain ⟨k, hk, rfl, hall, hb⟩ := hrel
     replace hall := Lib.hid hall
     by_cases hlt : k < ns.length
     ·obtain ⟨g0, g1, g2⟩ := hcell1.out k _ (List.getElem?_eq_getElem hlt)
      have c0 := (hb.cell (p := ⟨bk, o + k * 3, none⟩) hbk1).trans g0
      have c1 := (hb.cell (p := ⟨bk, o + k * 3 + 1, none⟩) hbk1).trans g1
      have c2 := (hb.cell (p := ⟨bk, o + k * 3 + 2, none⟩) hbk1).trans g2
      have hkd : (ns[k]).kind = Tp.kindOf ns k := by unfold Tp.kindOf; rw [List.getD_eq_getElem?_getD, List.getElem?_eq_getElem hlt]; rfl
      rw [hkd] at c0
      clear hkd g0 g1 g2
      obtain ⟨kd, hkd⟩ : ∃ kd, Tp.kindOf ns k = kd := ⟨_, rfl⟩
      rw [hkd] at c0
      have HKD := Lib.hid hkd
      clear hkd
      generalize (ns[k]).parent = pr at c1
      generalize (ns[k]).null = nu at c2
      obtain ⟨m, hm⟩ : ∃ m, (Tp.kids ns (k : Int)).length = m := ⟨_, rfl⟩
      have HM := Lib.hid hm
      clear hm
      obtain ⟨L, hL⟩ : ∃ L, (Tp.way ns (ns.length + 1) (k : Int)).length = L := ⟨_, rfl⟩
      have HL := Lib.hid hL
      clear hL
      by_cases h3 : kd = 3
      ·subst h3
       by_cases hm1 : m = 1
       ·subst hm1
        by_cases h5 : 5 < L
        ·have h5' : (5 : Int) < (L : Int) := by omega
         have HF := Lib.hid (show Tp.okTwo ns k = false by unfold Tp.okTwo; rw [HKD.out, HM.out, HL.out]; simp [h5])
         go_wp2_with (first
          | (go_at_call 120; refine (kids_calls _ ns _ _ (hty.out.below (below_alloc hb _)) (by omega)).mono ?_; rintro e w2 ⟨vk, rfl, hown, hb2⟩; have c9 := (hb2.cell (p := ⟨wr.heap.size, 0, none⟩) (by simp)).trans (by simp; rfl); replace hb2 := (below_alloc hb _).trans (hb2.mono (Nat.le_trans hb.size (by simp))); obtain ⟨ak, ck, rfl⟩ := own_slice hown; have HKO := Lib.hid hown; clear hown; rw [HM.out])
          | (go_at_call 122; refine (way_calls _ ns k _ (hty.out.below hb2) hlt (by omega) hstall.out).mono ?_; rintro e w3 ⟨vw, rfl, hown, hb3⟩; replace hb3 := hb2.trans (hb3.mono hb2.size); obtain ⟨aw, cw, rfl⟩ := own_slice hown; have HWO := Lib.hid hown; clear hown; rw [HL.out]))
         go_ret
         exact ⟨by rw [HU.out, range_not _ _ k hlt HF.out, Bool.and_false]; rfl, hbox.trans (hb3.mono hbox.size)⟩
        ·have h5' : ¬ (5 : Int) < (L : Int) := by omega
         have HF := Lib.hid (show Tp.okTwo ns k = true by unfold Tp.okTwo; rw [HKD.out, HM.out, HL.out]; simp [h5, True])
         go_wp2_with (first
          | (go_at_call 120; refine (kids_calls _ ns _ _ (hty.out.below (below_alloc hb _)) (by omega)).mono ?_; rintro e w2 ⟨vk, rfl, hown, hb2⟩; have c9 := (hb2.cell (p := ⟨wr.heap.size, 0, none⟩) (by simp)).trans (by simp; rfl); replace hb2 := (below_alloc hb _).trans (hb2.mono (Nat.le_trans hb.size (by simp))); obtain ⟨ak, ck, rfl⟩ := own_slice hown; have HKO := Lib.hid hown; clear hown; rw [HM.out])
          | (go_at_call 122; refine (way_calls _ ns k _ (hty.out.below hb2) hlt (by omega) hstall.out).mono ?_; rintro e w3 ⟨vw, rfl, hown, hb3⟩; replace hb3 := hb2.trans (hb3.mono hb2.size); obtain ⟨aw, cw, rfl⟩ := own_slice hown; have HWO := Lib.hid hown; clear hown; rw [HL.out]))
         exact ⟨⟨k + 1, by omega, by go_num, all_snoc _ k hall.out HF.out, hb3⟩, by simp [intOf]; omega⟩
       ·have hm1' : ¬ (m : Int) = 1 := by omega
        have HF := Lib.hid (show Tp.okTwo ns k = false by unfold Tp.okTwo; rw [HKD.out, HM.out]; simp [hm1])
        go_wp2_with (go_at_call 120; refine (kids_calls _ ns _ _ (hty.out.below (below_alloc hb _)) (by omega)).mono ?_; rintro e w2 ⟨vk, rfl, hown, hb2⟩; have c9 := (hb2.cell (p := ⟨wr.heap.size, 0, none⟩) (by simp)).trans (by simp; rfl); replace hb2 := (below_alloc hb _).trans (hb2.mono (Nat.le_trans hb.size (by simp))); obtain ⟨ak, ck, rfl⟩ := own_slice hown; have HKO := Lib.hid hown; clear hown; rw [HM.out])
        go_ret
        exact ⟨by rw [HU.out, range_not _ _ k hlt HF.out, Bool.and_false]; rfl, hbox.trans (hb2.mono hbox.size)⟩
      ·by_cases h4 : kd = 4
       ·subst h4
        by_cases hm0 : m = 0
        ·subst hm0
         have HF := Lib.hid (show Tp.okTwo ns k = false by unfold Tp.okTwo; rw [HKD.out, HM.out]; simp)
         go_wp2_with (go_at_call 120; refine (kids_calls _ ns _ _ (hty.out.below (below_alloc hb _)) (by omega)).mono ?_; rintro e w2 ⟨vk, rfl, hown, hb2⟩; have c9 := (hb2.cell (p := ⟨wr.heap.size, 0, none⟩) (by simp)).trans (by simp; rfl); replace hb2 := (below_alloc hb _).trans (hb2.mono (Nat.le_trans hb.size (by simp))); obtain ⟨ak, ck, rfl⟩ := own_slice hown; have HKO := Lib.hid hown; clear hown; rw [HM.out])
         go_ret
         exact ⟨by rw [HU.out, range_not _ _ k hlt HF.out, Bool.and_false]; rfl, hbox.trans (hb2.mono hbox.size)⟩
        ·have hm0' : ((m : Int) == 0) = false := by simp [hm0]
         by_cases h5 : 5 < L
         ·have h5' : (5 : Int) < (L : Int) := by omega
          have HF := Lib.hid (show Tp.okTwo ns k = false by unfold Tp.okTwo; rw [HKD.out, HM.out, HL.out]; simp [h5])
          go_wp2_with (first
           | (go_at_call 120; refine (kids_calls _ ns _ _ (hty.out.below (below_alloc hb _)) (by omega)).mono ?_; rintro e w2 ⟨vk, rfl, hown, hb2⟩; have c9 := (hb2.cell (p := ⟨wr.heap.size, 0, none⟩) (by simp)).trans (by simp; rfl); replace hb2 := (below_alloc hb _).trans (hb2.mono (Nat.le_trans hb.size (by simp))); obtain ⟨ak, ck, rfl⟩ := own_slice hown; have HKO := Lib.hid hown; clear hown; rw [HM.out])
           | (go_at_call 122; refine (way_calls _ ns k _ (hty.out.below hb2) hlt (by omega) hstall.out).mono ?_; rintro e w3 ⟨vw, rfl, hown, hb3⟩; replace hb3 := hb2.trans (hb3.mono hb2.size); obtain ⟨aw, cw, rfl⟩ := own_slice hown; have HWO := Lib.hid hown; clear hown; rw [HL.out]))
          go_ret
          exact ⟨by rw [HU.out, range_not _ _ k hlt HF.out, Bool.and_false]; rfl, hbox.trans (hb3.mono hbox.size)⟩
         ·have h5' : ¬ (5 : Int) < (L : Int) := by omega
          have HF := Lib.hid (show Tp.okTwo ns k = true by unfold Tp.okTwo; rw [HKD.out, HM.out, HL.out]; simp [h5, hm0])
          go_wp2_with (first
           | (go_at_call 120; refine (kids_calls _ ns _ _ (hty.out.below (below_alloc hb _)) (by omega)).mono ?_; rintro e w2 ⟨vk, rfl, hown, hb2⟩; have c9 := (hb2.cell (p := ⟨wr.heap.size, 0, none⟩) (by simp)).trans (by simp; rfl); replace hb2 := (below_alloc hb _).trans (hb2.mono (Nat.le_trans hb.size (by simp))); obtain ⟨ak, ck, rfl⟩ := own_slice hown; have HKO := Lib.hid hown; clear hown; rw [HM.out])
           | (go_at_call 122; refine (way_calls _ ns k _ (hty.out.below hb2) hlt (by omega) hstall.out).mono ?_; rintro e w3 ⟨vw, rfl, hown, hb3⟩; replace hb3 := hb2.trans (hb3.mono hb2.size); obtain ⟨aw, cw, rfl⟩ := own_slice hown; have HWO := Lib.hid hown; clear hown; rw [HL.out]))
          exact ⟨⟨k + 1, by omega, by go_num, all_snoc _ k hall.out HF.out, hb3⟩, by simp [intOf]; omega⟩
       ·
        by_cases h5 : 5 < L
        ·have h5' : (5 : Int) < (L : Int) := by omega
         have HF := Lib.hid (show Tp.okTwo ns k = false by unfold Tp.okTwo; rw [HKD.out, HM.out, HL.out]; simp [h5])
         go_wp2_with (first
          | (go_at_call 120; refine (kids_calls _ ns _ _ (hty.out.below (below_alloc hb _)) (by omega)).mono ?_; rintro e w2 ⟨vk, rfl, hown, hb2⟩; have c9 := (hb2.cell (p := ⟨wr.heap.size, 0, none⟩) (by simp)).trans (by simp; rfl); replace hb2 := (below_alloc hb _).trans (hb2.mono (Nat.le_trans hb.size (by simp))); obtain ⟨ak, ck, rfl⟩ := own_slice hown; have HKO := Lib.hid hown; clear hown; rw [HM.out])
          | (go_at_call 122; refine (way_calls _ ns k _ (hty.out.below hb2) hlt (by omega) hstall.out).mono ?_; rintro e w3 ⟨vw, rfl, hown, hb3⟩; replace hb3 := hb2.trans (hb3.mono hb2.size); obtain ⟨aw, cw, rfl⟩ := own_slice hown; have HWO := Lib.hid hown; clear hown; rw [HL.out]))
         go_ret
         exact ⟨by rw [HU.out, range_not _ _ k hlt HF.out, Bool.and_false]; rfl, hbox.trans (hb3.mono hbox.size)⟩
        ·have h5' : ¬ (5 : Int) < (L : Int) := by omega
         have HF := Lib.hid (show Tp.okTwo ns k = true by unfold Tp.okTwo; rw [HKD.out, HM.out, HL.out]; simp [h5, h3, h4])
         go_wp2_with (first
          | (go_at_call 120; refine (kids_calls _ ns _ _ (hty.out.below (below_alloc hb _)) (by omega)).mono ?_; rintro e w2 ⟨vk, rfl, hown, hb2⟩; have c9 := (hb2.cell (p := ⟨wr.heap.size, 0, none⟩) (by simp)).trans (by simp; rfl); replace hb2 := (below_alloc hb _).trans (hb2.mono (Nat.le_trans hb.size (by simp))); obtain ⟨ak, ck, rfl⟩ := own_slice hown; have HKO := Lib.hid hown; clear hown; rw [HM.out])
          | (go_at_call 122; refine (way_calls _ ns k _ (hty.out.below hb2) hlt (by omega) hstall.out).mono ?_; rintro e w3 ⟨vw, rfl, hown, hb3⟩; replace hb3 := hb2.trans (hb3.mono hb2.size); obtain ⟨aw, cw, rfl⟩ := own_slice hown; have HWO := Lib.hid hown; clear hown; rw [HL.out]))
         exact ⟨⟨k + 1, by omega, by go_num, all_snoc _ k hall.out HF.out, hb3⟩, by simp [intOf]; omega⟩
     ·obtain rfl : k = ns.length := by omega
      have hsnd := Lib.hid (range_all _ _ hall.out)
      clear hall
      go_wp2
      go_ret
      exact ⟨by rw [HU.out, hfst.out, hsnd.out]; rfl, hbox.trans (hb.mono hbox.size)⟩
 ·have HU := Lib.hid (show Tp.may ns = false by unfold Tp.may; rw [decide_eq_false hl]; rfl)
  obtain ⟨a, c, rfl, hcap, hm, h3⟩ := hn
  unfold maxLen at hm
  by_cases hz : ns.length = 0
  ·rw [hz] at hbox
   go_enter Tryz.func90, Tryz.ntmps90
   go_wp2
   go_ret
   exact ⟨by rw [HU.out]; rfl, hbox⟩
  ·have h8 : 8 < ns.length := Nat.lt_of_not_le fun h => hl ⟨fun e => hz (by rw [e]; rfl), h⟩
   have h8' : (8 : Int) < (ns.length : Int) := by omega
   go_enter Tryz.func90, Tryz.ntmps90
   go_wp2
   go_ret
   exact ⟨by rw [HU.out]; rfl, hbox⟩

set_option maxHeartbeats 800000 in
theorem node_calls (v : Value) (ns : List Tp.Nd) (x : Int) (W : World) (hn : NodesAt W v ns) :
  Calls Tryz.prog 60 #[typeV v, .int .i64 x] W fun e w' => e = .returned (.bool (Tp.node ns x)) ∧ Below W.heap.size W w' := by
 have hbox : Below W.heap.size W (W.alloc (.cells #[v] 24)) := (Below.refl _ _).alloc (Nat.le_refl _) _
 have hmay := may_calls v ns _ (hn.below hbox)
 have hpc : (W.alloc (.cells #[v] 24)).cell? ⟨W.heap.size, 0, none⟩ = some v := by simp
 obtain ⟨a, c, rfl, hcap, hm, h3⟩ := hn
 unfold maxLen at hm
 clear h3
 cases hmy : Tp.may ns with
 | false =>
  have HU := Lib.hid (show Tp.node ns x = false by unfold Tp.node; rw [hmy]; rfl)
  rw [hmy] at hmay
  have HM := Lib.hid hmay
  clear hmay
  go_enter Tryz.func60, Tryz.ntmps60
  go_wp2_with (go_at_call 90; refine HM.out.mono ?_; rintro e w' ⟨rfl, hb⟩; replace hb := below_then hbox hb)
  go_ret
  exact ⟨by rw [HU.out]; rfl, hb⟩
 | true =>
  rw [hmy] at hmay
  have HM := Lib.hid hmay
  clear hmay
  have hnd : Tp.node ns x = decide (0 ≤ x ∧ x < ns.length) := by unfold Tp.node; rw [hmy]; rfl
  by_cases h0 : 0 ≤ x
  ·by_cases h1 : x < ns.length
   ·have HU := Lib.hid (show Tp.node ns x = true by rw [hnd]; simp [h0, h1])
    clear hnd
    go_enter Tryz.func60, Tryz.ntmps60
    go_wp2_with (go_at_call 90; refine HM.out.mono ?_; rintro e w' ⟨rfl, hb⟩; have c9 := (hb.cell (p := ⟨W.heap.size, 0, none⟩) (by simp)).trans hpc; replace hb := below_then hbox hb)
    go_ret
    exact ⟨by rw [HU.out]; rfl, hb⟩
   ·have HU := Lib.hid (show Tp.node ns x = false by rw [hnd]; simp [h1])
    clear hnd
    go_enter Tryz.func60, Tryz.ntmps60
    go_wp2_with (go_at_call 90; refine HM.out.mono ?_; rintro e w' ⟨rfl, hb⟩; have c9 := (hb.cell (p := ⟨W.heap.size, 0, none⟩) (by simp)).trans hpc; replace hb := below_then hbox hb)
    go_ret
    exact ⟨ret_bool (by rw [HU.out]; exact decide_eq_false (by omega)), hb⟩
  ·have HU := Lib.hid (show Tp.node ns x = false by rw [hnd]; simp [h0])
   clear hnd
   go_enter Tryz.func60, Tryz.ntmps60
   go_wp2_with (go_at_call 90; refine HM.out.mono ?_; rintro e w' ⟨rfl, hb⟩; replace hb := below_then hbox hb)
   go_ret
   exact ⟨by rw [HU.out]; rfl, hb⟩

/-- types.Kids at a node of a type that may be. -/
theorem kidsOk_calls (v : Value) (ns : List Tp.Nd) (x : Int) (W : World) (hn : NodesAt W v ns) (hnd : Tp.node ns x = true) :
  Calls Tryz.prog 87 #[typeV v, .int .i64 x] W fun e w' => ∃ r, e = .returned (.tuple #[r, .int .i64 0]) ∧
   w'.ownsRow W.heap.size 3 1 r (Tp.kids ns x).length (natv (Tp.kids ns x)) ∧ Below W.heap.size W w' := by
 have hbox : Below W.heap.size W (W.alloc (.cells #[v] 24)) := (Below.refl _ _).alloc (Nat.le_refl _) _
 have hpc : (W.alloc (.cells #[v] 24)).cell? ⟨W.heap.size, 0, none⟩ = some v := by simp
 have hps : W.heap.size < (W.alloc (.cells #[v] 24)).heap.size := by simp
 have hl8 : ns.length ≤ 65536 := by
  unfold Tp.node Tp.may at hnd
  simp only [Bool.and_eq_true, decide_eq_true_eq] at hnd
  omega
 have HN := Lib.hid (node_calls v ns x _ (hn.below hbox))
 rw [hnd] at HN
 have HNA := Lib.hid (hn.below hbox)
 clear hn
 go_enter Tryz.func87, Tryz.ntmps87
 go_wp2_with (first
  | (go_at_call 60; refine HN.out.mono ?_; rintro e w' ⟨rfl, hb⟩)
  | (go_at_call 120; refine (kids_calls W.heap.size ns x _ ⟨Nat.lt_of_lt_of_le hps hb.size, v, (hb.cell (p := ⟨W.heap.size, 0, none⟩) hps).trans hpc, HNA.out.below hb⟩ hl8).mono ?_; rintro e w2 ⟨r, rfl, hown, hb2⟩; replace hb := below_then hbox hb; replace hb2 := below_then hb hb2))
 go_ret2
 exact ⟨_, rfl, own_mono_t hown hb.size, hb2⟩
end Go.Proofs.YtobhjlchpnpleaaGreatDoor
