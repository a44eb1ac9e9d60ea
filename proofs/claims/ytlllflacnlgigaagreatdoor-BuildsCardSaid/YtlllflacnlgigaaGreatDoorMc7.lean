/- Chapter 7: the taker's value, walked: by induction over how deep it may go. -/
import Derived.Test.YtlllflacnlgigaaGreatDoorMc5
namespace Go.Proofs.YtlllflacnlgigaaGreatDoor
open Go.RowKit
set_option linter.unusedVariables false
set_option linter.unusedSimpArgs false

theorem own_mono_lit {w a : World} (h : a.heap.size ≤ w.heap.size) (l : List UInt8) : (w.alloc (.cells #[tv l] 9)).ownsRow a.heap.size 9 1 (.slice (some ⟨w.heap.size, 0, none⟩) 1 1) 1 [tv l] :=
  own_lit w a.heap.size 9 [tv l] h (by unfold maxLen; simp)

theorem own_mono {w : World} {base base' n : Nat} {e : TypeId} {v : Value} {xs : List Value} (h : w.ownsRow base e 1 v n xs) (hb : base' ≤ base) : w.ownsRow base' e 1 v n xs := by
  obtain ⟨h1, h2⟩ := h
  refine ⟨h1, h2.imp id ?_⟩
  rintro ⟨g, cap, cur, h3, h4, h5⟩
  exact ⟨g, cap, cur, h3, Nat.le_trans hb h4, h5⟩

theorem val_zero : ValOK 0 := by
  intro b t W hb6 hv h hs
  have hw : (5 : Int) - ((0 : Nat) : Int) = 5 := by omega
  rw [hw]
  go_enter Tryz.func36, Tryz.ntmps36
  go_wp2_with (go_at_call 59; refine (fail_calls b t W h).mono ?_; rintro e w' ⟨rfl, H, hb⟩)
  go_ret2
  exact ⟨_, rfl, ⟨rfl, .inl ⟨rfl, rfl⟩⟩, H, hb⟩

set_option maxHeartbeats 1600000 in
theorem val_succ (d : Nat) (hd : d + 1 ≤ 5) (ih : ValOK d) : ValOK (d + 1) := by
  intro b t W hb6 hv h hs
  have hrow := fun (t : Vp.Tk) (c : UInt8) (W : World) => row_calls d (by omega) ih b t c W hb6
  obtain ⟨z, hz⟩ : ∃ z : Int, z = 5 - ((d + 1 : Nat) : Int) := ⟨_, rfl⟩
  rw [← hz]
  have hz1 : z + 1 = 5 - (d : Int) := by omega
  have hz4 : ¬ (4 < z) := by omega
  have hz0 : 0 ≤ z := by omega
  have hz5 : z ≤ 4 := by omega
  rw [← hz1] at hrow
  have hcall := byte_calls b t W h hs
  have hU : Vp.value (d + 1) t = (let b := Vp.byte t
    if b.1 = 110 then (-1, [], b.2)
    else if b.1 = 105 then let n := Vp.number b.2 59; (0, [n.2.1], n.2.2)
    else if b.1 = 116 ∨ b.1 = 102 then (1, [[b.1]], b.2)
    else if b.1 = 115 then let n := Vp.number b.2 58; let s := Vp.bytes n.2.2 n.1; (2, [s.1], s.2)
    else if b.1 = 91 then let r := Vp.row (fun t => (Vp.value d t).2.2) 93 b.2; (3, r.1, r.2)
    else if b.1 = 123 then let r := Vp.row (fun t => (Vp.value d t).2.2) 125 b.2; (4, r.1, r.2)
    else (0, [], ⟨b.2.rest, true⟩)) := rfl
  have hs1 : (Vp.byte t).2.rest.length ≤ 65536 := Nat.le_trans (Vp.byte_le t) hs
  rw [hU]
  clear hU hz hz1 hd ih
  generalize Vp.byte t = q at hcall hs1 ⊢
  obtain ⟨c, t1⟩ := q
  simp only at hcall hs1 ⊢
  have HR := Lib.hid hrow
  have HC := Lib.hid hcall
  clear hrow hcall
  by_cases e1 : c = 110
  · subst e1
    rw [if_pos rfl]
    go_enter Tryz.func36, Tryz.ntmps36
    go_wp2_with (go_at_call 60; refine HC.out.mono ?_; rintro e w' ⟨rfl, H, hb⟩)
    go_ret2
    exact ⟨_, rfl, ⟨rfl, .inl ⟨rfl, rfl⟩⟩, H, hb⟩
  rw [if_neg e1]
  by_cases e2 : c = 105
  · subst e2
    rw [if_pos rfl]
    go_enter Tryz.func36, Tryz.ntmps36
    go_wp2_with (first
      | (go_at_call 60; refine HC.out.mono ?_; rintro e w' ⟨rfl, H, hb⟩)
      | (go_at_call 61; refine (number_calls b t1 59 _ (hv.grown hb hb6) hb6 H hs1).mono ?_; rintro e w2 ⟨rfl, H2, hb2⟩; replace hb2 := hb.trans hb2))
    go_ret2
    exact ⟨_, rfl, own_mono_lit hb2.size _, H2.grown (World.grownBy_alloc _ _ none) (by simp), grown_alloc hb2 _⟩
  rw [if_neg e2]
  by_cases e3 : c = 116
  · subst e3
    rw [if_pos (by decide)]
    have hcv : ∀ W' : World, (convert 92 9 (.slice (some ⟨W'.heap.size, 0, none⟩) 1 1)).run Tryz.prog (W'.alloc (.cells #[.int .u8 116] 5)).drew = .ok (tv [116]) (W'.alloc (.cells #[.int .u8 116] 5)).drew := fun W' =>
      run_string (P := Tryz.prog) (w := (W'.alloc _).drew) 92 9 5 Tryz.underlying92 Tryz.underlying5 Tryz.underlying9 W'.heap.size 1 1 [116] rfl (Row.new W' 5 #[.int .u8 116])
    go_enter Tryz.func36, Tryz.ntmps36
    go_wp2_with (go_at_call 60; refine HC.out.mono ?_; rintro e w' ⟨rfl, H, hb⟩)
    replace hcv := hcv w'
    go_region
    go_wp2
    go_ret2
    have ho := own_mono_lit (a := W) (w := w'.alloc (.cells #[.int .u8 116] 5)) (by have := hb.size; simp; omega) [116]
    rw [show (w'.alloc (.cells #[.int .u8 116] 5)).heap.size = w'.heap.size + 1 by simp] at ho
    exact ⟨_, rfl, ho, H.grown (grown_drew (grown_alloc (grown_alloc (grown_refl _ none) _) _)) (by simp), grown_drew (grown_alloc (grown_alloc hb _) _)⟩
  by_cases e4 : c = 102
  · subst e4
    rw [if_pos (by decide)]
    have hcv : ∀ W' : World, (convert 92 9 (.slice (some ⟨W'.heap.size, 0, none⟩) 1 1)).run Tryz.prog (W'.alloc (.cells #[.int .u8 102] 5)).drew = .ok (tv [102]) (W'.alloc (.cells #[.int .u8 102] 5)).drew := fun W' =>
      run_string (P := Tryz.prog) (w := (W'.alloc _).drew) 92 9 5 Tryz.underlying92 Tryz.underlying5 Tryz.underlying9 W'.heap.size 1 1 [102] rfl (Row.new W' 5 #[.int .u8 102])
    go_enter Tryz.func36, Tryz.ntmps36
    go_wp2_with (go_at_call 60; refine HC.out.mono ?_; rintro e w' ⟨rfl, H, hb⟩)
    replace hcv := hcv w'
    go_region
    go_wp2
    go_ret2
    have ho := own_mono_lit (a := W) (w := w'.alloc (.cells #[.int .u8 102] 5)) (by have := hb.size; simp; omega) [102]
    rw [show (w'.alloc (.cells #[.int .u8 102] 5)).heap.size = w'.heap.size + 1 by simp] at ho
    exact ⟨_, rfl, ho, H.grown (grown_drew (grown_alloc (grown_alloc (grown_refl _ none) _) _)) (by simp), grown_drew (grown_alloc (grown_alloc hb _) _)⟩
  rw [if_neg (by simp [e3, e4])]
  by_cases e5 : c = 115
  · subst e5
    rw [if_pos rfl]
    go_enter Tryz.func36, Tryz.ntmps36
    go_wp2_with (first
      | (go_at_call 60; refine HC.out.mono ?_; rintro e w' ⟨rfl, H, hb⟩)
      | (go_at_call 61; refine (number_calls b t1 58 _ (hv.grown hb hb6) hb6 H hs1).mono ?_; rintro e w2 ⟨rfl, H2, hb2⟩; replace hb2 := hb.trans hb2)
      | (go_at_call 62; refine (bytes_calls b _ _ _ H2 (Nat.le_trans (Vp.number_le _ _) hs1) (atoi_bd _).2).mono ?_; rintro e w3 ⟨rfl, H3, hb3⟩; replace hb3 := hb2.trans hb3))
    go_ret2
    exact ⟨_, rfl, own_mono_lit hb3.size _, H3.grown (World.grownBy_alloc _ _ none) (by simp), grown_alloc hb3 _⟩
  rw [if_neg e5]
  by_cases e6 : c = 91
  · subst e6
    rw [if_pos rfl]
    go_enter Tryz.func36, Tryz.ntmps36
    go_wp2_with (first
      | (go_at_call 60; refine HC.out.mono ?_; rintro e w' ⟨rfl, H, hb⟩)
      | (go_at_call 63; refine (HR.out t1 93 _ (hv.grown hb hb6) H hs1).mono ?_; rintro e w2 ⟨v, rfl, ho, H2, hb2⟩; replace ho := own_mono ho hb.size; replace hb2 := hb.trans hb2))
    go_ret2
    exact ⟨_, rfl, ho, H2, hb2⟩
  rw [if_neg e6]
  by_cases e7 : c = 123
  · subst e7
    rw [if_pos rfl]
    go_enter Tryz.func36, Tryz.ntmps36
    go_wp2_with (first
      | (go_at_call 60; refine HC.out.mono ?_; rintro e w' ⟨rfl, H, hb⟩)
      | (go_at_call 63; refine (HR.out t1 125 _ (hv.grown hb hb6) H hs1).mono ?_; rintro e w2 ⟨v, rfl, ho, H2, hb2⟩; replace ho := own_mono ho hb.size; replace hb2 := hb.trans hb2))
    go_ret2
    exact ⟨_, rfl, ho, H2, hb2⟩
  rw [if_neg e7]
  have hne : ∀ k : UInt8, ¬ c = k → ((c.toNat : Int) == (k.toNat : Int)) = false := by
    intro k hk
    rw [beq_eq_false_iff_ne]
    intro e
    exact hk (UInt8.toNat_inj.1 (by omega))
  have n1 : ((c.toNat : Int) == 110) = false := hne 110 e1
  have n2 : ((c.toNat : Int) == 105) = false := hne 105 e2
  have n3 : ((c.toNat : Int) == 116) = false := hne 116 e3
  have n4 : ((c.toNat : Int) == 102) = false := hne 102 e4
  have n5 : ((c.toNat : Int) == 115) = false := hne 115 e5
  have n6 : ((c.toNat : Int) == 91) = false := hne 91 e6
  have n7 : ((c.toNat : Int) == 123) = false := hne 123 e7
  clear hne e1 e2 e3 e4 e5 e6 e7
  generalize (c.toNat : Int) = y at *
  go_enter Tryz.func36, Tryz.ntmps36
  go_wp2_with (first
    | (go_at_call 60; refine HC.out.mono ?_; rintro e w' ⟨rfl, H, hb⟩)
    | (go_at_call 59; refine (fail_calls b t1 _ H).mono ?_; rintro e w2 ⟨rfl, H2, hb2⟩; replace hb2 := hb.trans hb2))
  go_ret2
  exact ⟨_, rfl, ⟨rfl, .inl ⟨rfl, rfl⟩⟩, H2, hb2⟩

theorem val_all : ∀ d, d ≤ 5 → ValOK d
  | 0, _ => val_zero
  | d + 1, h => val_succ d h (val_all d (by omega))

theorem own_nil {w : World} {base : Nat} {e : TypeId} : w.ownsRow base e 1 (.slice none 0 0) 0 [] := ⟨rfl, .inl ⟨rfl, rfl⟩⟩

set_option maxHeartbeats 1600000 in
/-- value.Parts. -/
theorem parts_calls (v : List UInt8) (W : World) (hv : Vars W) (hs : v.length ≤ 140737488351232) :
    Calls Tryz.prog 8 #[.string ⟨v.toArray⟩] W fun e w' => ∃ r, e = .returned (.tuple #[.int .i64 (Vp.parts v).1, r, .int .i64 (Vp.parts v).2.2]) ∧
      w'.ownsRow W.heap.size 9 1 r (Vp.parts v).2.1.length ((Vp.parts v).2.1.map tv) ∧ Below W.heap.size W w' := by
  have hz : (⟨v.toArray⟩ : ByteArray).size = v.length := mk_size v
  have hbox : Below W.heap.size W (W.alloc (.cells #[tv v, .bool false] 59)) := (Below.refl _ _).alloc (Nat.le_refl _) _
  by_cases hl : 65536 < v.length
  · have HU := Lib.hid (show Vp.parts v = (0, [], 700) by unfold Vp.parts; rw [if_pos hl])
    have hl' : (65536 : Int) < (v.length : Int) := by omega
    go_enter Tryz.func8, Tryz.ntmps8
    go_wp2
    go_ret3
    rw [HU.out]
    exact ⟨_, rfl, own_nil, hbox⟩
  · have hl' : ¬ (65536 : Int) < (v.length : Int) := by omega
    have hcall := val_all 5 (Nat.le_refl _) W.heap.size ⟨v, false⟩ (W.alloc (.cells #[tv v, .bool false] 59)) hv.six (hv.below hbox hv.six) (Row.new W _ _) (by simp only; omega)
    rw [show (5 : Int) - ((5 : Nat) : Int) = 0 by decide] at hcall
    have hU : Vp.parts v = (if (Vp.value 5 ⟨v, false⟩).2.2.bad = true ∨ (Vp.value 5 ⟨v, false⟩).2.2.rest ≠ [] then (0, [], 700) else ((Vp.value 5 ⟨v, false⟩).1, (Vp.value 5 ⟨v, false⟩).2.1, 0)) := by
      unfold Vp.parts
      rw [if_neg hl]
    rw [hU]
    clear hU
    generalize Vp.value 5 ⟨v, false⟩ = q at hcall ⊢
    obtain ⟨kind, ps, ⟨s, bad⟩⟩ := q
    have HC := Lib.hid hcall
    clear hcall
    cases bad with
    | true =>
      rw [if_pos (.inl rfl)]
      go_enter Tryz.func8, Tryz.ntmps8
      go_wp2_with (go_at_call 36; refine HC.out.mono ?_; rintro e w' ⟨r, rfl, ho, H, hb⟩; have c0 := H.c0; have c1 := H.c1; have hbel := hbox.grown hb (by simp) (fun k e => by have := Option.some.inj e; omega); replace ho := own_mono ho (base' := W.heap.size) (by simp))
      go_ret3
      exact ⟨_, rfl, own_nil, hbel⟩
    | false =>
      cases s with
      | nil =>
        rw [if_neg (by simp)]
        go_enter Tryz.func8, Tryz.ntmps8
        go_wp2_with (go_at_call 36; refine HC.out.mono ?_; rintro e w' ⟨r, rfl, ho, H, hb⟩; have c0 := H.c0; have c1 := H.c1; have hbel := hbox.grown hb (by simp) (fun k e => by have := Option.some.inj e; omega); replace ho := own_mono ho (base' := W.heap.size) (by simp))
        go_ret3
        exact ⟨_, rfl, ho, hbel⟩
      | cons x r =>
        rw [if_pos (.inr (by simp))]
        go_enter Tryz.func8, Tryz.ntmps8
        go_wp2_with (go_at_call 36; refine HC.out.mono ?_; rintro e w' ⟨r, rfl, ho, H, hb⟩; have c0 := H.c0; have c1 := H.c1; have hbel := hbox.grown hb (by simp) (fun k e => by have := Option.some.inj e; omega); replace ho := own_mono ho (base' := W.heap.size) (by simp))
        go_ret3
        exact ⟨_, rfl, own_nil, hbel⟩
end Go.Proofs.YtlllflacnlgigaaGreatDoor
