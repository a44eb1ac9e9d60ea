/- Chapter 1: checked numbers: what the functions of package pad and of its reference return. -/
import Derived.Test.YtbbakifachemcaaBase
namespace Go.Proofs.Ytbbakifachemcaa
open Go.RowKit
set_option linter.unusedVariables false

namespace Pad
def may (x : Int) : Bool := decide (0 ≤ x) && decide (x ≤ 2147483647)
theorem may_iff (x : Int) : may x = true ↔ 0 ≤ x ∧ x ≤ 2147483647 := by simp [may]
theorem may_not (x : Int) : may x = false ↔ x < 0 ∨ 2147483647 < x := by
  rw [← Bool.not_eq_true, may_iff]; omega
def tell (ok : Bool) (x : Int) : Int × Int := if ok then (x, 0) else (0, 100)
def up (x : Int) : Int × Int := tell (may x && may ((x + 8 - 1) / 8 * 8)) ((x + 8 - 1) / 8 * 8)
def add (a b : Int) : Int × Int := tell (may a && (may b && may (a + b))) (a + b)
def mul (a b : Int) : Int × Int := tell (may a && (may b && may (a * b))) (a * b)
end Pad
open Pad

theorem info_int : (Try.prog.info? 3).map (fun i => (i.zero, i.size, i.bytes)) = some (some (.int .i64 0), 1, 8) := by kernel_rfl
abbrev told2 (p : Int × Int) : Ending := .returned (.tuple #[.int .i64 p.1, .int .i64 p.2])

theorem all_take (l : List Int) (h : ∀ i, i < l.length → may (l.getD i 0) = true) : l.all may = true := by
  rw [List.all_eq_true]
  intro y hy
  obtain ⟨i, hi, rfl⟩ := List.mem_iff_getElem.1 hy
  have := h i hi
  rwa [List.getD_eq_getElem?_getD, List.getElem?_eq_getElem hi, Option.getD_some] at this
theorem all_not (l : List Int) (i : Nat) (hi : i < l.length) (h : may (l.getD i 0) = false) : l.all may = false := by
  rw [← Bool.not_eq_true, List.all_eq_true]
  intro hall
  have := hall _ (List.getElem_mem hi)
  rw [List.getD_eq_getElem?_getD, List.getElem?_eq_getElem hi, Option.getD_some, this] at h
  cases h

set_option maxHeartbeats 1600000 in
theorem told_calls (base : Nat) (x : Int) (v : Value) (os : List Int) (w : World) (hown : w.ownsRow base 3 1 v os.length (i64s os)) (hb : base ≤ w.heap.size) (hn : os.length ≤ 1000) :
    Calls Try.prog 46 #[.int .i64 x, v] w fun e w' => e = told2 (tell ((os ++ [x]).all may) x) ∧ Below base w w' := by
  have e0 : i64s os ++ [Value.int .i64 x] = i64s (os ++ [x]) := by simp [i64s]
  have el : os.length + 1 = (os ++ [x]).length := by simp
  generalize hys : os ++ [x] = ys at e0 el
  have H0 := Lib.hid e0
  have HE := Lib.hid el
  clear e0 el hys
  go_enter Try.func46, Try.ntmps46
  go_wp2_with (at_builtin; refine wp_app1 rfl _ _ 29 3 rfl base 8 (.int .i64 0) Try.underlying29 info_int rfl _ _ _ rfl rfl rfl hown (by omega) (by omega) hb ?_; rw [HE.out, H0.out]; intro v' w1 hown' hbel _; obtain ⟨g, cap, rfl, hg, hc, hl, hrow⟩ := own_row hown' (by have := HE.out; omega); clear hown' hl hg)
  have hlen : 1 ≤ ys.length := by have := HE.out; omega
  have hlen2 : ys.length ≤ 1001 := by have := HE.out; omega
  go_loopw [13] (fun i wr => ∃ k : Nat, k ≤ ys.length ∧ i = .int .i64 k ∧ w1 = wr ∧ ∀ j, j < k → may (ys.getD j 0) = true) (fun i _ => ys.length - (intOf i).toNat)
  case atStart => exact ⟨0, by omega, rfl, rfl, fun j hj => by omega⟩
  case round =>
    obtain ⟨k, hk, rfl, rfl, hall⟩ := hrel
    have HA := Lib.hid hall
    clear hall
    by_cases hlt : k < ys.length
    · have hcell := hrow.cell (i := k) (v := .int .i64 (ys.getD k 0)) (by rw [i64s, List.getElem?_map, List.getD_eq_getElem?_getD, List.getElem?_eq_getElem hlt]; rfl)
      have HN := Lib.hid (show ∀ y, ys.getD k 0 = y → may y = false → ys.all may = false from fun y hy hm => all_not ys k hlt (by rw [hy]; exact hm))
      have HY := Lib.hid (show ∀ y, ys.getD k 0 = y → may y = true → ∀ j, j < k + 1 → may (ys.getD j 0) = true from fun y hy hm j hj => by
        by_cases e : j = k
        · subst e; rw [hy]; exact hm
        · exact HA.out j (by omega))
      have HR := Lib.hid hrow
      clear hrow
      generalize hy : ys.getD k 0 = y at *
      have HN := Lib.hid (HN.out y rfl)
      have HY := Lib.hid (HY.out y rfl)
      clear hy
      by_cases h0 : 0 ≤ y
      · by_cases h1 : y ≤ 2147483647
        · go_wp2
          go_roundw
          case rel => exact ⟨k + 1, by omega, by go_num, trivial, HY.out ((may_iff y).2 ⟨h0, h1⟩)⟩
          case measure => simp [intOf]; omega
        · go_wp2
          go_ret2
          refine ⟨?_, hbel⟩
          rw [HN.out ((may_not y).2 (by omega))]
          rfl
      · go_wp2
        go_ret2
        refine ⟨?_, hbel⟩
        rw [HN.out ((may_not y).2 (by omega))]
        rfl
    · go_wp2
      go_ret2
      refine ⟨?_, hbel⟩
      rw [all_take ys (fun i hi => HA.out i (by omega))]
      rfl

/-! The functions of package pad. -/
theorem told_nil (x : Int) (w : World) : Calls Try.prog 46 #[.int .i64 x, .slice none 0 0] w fun e w' => e = told2 (tell (may x) x) ∧ Below w.heap.size w w' :=
  (told_calls w.heap.size x _ [] w (World.ownsRow_nil _ _ _ _) (Nat.le_refl _) (by decide)).mono fun e w' ⟨h, hb⟩ => ⟨by rw [h]; simp, hb⟩
theorem told_two (x a b : Int) (w : World) : Calls Try.prog 46 #[.int .i64 x, .slice (some ⟨w.heap.size, 0, none⟩) 2 2] (w.alloc (.cells #[.int .i64 a, .int .i64 b] 3)) fun e w' => e = told2 (tell (may a && (may b && may x)) x) ∧ Below w.heap.size w w' :=
  (told_calls w.heap.size x _ [a, b] _ (own_lit w _ _ [.int .i64 a, .int .i64 b] (Nat.le_refl _) (by simp [maxLen])) (by simp) (by simp)).mono fun e w' ⟨h, hb⟩ => ⟨by rw [h]; simp, ((Below.refl _ _).alloc (Nat.le_refl _) _).trans hb⟩

theorem tell_no {ok : Bool} {x : Int} (h : ok = false) : tell ok x = (0, 100) := by rw [h]; rfl
set_option maxHeartbeats 800000 in
theorem padUp_calls (x : Int) (w : World) : Calls Try.prog 29 #[.int .i64 x] w fun e w' => e = told2 (up x) ∧ Below w.heap.size w w' := by
  by_cases h0 : 0 ≤ x
  · by_cases h1 : x ≤ 2147483647
    · have HU := Lib.hid (show up x = tell (may ((x + 8 - 1) / 8 * 8)) ((x + 8 - 1) / 8 * 8) by unfold up; rw [(may_iff x).2 ⟨h0, h1⟩]; rfl)
      go_enter Try.func29, Try.ntmps29
      go_wp2_with (first | (go_at_call 46; refine (told_nil _ _).mono ?_; rintro e w' ⟨rfl, hb⟩) | go_in)
      go_ret2
      exact ⟨by rw [HU.out]; rfl, hb⟩
    · have HU := Lib.hid (show up x = (0, 100) from tell_no (by rw [(may_not x).2 (by omega)]; rfl))
      go_enter Try.func29, Try.ntmps29
      go_wp2
      go_ret2
      exact ⟨by rw [HU.out]; rfl, Below.refl _ _⟩
  · have HU := Lib.hid (show up x = (0, 100) from tell_no (by rw [(may_not x).2 (by omega)]; rfl))
    go_enter Try.func29, Try.ntmps29
    go_wp2
    go_ret2
    exact ⟨by rw [HU.out]; rfl, Below.refl _ _⟩

set_option maxHeartbeats 800000 in
theorem refUp_calls (x : Int) (w : World) : Calls Try.prog 30 #[.int .i64 x] w fun e w' => e = told2 (up x) ∧ w = w' := by
  by_cases h0 : 0 ≤ x
  · by_cases h1 : x ≤ 2147483647
    · have y0 : 0 ≤ (x + 8 - 1) / 8 * 8 := by omega
      by_cases h2 : (x + 8 - 1) / 8 * 8 ≤ 2147483647
      · have HU := Lib.hid (show up x = ((x + 8 - 1) / 8 * 8, 0) by unfold up; rw [(may_iff x).2 ⟨h0, h1⟩, (may_iff _).2 ⟨y0, h2⟩]; rfl)
        go_enter Try.func30, Try.ntmps30
        go_wp2
        go_ret2
        exact ⟨by rw [HU.out]; rfl, rfl⟩
      · have HU := Lib.hid (show up x = (0, 100) from tell_no (by rw [(may_not ((x + 8 - 1) / 8 * 8)).2 (by omega)]; simp))
        go_enter Try.func30, Try.ntmps30
        go_wp2
        go_ret2
        exact ⟨by rw [HU.out]; rfl, rfl⟩
    · have HU := Lib.hid (show up x = (0, 100) from tell_no (by rw [(may_not x).2 (by omega)]; rfl))
      go_enter Try.func30, Try.ntmps30
      go_wp2
      go_ret2
      exact ⟨by rw [HU.out]; rfl, rfl⟩
  · have HU := Lib.hid (show up x = (0, 100) from tell_no (by rw [(may_not x).2 (by omega)]; rfl))
    go_enter Try.func30, Try.ntmps30
    go_wp2
    go_ret2
    exact ⟨by rw [HU.out]; rfl, rfl⟩

set_option maxHeartbeats 800000 in
theorem padAdd_calls (a b : Int) (w : World) : Calls Try.prog 31 #[.int .i64 a, .int .i64 b] w fun e w' => e = told2 (add a b) ∧ Below w.heap.size w w' := by
  by_cases ha : 0 ≤ a ∧ a ≤ 2147483647
  · obtain ⟨a0, a1⟩ := ha
    by_cases hb : 0 ≤ b ∧ b ≤ 2147483647
    · obtain ⟨b0, b1⟩ := hb
      have s0 : 0 ≤ a + b := by omega
      go_enter Try.func31, Try.ntmps31
      go_wp2_with (first | (go_at_call 46; refine (told_two _ _ _ _).mono ?_; rintro e w' ⟨rfl, hb⟩) | go_in)
      go_ret2
      exact ⟨rfl, hb⟩
    · have HU := Lib.hid (show add a b = (0, 100) from tell_no (by rw [(may_not b).2 (by omega)]; simp))
      rcases (show ¬ 0 ≤ b ∨ ¬ b ≤ 2147483647 by omega) with b0 | b0
      all_goals
        go_enter Try.func31, Try.ntmps31
        go_wp2
        go_ret2
        exact ⟨by rw [HU.out]; rfl, Below.refl _ _⟩
  · have HU := Lib.hid (show add a b = (0, 100) from tell_no (by rw [(may_not a).2 (by omega)]; rfl))
    rcases (show ¬ 0 ≤ a ∨ ¬ a ≤ 2147483647 by omega) with a0 | a0
    all_goals
      go_enter Try.func31, Try.ntmps31
      go_wp2
      go_ret2
      exact ⟨by rw [HU.out]; rfl, Below.refl _ _⟩

set_option maxHeartbeats 800000 in
theorem refAdd_calls (a b : Int) (w : World) : Calls Try.prog 32 #[.int .i64 a, .int .i64 b] w fun e w' => e = told2 (add a b) ∧ w = w' := by
  by_cases ha : 0 ≤ a ∧ a ≤ 2147483647
  · obtain ⟨a0, a1⟩ := ha
    by_cases hb : 0 ≤ b ∧ b ≤ 2147483647
    · obtain ⟨b0, b1⟩ := hb
      have s0 : 0 ≤ a + b := by omega
      by_cases hs : a + b ≤ 2147483647
      · have HU := Lib.hid (show add a b = (a + b, 0) by unfold add; rw [(may_iff a).2 ⟨a0, a1⟩, (may_iff b).2 ⟨b0, b1⟩, (may_iff (a + b)).2 ⟨by assumption, hs⟩]; rfl)
        go_enter Try.func32, Try.ntmps32
        go_wp2
        go_ret2
        exact ⟨by rw [HU.out]; rfl, rfl⟩
      · have HU := Lib.hid (show add a b = (0, 100) from tell_no (by rw [(may_not (a + b)).2 (by omega)]; simp))
        go_enter Try.func32, Try.ntmps32
        go_wp2
        go_ret2
        exact ⟨by rw [HU.out]; rfl, rfl⟩
    · have HU := Lib.hid (show add a b = (0, 100) from tell_no (by rw [(may_not b).2 (by omega)]; simp))
      rcases (show ¬ 0 ≤ b ∨ ¬ b ≤ 2147483647 by omega) with b0 | b0
      all_goals
        go_enter Try.func32, Try.ntmps32
        go_wp2
        go_ret2
        exact ⟨by rw [HU.out]; rfl, rfl⟩
  · have HU := Lib.hid (show add a b = (0, 100) from tell_no (by rw [(may_not a).2 (by omega)]; rfl))
    rcases (show ¬ 0 ≤ a ∨ ¬ a ≤ 2147483647 by omega) with a0 | a0
    all_goals
      go_enter Try.func32, Try.ntmps32
      go_wp2
      go_ret2
      exact ⟨by rw [HU.out]; rfl, rfl⟩

set_option maxHeartbeats 800000 in
theorem padMul_calls (a b : Int) (w : World) : Calls Try.prog 33 #[.int .i64 a, .int .i64 b] w fun e w' => e = told2 (mul a b) ∧ Below w.heap.size w w' := by
  by_cases ha : 0 ≤ a ∧ a ≤ 2147483647
  · obtain ⟨a0, a1⟩ := ha
    by_cases hb : 0 ≤ b ∧ b ≤ 2147483647
    · obtain ⟨b0, b1⟩ := hb
      have s0 : 0 ≤ a * b := Int.mul_nonneg a0 b0
      have s1 : a * b ≤ 4611686014132420609 := Int.le_trans (Int.mul_le_mul a1 b1 b0 (by decide)) (by decide)
      go_enter Try.func33, Try.ntmps33
      go_wp2_with (first | (go_at_call 46; refine (told_two _ _ _ _).mono ?_; rintro e w' ⟨rfl, hb⟩) | go_in)
      go_ret2
      exact ⟨rfl, hb⟩
    · have HU := Lib.hid (show mul a b = (0, 100) from tell_no (by rw [(may_not b).2 (by omega)]; simp))
      rcases (show ¬ 0 ≤ b ∨ ¬ b ≤ 2147483647 by omega) with b0 | b0
      all_goals
        go_enter Try.func33, Try.ntmps33
        go_wp2
        go_ret2
        exact ⟨by rw [HU.out]; rfl, Below.refl _ _⟩
  · have HU := Lib.hid (show mul a b = (0, 100) from tell_no (by rw [(may_not a).2 (by omega)]; rfl))
    rcases (show ¬ 0 ≤ a ∨ ¬ a ≤ 2147483647 by omega) with a0 | a0
    all_goals
      go_enter Try.func33, Try.ntmps33
      go_wp2
      go_ret2
      exact ⟨by rw [HU.out]; rfl, Below.refl _ _⟩

set_option maxHeartbeats 800000 in
theorem refMul_calls (a b : Int) (w : World) : Calls Try.prog 34 #[.int .i64 a, .int .i64 b] w fun e w' => e = told2 (mul a b) ∧ w = w' := by
  by_cases ha : 0 ≤ a ∧ a ≤ 2147483647
  · obtain ⟨a0, a1⟩ := ha
    by_cases hb : 0 ≤ b ∧ b ≤ 2147483647
    · obtain ⟨b0, b1⟩ := hb
      have s0 : 0 ≤ a * b := Int.mul_nonneg a0 b0
      have s1 : a * b ≤ 4611686014132420609 := Int.le_trans (Int.mul_le_mul a1 b1 b0 (by decide)) (by decide)
      by_cases hs : a * b ≤ 2147483647
      · have HU := Lib.hid (show mul a b = (a * b, 0) by unfold mul; rw [(may_iff a).2 ⟨a0, a1⟩, (may_iff b).2 ⟨b0, b1⟩, (may_iff (a * b)).2 ⟨by assumption, hs⟩]; rfl)
        go_enter Try.func34, Try.ntmps34
        go_wp2
        go_ret2
        exact ⟨by rw [HU.out]; rfl, rfl⟩
      · have HU := Lib.hid (show mul a b = (0, 100) from tell_no (by rw [(may_not (a * b)).2 (by omega)]; simp))
        go_enter Try.func34, Try.ntmps34
        go_wp2
        go_ret2
        exact ⟨by rw [HU.out]; rfl, rfl⟩
    · have HU := Lib.hid (show mul a b = (0, 100) from tell_no (by rw [(may_not b).2 (by omega)]; simp))
      rcases (show ¬ 0 ≤ b ∨ ¬ b ≤ 2147483647 by omega) with b0 | b0
      all_goals
        go_enter Try.func34, Try.ntmps34
        go_wp2
        go_ret2
        exact ⟨by rw [HU.out]; rfl, rfl⟩
  · have HU := Lib.hid (show mul a b = (0, 100) from tell_no (by rw [(may_not a).2 (by omega)]; rfl))
    rcases (show ¬ 0 ≤ a ∨ ¬ a ≤ 2147483647 by omega) with a0 | a0
    all_goals
      go_enter Try.func34, Try.ntmps34
      go_wp2
      go_ret2
      exact ⟨by rw [HU.out]; rfl, rfl⟩
end Go.Proofs.Ytbbakifachemcaa
