/- The reference's ArrayMay, walked: its ends, what is bare, what is there. -/
import Derived.Test.YtlllflacnlgigaaGreatDoorMc26
import Derived.Test.YtlllflacnlgigaaGreatDoorMc32
import Derived.Test.YtlllflacnlgigaaGreatDoorMc2
import Derived.Test.YtlllflacnlgigaaGreatDoorMc12
import Derived.BigQuiet
import Derived.Deep.CutBlock
namespace Go.Proofs.YtlllflacnlgigaaGreatDoor
open Go.RowKit
set_option linter.unusedVariables false
set_option linter.unusedSimpArgs false

theorem num4_rng (l : Vp.Txt) (i : Nat) : 0 ≤ (Vp.num4 l i).1 ∧ (Vp.num4 l i).1 ≤ 2147483647 := by
  unfold Vp.num4
  split
  · rename_i h
    have := h.2
    constructor <;> simp <;> omega
  · constructor <;> decide
theorem ends_no {l : Vp.Txt} {rows : Nat} {most : Int} {f ap k : Nat} (hk : k ≤ rows) (h : Vp.endOk l most f ap k = false) : Vp.endsOk l rows most f ap = false := by
  unfold Vp.endsOk
  rw [Bool.eq_false_iff]
  intro ha
  have := (List.all_eq_true.1 ha) k (List.mem_range.2 (by omega))
  rw [h] at this
  exact absurd this (by decide)
theorem ends_yes {l : Vp.Txt} {rows : Nat} {most : Int} {f ap : Nat} (h : ∀ j, j < rows + 1 → Vp.endOk l most f ap j = true) : Vp.endsOk l rows most f ap = true := by
  unfold Vp.endsOk
  rw [List.all_eq_true]
  exact fun j hj => h j (List.mem_range.1 hj)
theorem endOk_eq (l : Vp.Txt) (most : Int) (f ap k : Nat) (x was : Int) (b : Bool) (hx : Vp.num4 l k = (x, b)) (hw : was = Vp.runEnd l k) (h0 : 0 ≤ x) :
    Vp.endOk l most f ap k = (b && (decide (was ≤ x) && (decide (x ≤ most) && (decide (k ≤ f) || decide (x - was ≤ ap))))) := by
  unfold Vp.endOk
  rw [hx]
  unfold Vp.runEnd at hw
  rcases Nat.eq_zero_or_pos k with h | h
  · subst h
    rw [if_pos rfl] at hw
    subst hw
    simp [h0]
  · rw [if_neg (by omega)] at hw
    rw [← hw]
    have : decide (k = 0) = false := decide_eq_false (by omega)
    rw [this, Bool.false_or]
    cases b
    · rfl
    · rw [Bool.true_and, Bool.true_and]; exact Bool.and_left_comm _ _ _
set_option maxHeartbeats 1600000 in
theorem mayEnds_calls (l : Vp.Txt) (rows f ap : Nat) (most : Int) (W : World) (hl : l.length ≤ 140737488351232) (hr : rows ≤ 65536) (hf : f ≤ 65536) (ha : ap ≤ 2147483647) :
    Calls Tryz.prog 109 #[.string ⟨l.toArray⟩, .int .i64 (rows : Int), .int .i64 (f : Int), .int .i64 most, .int .i64 (ap : Int)] W fun e w' => e = .returned (.bool (Vp.endsOk l rows most f ap)) ∧ Below W.heap.size W w' := by
  go_enter Tryz.func109, Tryz.ntmps109
  go_wp2
  go_loopw [11, 12, 13, 14] (fun was i x e wr => ∃ k : Nat, k ≤ rows + 1 ∧ i = .int .i64 (k : Int) ∧ was = .int .i64 (Vp.runEnd l k) ∧ (∀ j, j < k → Vp.endOk l most f ap j = true) ∧ Below W.heap.size W wr) (fun _ i _ _ _ => rows + 1 - (intOf i).toNat)
  case atStart => exact ⟨0, Nat.zero_le _, rfl, rfl, fun j h => absurd h (Nat.not_lt_zero _), Below.refl _ _⟩
  case round =>
    obtain ⟨k, hk, rfl, rfl, hall, hb⟩ := hrel
    have HA := Lib.hid hall
    clear hall
    by_cases hlt : k ≤ rows
    · have hi : (k : Int) ≤ (rows : Int) := by omega
      have hwr : 0 ≤ Vp.runEnd l k ∧ Vp.runEnd l k ≤ 2147483647 := by
        unfold Vp.runEnd
        split
        · constructor <;> decide
        · exact num4_rng _ _
      have hxr := num4_rng l k
      have HG := Lib.hid (fun W => getNum4_calls l k W hl (by omega))
      have hnx : Vp.runEnd l (k + 1) = (Vp.num4 l k).1 := by unfold Vp.runEnd; rw [if_neg (by omega), Nat.add_sub_cancel]
      have hnr : num4R l k = ((Vp.num4 l k).1, if (Vp.num4 l k).2 then 0 else 300) := rfl
      have HE := Lib.hid (fun x b h => endOk_eq l most f ap k x _ b h rfl)
      have HNX := Lib.hid hnx
      clear hnx
      obtain ⟨x, b, hxb⟩ : ∃ x b, Vp.num4 l k = (x, b) := ⟨_, _, rfl⟩
      rw [hxb] at HNX hxr hnr
      have he := HE.out x b hxb (hxr.1)
      generalize hws : Vp.runEnd l k = was at he hwr
      have HX := Lib.hid he
      clear he hws hxb HE
      simp only at hnr HNX hxr
      rw [hnr] at HG
      clear hnr
      cases b with
      | false =>
        rw [if_neg (by decide)] at HG
        go_wp2_with (go_at_call 90; refine (HG.out _).mono ?_; rintro e w' ⟨rfl, rfl⟩)
        go_ret
        exact ⟨ret_bool (ends_no hlt HX.out).symm, hb⟩
      | true =>
        rw [if_pos rfl] at HG
        by_cases c1 : was ≤ x
        · by_cases c2 : x ≤ most
          · by_cases c3 : k ≤ f
            · have d3 : (k : Int) ≤ (f : Int) := by omega
              rw [decide_eq_true c1, decide_eq_true c2, decide_eq_true c3] at HX
              clear c3
              go_wp2_with (go_at_call 90; refine (HG.out _).mono ?_; rintro e w' ⟨rfl, rfl⟩)
              refine ⟨⟨k + 1, by omega, by go_num, by rw [HNX.out], fun j hj => ?_, hb⟩, by simp [intOf]; omega⟩
              rcases Nat.lt_or_ge j k with h | h
              · exact HA.out j h
              · obtain rfl : j = k := by omega
                exact HX.out
            · have d3 : decide ((k : Int) ≤ (f : Int)) = false := decide_eq_false (by omega)
              have d3' : decide ((f : Int) < (k : Int)) = true := decide_eq_true (by omega)
              by_cases c4 : x - was ≤ (ap : Int)
              · rw [decide_eq_true c1, decide_eq_true c2, decide_eq_false c3, decide_eq_true c4] at HX
                go_wp2_with (go_at_call 90; refine (HG.out _).mono ?_; rintro e w' ⟨rfl, rfl⟩)
                refine ⟨⟨k + 1, by omega, by go_num, by rw [HNX.out], fun j hj => ?_, hb⟩, by simp [intOf]; omega⟩
                rcases Nat.lt_or_ge j k with h | h
                · exact HA.out j h
                · obtain rfl : j = k := by omega
                  exact HX.out
              · have d4 : decide (x - was ≤ (ap : Int)) = false := decide_eq_false c4
                rw [decide_eq_true c1, decide_eq_true c2, decide_eq_false c3, decide_eq_false c4] at HX
                go_wp2_with (go_at_call 90; refine (HG.out _).mono ?_; rintro e w' ⟨rfl, rfl⟩)
                go_ret
                exact ⟨ret_bool (ends_no hlt HX.out).symm, hb⟩
          · have d2 : decide (x ≤ most) = false := decide_eq_false c2
            rw [decide_eq_true c1, decide_eq_false c2] at HX
            go_wp2_with (go_at_call 90; refine (HG.out _).mono ?_; rintro e w' ⟨rfl, rfl⟩)
            go_ret
            exact ⟨ret_bool (ends_no hlt HX.out).symm, hb⟩
        · have d1 : decide (was ≤ x) = false := decide_eq_false c1
          rw [decide_eq_false c1] at HX
          go_wp2_with (go_at_call 90; refine (HG.out _).mono ?_; rintro e w' ⟨rfl, rfl⟩)
          go_ret
          exact ⟨ret_bool (ends_no hlt HX.out).symm, hb⟩
    · obtain rfl : k = rows + 1 := by omega
      go_wp2
      go_ret
      exact ⟨ret_bool (ends_yes HA.out).symm, hb⟩
theorem no_empty {e : Vp.Txt} (h : e ≠ []) : e.isEmpty = false := by cases e with | nil => exact absurd rfl h | cons => rfl
theorem bare_calls (l f n : Int) (v e d : Vp.Txt) (ks : List Arr) (k : Value) (W : World) (hk : KidsAt W ks k) :
    Calls Tryz.prog 108 #[arrV l f n v e d k] W fun x w' => x = .returned (.bool (decide (e = []) && decide (ks = []))) ∧ Below W.heap.size W w' := by
  have hb := below_alloc (Below.refl W.heap.size W) (.cells #[.int .i64 l, .int .i64 f, .int .i64 n, .string ⟨v.toArray⟩, .string ⟨e.toArray⟩, .string ⟨d.toArray⟩, k] 47)
  rw [KidsAt] at hk
  obtain ⟨a, c, rfl, _, _, _⟩ := hk
  by_cases he : e = []
  · subst he
    have hkk : decide (ks = []) = ((ks.length : Int) == 0) := by
      cases ks with
      | nil => rfl
      | cons x r => rw [decide_eq_false (by simp)]; symm; rw [beq_eq_false_iff_ne]; simp; omega
    go_enter Tryz.func108, Tryz.ntmps108
    go_wp2
    go_ret
    exact ⟨ret_bool (by rw [hkk]; rfl), hb⟩
  · have hi := no_empty he
    go_enter Tryz.func108, Tryz.ntmps108
    go_wp2
    go_ret
    exact ⟨ret_bool (by rw [decide_eq_false he]; rfl), hb⟩
theorem there_calls (l f n : Int) (v e d : Vp.Txt) (k : Value) (row : Nat) (W : World) (hv : v ≠ [] → row < 8 * v.length) (hvl : v.length ≤ 65536) (hk : ∃ a m c, k = .slice a m c) :
    Calls Tryz.prog 91 #[arrV l f n v e d k, .int .i64 (row : Int)] W fun x w' => x = .returned (.bool (Vp.on v row)) ∧ Below W.heap.size W w' := by
  have hb := below_alloc (Below.refl W.heap.size W) (.cells #[.int .i64 l, .int .i64 f, .int .i64 n, .string ⟨v.toArray⟩, .string ⟨e.toArray⟩, .string ⟨d.toArray⟩, k] 47)
  obtain ⟨a, m, c, rfl⟩ := hk
  have hz := mk_size v
  by_cases he : v = []
  · subst he
    go_enter Tryz.func91, Tryz.ntmps91
    go_wp2
    go_ret
    exact ⟨ret_bool rfl, hb⟩
  · have hi := no_empty he
    have hr := hv he
    have HR := Lib.hid (fun W => refBit_calls ⟨v.toArray⟩ (row : Int) W (by omega) (by omega) (by omega))
    rw [Int.toNat_natCast] at HR
    have HU := Lib.hid (show Vp.on v row = Bt.bit v row by unfold Vp.on; rw [decide_eq_false he, Bool.false_or])
    go_enter Tryz.func91, Tryz.ntmps91
    go_wp2_with (go_at_call 93; refine (HR.out _).mono ?_; rintro e w' ⟨rfl, rfl⟩)
    go_ret
    exact ⟨ret_bool (by rw [HU.out]), hb⟩
end Go.Proofs.YtlllflacnlgigaaGreatDoor
