/- Chapter 7: what every program answers that is one: the walk of quiverlaw7.awake at its own inputs. -/
import Derived.Test.YtlllflacnlgigaaGreatDoorFits
import Derived.Test.YtlllflacnlgigaaGreatDoorApp
namespace Go.Proofs.YtlllflacnlgigaaGreatDoor
open Go.RowKit
set_option linter.unusedVariables false
set_option linter.unusedSimpArgs false

def txtOf (s : String) : Vp.Txt := s.toUTF8.data.toList
theorem aw_int (W : World) (hv : Vars W) : Calls Tryz.prog 14 #[.int .i64 (-12)] W fun e w' => e = .returned (.string ⟨#[105, 45, 49, 50, 59]⟩) ∧ Below W.heap.size W w' := by
  have h := int_calls (-12) W hv (by decide) (by decide)
  rw [show Vp.int (-12) = [105, 45, 49, 50, 59] from by decide +kernel] at h
  exact h
theorem aw_str (W : World) (hv : Vars W) : Calls Tryz.prog 18 #[.string ⟨#[97, 59]⟩] W fun e w' => e = .returned (.string ⟨#[115, 50, 58, 97, 59]⟩) ∧ Below W.heap.size W w' := by
  have h := str_calls [97, 59] W hv (by decide)
  rw [show Vp.str [97, 59] = [115, 50, 58, 97, 59] from by decide +kernel] at h
  exact h
theorem aw_list (W : World) (v : Value) (hv : Vars W) (ht : TextsAt W v [[110], [116]]) : Calls Tryz.prog 20 #[v] W fun e w' => e = .returned (.string ⟨#[91, 110, 116, 93]⟩) ∧ Below W.heap.size W w' := by
  have h := list_calls v _ W ht (by decide) (by decide)
  rw [show Vp.list [[110], [116]] = [91, 110, 116, 93] from by decide +kernel] at h
  exact h
theorem aw_struct (W : World) (v : Value) (hv : Vars W) (ht : TextsAt W v [[105, 45, 49, 50, 59], [91, 110, 116, 93], [115, 50, 58, 97, 59]]) : Calls Tryz.prog 22 #[v] W fun e w' => e = .returned (.string ⟨#[123, 105, 45, 49, 50, 59, 91, 110, 116, 93, 115, 50, 58, 97, 59, 125]⟩) ∧ Below W.heap.size W w' := by
  have h := struct_calls v _ W ht (by decide) (by decide)
  rw [show Vp.struct [[105, 45, 49, 50, 59], [91, 110, 116, 93], [115, 50, 58, 97, 59]] = [123, 105, 45, 49, 50, 59, 91, 110, 116, 93, 115, 50, 58, 97, 59, 125] from by decide +kernel] at h
  exact h
theorem aw_parts (W : World) (hv : Vars W) : Calls Tryz.prog 8 #[.string ⟨#[123, 105, 45, 49, 50, 59, 91, 110, 116, 93, 115, 50, 58, 97, 59, 125]⟩] W fun e w' => ∃ r, e = .returned (.tuple #[.int .i64 4, r, .int .i64 0]) ∧ TextsAt w' r [[105, 45, 49, 50, 59], [91, 110, 116, 93], [115, 50, 58, 97, 59]] ∧ Below W.heap.size W w' := by
  have h := parts_calls [123, 105, 45, 49, 50, 59, 91, 110, 116, 93, 115, 50, 58, 97, 59, 125] W hv (by decide)
  rw [show Vp.parts [123, 105, 45, 49, 50, 59, 91, 110, 116, 93, 115, 50, 58, 97, 59, 125] = (4, [[105, 45, 49, 50, 59], [91, 110, 116, 93], [115, 50, 58, 97, 59]], 0) from by decide +kernel] at h
  exact h.mono fun e w' ⟨r, he, ho, hb⟩ => ⟨r, he, own_texts ho, hb⟩
theorem aw_parts2 (W : World) (hv : Vars W) : Calls Tryz.prog 8 #[.string ⟨#[105, 48, 49, 59]⟩] W fun e w' => ∃ r, e = .returned (.tuple #[.int .i64 0, r, .int .i64 700]) ∧ Below W.heap.size W w' := by
  have h := parts_calls [105, 48, 49, 59] W hv (by decide)
  rw [show Vp.parts [105, 48, 49, 59] = (0, [], 700) from by decide +kernel] at h
  exact h.mono fun e w' ⟨r, he, ho, hb⟩ => ⟨r, he, hb⟩
theorem aw_fits (x : Int) (l : List UInt8) (b : Bool) (W : World) (v : Value) (hv : Vars W) (hx : x ≤ 9) (hl : l.length ≤ 9) (ht : NodesAt W v [⟨0, -1, false⟩]) (hb : Vp.fits [⟨0, -1, false⟩] (l.length + 1) x l = b) :
    Calls Tryz.prog 24 #[typeV v, .int .i64 x, tv l] W fun e w' => e = .returned (.bool b) ∧ Below W.heap.size W w' := by
  have h := fits_calls v _ x l W ht hv (by omega) (by omega)
  rw [hb] at h
  exact h
theorem aw_same (v u : Value) (xs : List Vp.Txt) (W : World) (hx : TextsAt W v xs) (hy : TextsAt W u xs) :
    Calls Tryz.prog 10 #[v, u] W fun e w' => e = .returned (.bool true) ∧ Below W.heap.size W w' := by
  have h := sameTexts_calls v u xs xs W hx hy
  rw [beq_self_eq_true] at h
  exact h

set_option maxHeartbeats 1600000 in
theorem awake7_calls (W : World) (hv : Vars W) : Calls Tryz.prog 28 #[] W fun e w' => e = .returned (.bool true) ∧ Below W.heap.size W w' := by
  go_enter Tryz.func28, Tryz.ntmps28
  go_wp2_with (fail)
  refine (aw_int _ hv).mono ?_; rintro e w1 ⟨rfl, HB⟩
  go_wp2_with (fail)
  refine (null_calls _).mono ?_; rintro e w' ⟨rfl, rfl⟩
  go_wp2_with (fail)
  refine (bool_calls true _).mono ?_; rintro e w' ⟨rfl, rfl⟩
  go_wp2_with (fail)
  have HB1 := below_alloc HB (.cells #[.string ⟨#[110]⟩, .string ⟨#[116]⟩] 9)
  refine (aw_list _ _ (hv.below HB1 hv.six) (texts_lit w1 [[110], [116]] (by decide))).mono ?_; rintro e w2 ⟨rfl, hb⟩; replace HB := below_then HB1 hb; clear HB1 hb
  go_wp2_with (fail)
  refine (aw_str _ (hv.below HB hv.six)).mono ?_; rintro e w3 ⟨rfl, hb⟩; replace HB := below_then HB hb; clear hb
  go_wp2_with (fail)
  have HB1 := below_alloc HB (.cells #[.string ⟨#[105, 45, 49, 50, 59]⟩, .string ⟨#[91, 110, 116, 93]⟩, .string ⟨#[115, 50, 58, 97, 59]⟩] 9)
  refine (aw_struct _ _ (hv.below HB1 hv.six) (texts_lit w3 [[105, 45, 49, 50, 59], [91, 110, 116, 93], [115, 50, 58, 97, 59]] (by decide))).mono ?_; rintro e w4 ⟨rfl, hb⟩; replace HB := below_then HB1 hb; clear HB1 hb
  go_wp2_with (fail)
  refine (aw_parts _ (hv.below HB hv.six)).mono ?_; rintro e w5 ⟨r, rfl, ht, hb⟩; replace HB := below_then HB hb; clear hb
  have HT := Lib.hid ht; clear ht
  go_wp2_with (fail)
  refine (aw_parts2 _ (hv.below HB hv.six)).mono ?_; rintro e w6 ⟨r2, rfl, hb⟩; replace HB := below_then HB hb; replace HT := Lib.hid (HT.out.below hb); clear hb
  go_wp2_with (fail)
  have HB1 := below_alloc (below_alloc (below_alloc HB (.cells #[.int .i64 0, .int .i64 (-1), .bool false] 67)) (.cells #[.slice (some ⟨w6.heap.size, 0, none⟩) 1 1] 25)) (.cells #[.string ⟨#[105, 45, 49, 50, 59]⟩, .string ⟨#[91, 110, 116, 93]⟩, .string ⟨#[115, 50, 58, 97, 59]⟩] 9)
  have hN := nodes_lit1 w6 0 (-1) false
  have hb2 : Below (w6.alloc (.cells #[.int .i64 0, .int .i64 (-1), .bool false] 67)).heap.size (w6.alloc (.cells #[.int .i64 0, .int .i64 (-1), .bool false] 67)) (((w6.alloc (.cells #[.int .i64 0, .int .i64 (-1), .bool false] 67)).alloc (.cells #[.slice (some ⟨w6.heap.size, 0, none⟩) 1 1] 25)).alloc (.cells #[.string ⟨#[105, 45, 49, 50, 59]⟩, .string ⟨#[91, 110, 116, 93]⟩, .string ⟨#[115, 50, 58, 97, 59]⟩] 9)) := below_alloc (below_alloc (Below.refl _ _) _) _
  have hb3 : Below w6.heap.size w6 (((w6.alloc (.cells #[.int .i64 0, .int .i64 (-1), .bool false] 67)).alloc (.cells #[.slice (some ⟨w6.heap.size, 0, none⟩) 1 1] 25)).alloc (.cells #[.string ⟨#[105, 45, 49, 50, 59]⟩, .string ⟨#[91, 110, 116, 93]⟩, .string ⟨#[115, 50, 58, 97, 59]⟩] 9)) := below_alloc (below_alloc (below_alloc (Below.refl _ _) _) _) _
  replace HT := Lib.hid (HT.out.below hb3)
  replace hN := Lib.hid (hN.below hb2)
  clear hb2 hb3
  have hbx : (((w6.alloc (.cells #[.int .i64 0, .int .i64 (-1), .bool false] 67)).alloc (.cells #[.slice (some ⟨w6.heap.size, 0, none⟩) 1 1] 25)).alloc (.cells #[.string ⟨#[105, 45, 49, 50, 59]⟩, .string ⟨#[91, 110, 116, 93]⟩, .string ⟨#[115, 50, 58, 97, 59]⟩] 9)).cell? ⟨w6.heap.size + 1, 0, none⟩ = some (.slice (some ⟨w6.heap.size, 0, none⟩) 1 1) := by have h := ((Row.new (w6.alloc (.cells #[.int .i64 0, .int .i64 (-1), .bool false] 67)) 25 #[.slice (some ⟨w6.heap.size, 0, none⟩) 1 1]).alloc (.cells #[.string ⟨#[105, 45, 49, 50, 59]⟩, .string ⟨#[91, 110, 116, 93]⟩, .string ⟨#[115, 50, 58, 97, 59]⟩] 9)).cell (i := 0) rfl; simpa using h
  refine (aw_same _ _ _ _ HT.out (texts_at _ _ _ 3 [[105, 45, 49, 50, 59], [91, 110, 116, 93], [115, 50, 58, 97, 59]] (by simp) rfl rfl (by decide))).mono ?_
  rintro e w7 ⟨rfl, hb⟩
  have hc := (hb.cell (p := ⟨w6.heap.size + 1, 0, none⟩) (by simp)).trans hbx
  replace HB := below_then HB1 hb
  have HN := Lib.hid (hN.out.below hb)
  have hs : w6.heap.size + 1 < w7.heap.size := by have := hb.size; simp at this; omega
  clear hb HB1 hbx hN
  go_wp2_with (fail)
  refine (num_calls _ _).mono ?_; rintro e w' ⟨rfl, rfl⟩
  go_wp2_with (fail)
  refine (num_calls _ _).mono ?_; rintro e w' ⟨rfl, rfl⟩
  go_wp2_with (fail)
  refine (aw_fits 0 [105, 53, 59] true _ _ (hv.below HB hv.six) (by decide) (by decide) HN.out (by decide +kernel)).mono ?_; rintro e w8 ⟨rfl, hb⟩
  replace HB := below_then HB hb
  have hc8 := (hb.cell (p := ⟨w6.heap.size + 1, 0, none⟩) hs).trans hc
  have hs8 := Nat.lt_of_lt_of_le hs hb.size
  replace HN := Lib.hid (HN.out.below hb)
  clear hb hc hs
  go_wp2_with (fail)
  refine (aw_fits 0 [110] false _ _ (hv.below HB hv.six) (by decide) (by decide) HN.out (by decide +kernel)).mono ?_; rintro e w9 ⟨rfl, hb⟩
  replace HB := below_then HB hb
  have hc9 := (hb.cell (p := ⟨w6.heap.size + 1, 0, none⟩) hs8).trans hc8
  replace HN := Lib.hid (HN.out.below hb)
  clear hb hc8 hs8
  go_wp2_with (fail)
  refine (aw_fits 1 [105, 53, 59] false _ _ (hv.below HB hv.six) (by decide) (by decide) HN.out (by decide +kernel)).mono ?_; rintro e w10 ⟨rfl, hb⟩
  replace HB := below_then HB hb
  go_wp2
  go_ret
  exact ⟨rfl, HB⟩
end Go.Proofs.YtlllflacnlgigaaGreatDoor
