/- Chapter 10: the walk of BuildZeros. -/
import Derived.Test.YtlllflacnlgigaaDoorAwake10
import Derived.Test.YtlllflacnlgigaaDoorLaw10A
import Derived.Deep.CutBlock
import Derived.BigQuiet
namespace Go.Proofs.YtlllflacnlgigaaDoor
open Go.RowKit
set_option linter.unusedVariables false
set_option linter.unusedSimpArgs false

def tyZ (j : Nat) (b : Bool) : List Tp.Nd := if j = 3 then [⟨4, -1, true⟩, ⟨3, 0, b⟩, ⟨0, 1, false⟩] else [⟨4, -1, true⟩, ⟨j, 0, b⟩]
def zv (b : Bool) : Vp.Txt := if b then [0] else []
def zd (j : Nat) : Vp.Txt := [List.replicate 16 0, [0], [], []].getD j []
def ze (j : Nat) : Vp.Txt := [[], [], List.replicate 12 0, List.replicate 12 0].getD j []
def zk (j : Nat) : List Arr := if j = 3 then [Arr.none] else []
set_option maxRecDepth 100000 in
theorem bz (j : Nat) (b : Bool) (h : j ≤ 3) : Vp.buildR (tyZ j b) 0 [[110], [110]] = (.mk 0 0 2 [0] [] [] [.mk 0 0 2 (zv b) (ze j) (zd j) (zk j)], 0) := by
  obtain rfl | rfl | rfl | rfl : j = 0 ∨ j = 1 ∨ j = 2 ∨ j = 3 := by omega
  all_goals cases b <;> kernel_rfl
set_option maxRecDepth 100000 in
set_option maxHeartbeats 6400000 in
theorem buildZeros_walk (a0 : Bool) (a1 : Int) (W : World) (hv : Vars W) (h1 : (Lit.int .i64 a1).wf = true) :
    Calls Tryd.prog 10 #[.bool a0, .int .i64 a1] W fun e w' => e = .returned (.bool true) ∧ Below W.heap.size W w' := by
  have hm0 := mask_range a1 3 (by decide)
  rw [show ((3 : Nat) : Int) = 3 from rfl] at hm0
  obtain ⟨j, hj⟩ : ∃ j : Nat, bits .and .i64 a1 3 = (j : Int) := ⟨(bits .and .i64 a1 3).toNat, by omega⟩
  rw [hj] at hm0
  have hj3 : j ≤ 3 := by omega
  have HJ := Lib.hid hj
  clear hm0 hj h1
  go_enter Tryd.func10, Tryd.ntmps10
  go_wp2_with (fail)
  refine (awake10_calls W hv).mono ?_; rintro e w1 ⟨rfl, HB⟩
  have hj := HJ.out
  go_upto_if 24 with (fail)
  obtain ⟨wa, hwa⟩ : ∃ wa, w1.alloc (.cells #[.int .i64 4, .int .i64 (-1), .bool true, .int .i64 (j : Int), .int .i64 0, .bool a0] 37) = wa := ⟨_, rfl⟩
  have hsa : wa.heap.size = w1.heap.size + 1 := by rw [← hwa]; simp
  have OA : wa.ownsRow w1.heap.size 37 3 (.slice (some ⟨w1.heap.size, 0, none⟩) 2 2) 2 ([(⟨4, -1, true⟩ : Tp.Nd), ⟨j, 0, a0⟩].flatMap ndv) := by
    rw [← hwa]; exact own_litN w1 w1.heap.size 37 3 2 ([(⟨4, -1, true⟩ : Tp.Nd), ⟨j, 0, a0⟩].flatMap ndv) (Nat.le_refl _) rfl (by decide)
  have HBa : Below W.heap.size W wa := by rw [← hwa]; exact below_alloc HB _
  have hW1 := HB.size
  rw [hwa]
  clear hwa HB
  obtain ⟨wb, hwb⟩ : ∃ wb, wa.alloc (.cells #[.slice (some ⟨w1.heap.size, 0, none⟩) 2 2] 40) = wb := ⟨_, rfl⟩
  have hsb : wb.heap.size = w1.heap.size + 2 := by rw [← hwb]; simp; omega
  have CB : wb.heap[w1.heap.size + 1]? = some (.cells #[.slice (some ⟨w1.heap.size, 0, none⟩) 2 2] 40) := by rw [← hwb, ← hsa]; exact heap_alloc_new _ _
  have HBb : Below W.heap.size W wb := by rw [← hwb]; exact below_alloc HBa _
  have BAb : Below wa.heap.size wa wb := by rw [← hwb]; exact below_alloc (Below.refl _ _) _
  have OB := own_below OA BAb
  rw [hwb]
  clear hwb HBa
  have q0 := cell_of_one CB
  have f0 := free_of_one CB
  go_cut [] (fun wx => ∃ nv, wx.cell? ⟨w1.heap.size + 1, 0, none⟩ = some nv ∧ NodesAt wx nv (tyZ j a0) ∧ Below W.heap.size W wx)
  case first =>
    by_cases h3 : j = 3
    · subst h3
      go_wp2_with (at_builtin; go_loud (refine wp_appN rfl _ _ 38 37 rfl w1.heap.size 3 24 (.agg #[.int .i64 0, .int .i64 0, .bool false]) Tryd.underlying38 info_node rfl (by decide) (.slice (some ⟨w1.heap.size, 0, none⟩) 2 2) 2 _ rfl (by decide) rfl rfl hsb OB (by omega) (by omega) (by omega) ?_; intro v6 w6 ho6 hb6 hg6; obtain ⟨a2, c2, rfl⟩ := own_sliceN ho6; have hblk := (hg6.block (w1.heap.size + 1) (by omega) (by simp [Value.ownBlock])).trans CB; have hcw := cell_of_one hblk; have hfz := free_of_one hblk))
      go_meet
      refine ⟨_, cell_of_one (one_setCell hblk), own_nodes (base := w1.heap.size) (ns := [⟨4, -1, true⟩, ⟨3, 0, a0⟩, ⟨0, 1, false⟩]) (ownsRow_setCell_other ho6 ?_ _), below_set (HBb.trans (hb6.mono (by omega))) (by simp; omega) _⟩
      rcases own_ne ho6 hblk (by decide) with h | h
      · rw [h]; simp
      · exact h
    · go_wp2
      go_meet
      refine ⟨_, q0, ?_, HBb⟩
      rw [show tyZ j a0 = [⟨4, -1, true⟩, ⟨j, 0, a0⟩] from if_neg h3]
      exact own_nodes OB
  case rest =>
    obtain ⟨nv, hcl, hnx, hbx⟩ := hcut
    rename World => wx
    have HNX := Lib.hid hnx
    have HBX := Lib.hid hbx
    clear hnx hbx q0 f0 OB OA BAb HBb CB hsb hsa
    go_wp2_with (fail)
    refine (buildK _ _ (tyZ j a0) 0 [[110], [110]] _ (bz j a0 hj3) (HNX.out.below (below_alloc (Below.refl _ _) _)) (texts_at wx _ _ 2 [[110], [110]] rfl rfl rfl (by decide)) (hv.below (below_alloc HBX.out _) hv.six) (by decide) (by decide) (by decide)).mono ?_
    rintro e w4 ⟨a4, c4, rfl, hk4, hb4⟩
    have HB4 := below_then (below_alloc HBX.out (.cells #[.string ⟨#[110]⟩, .string ⟨#[110]⟩] 9)) hb4
    clear hb4 hcl
    have hka := hk4.at
    rw [KidsAt] at hka
    obtain ⟨a4', c4', hsl, _, hm4, hka⟩ := hka
    obtain ⟨rfl, _, rfl⟩ := Value.slice.inj hsl
    obtain ⟨bk, o, rfl, hbk, hka⟩ := hka (by simp)
    have HKA := Lib.hid (fun w' (h : Below w4.heap.size w4 w') => CellsAt.below h bk hbk o _ hka)
    clear hka hsl
    go_upto_region 10 with (go_at_call 15; refine (num_calls _ _).mono ?_; rintro e w' ⟨rfl, rfl⟩)
    obtain ⟨w5, hw5⟩ : ∃ w5, w4.alloc (.cells #[.int .i64 0, .int .i64 0, .int .i64 2, .string ⟨#[0]⟩, .string ⟨#[]⟩, .string ⟨#[]⟩, .slice (some ⟨bk, o, none⟩) 1 c4] 51) = w5 := ⟨_, rfl⟩
    have R5 : w5.heap[w4.heap.size]? = some (.cells #[.int .i64 0, .int .i64 0, .int .i64 2, .string ⟨#[0]⟩, .string ⟨#[]⟩, .string ⟨#[]⟩, .slice (some ⟨bk, o, none⟩) 1 c4] 51) := by rw [← hw5]; exact heap_alloc_new _ _
    have HB5 : Below W.heap.size W w5 := by rw [← hw5]; exact below_alloc HB4 _
    have hca : CellsAt w5 bk o [.mk 0 0 2 (zv a0) (ze j) (zd j) (zk j)] := HKA.out _ (by rw [← hw5]; exact below_alloc (Below.refl _ _) _)
    rw [hw5]
    clear hw5 HKA hk4 HB4
    obtain ⟨x0, x1, x2, x3, x4, x5, x6, _⟩ := zero_cells R5
    rw [CellsAt] at hca
    obtain ⟨⟨k0, k1, k2, k3, k4, k5, kk, k6, hkk⟩, _⟩ := hca
    rw [KidsAt] at hkk
    obtain ⟨ka, kc, rfl, _⟩ := hkk
    clear R5 hbk hm4
    generalize hn4 : w4.heap.size = n4 at x0 x1 x2 x3 x4 x5 x6 ⊢
    clear hn4 HNX HBX
    obtain ⟨z16, hz16⟩ : ∃ z : List UInt8, List.replicate 16 0 = z := ⟨_, rfl⟩
    obtain ⟨z12, hz12⟩ : ∃ z : List UInt8, List.replicate 12 0 = z := ⟨_, rfl⟩
    have hl16 : z16.length = 16 := by rw [← hz16]; rfl
    have hl12 : z12.length = 12 := by rw [← hz12]; rfl
    have hmk16 : ∀ W, (Instr.makeSlice 55 (.int .i64 16) (.int .i64 16)).run Tryd.prog W = .ok (.slice (some ⟨W.heap.size, 0, none⟩) 16 16) (W.alloc (.cells (z16.map bv).toArray 5)) := fun W => by
      rw [← hz16]; exact run_makeBytes (P := Tryd.prog) 55 5 Tryd.underlying55 info_u8b 16 (by omega) W
    have hmk12 : ∀ W, (Instr.makeSlice 55 (.int .i64 12) (.int .i64 12)).run Tryd.prog W = .ok (.slice (some ⟨W.heap.size, 0, none⟩) 12 12) (W.alloc (.cells (z12.map bv).toArray 5)) := fun W => by
      rw [← hz12]; exact run_makeBytes (P := Tryd.prog) 55 5 Tryd.underlying55 info_u8b 12 (by omega) W
    have hs16 := fun (W : World) => run_string (P := Tryd.prog) (w := W.alloc (.cells (z16.map bv).toArray 5)) 55 9 5 Tryd.underlying55 Tryd.underlying5 Tryd.underlying9 W.heap.size 16 16 z16 hl16.symm (by simpa using Row.new W 5 (z16.map bv).toArray)
    have hs12 := fun (W : World) => run_string (P := Tryd.prog) (w := W.alloc (.cells (z12.map bv).toArray 5)) 55 9 5 Tryd.underlying55 Tryd.underlying5 Tryd.underlying9 W.heap.size 12 12 z12 hl12.symm (by simpa using Row.new W 5 (z12.map bv).toArray)
    have HL16 := Lib.hid hl16
    have HL12 := Lib.hid hl12
    have HZ16 := Lib.hid hz16
    have HZ12 := Lib.hid hz12
    clear hl16 hl12 hz16 hz12
    go_upto_region 11 with (fail)
    go_upto_if 60 with (fail)
    obtain ⟨w6, hw6⟩ : ∃ w6, w5.alloc (.cells #[.int .i64 0, .int .i64 0, .int .i64 2, .string ⟨(zv a0).toArray⟩, .string ⟨(ze j).toArray⟩, .string ⟨(zd j).toArray⟩, .slice ka (zk j).length kc] 51) = w6 := ⟨_, rfl⟩
    have R6 : w6.heap[w5.heap.size]? = some (.cells #[.int .i64 0, .int .i64 0, .int .i64 2, .string ⟨(zv a0).toArray⟩, .string ⟨(ze j).toArray⟩, .string ⟨(zd j).toArray⟩, .slice ka (zk j).length kc] 51) := by rw [← hw6]; exact heap_alloc_new _ _
    have HB6 : Below W.heap.size W w6 := by rw [← hw6]; exact below_alloc HB5 _
    rw [hw6]
    clear hw6 HB5 x0 x1 x2 x3 x4 x5 x6 k0 k1 k2 k3 k4 k5 k6
    go_cut [10] (fun s10 wx => s10 = .string ⟨(zv a0).toArray⟩ ∧ wx = w6)
    case first => cases a0 <;> (go_wp2; go_meet; exact ⟨rfl, rfl⟩)
    case rest =>
      obtain ⟨rfl, rfl⟩ := hcut
      go_upto_region 15 with (fail)
      have HB7 := below_alloc (below_alloc HB6 (.cells (z16.map bv).toArray 5)) (.cells #[.string ⟨z16.toArray⟩, .string ⟨#[0]⟩, .string ⟨#[]⟩, .string ⟨#[]⟩] 9)
      have R7 := (((Below.refl wc.heap.size wc).alloc (Nat.le_refl _) (.cells (z16.map bv).toArray 5)).alloc (by simp) (.cells #[.string ⟨z16.toArray⟩, .string ⟨#[0]⟩, .string ⟨#[]⟩, .string ⟨#[]⟩] 9)).block _ (lt_of_block R6)
      rw [R6] at R7
      have T7 := Row.new (wc.alloc (.cells (z16.map bv).toArray 5)) 9 #[.string ⟨z16.toArray⟩, .string ⟨#[0]⟩, .string ⟨#[]⟩, .string ⟨#[]⟩]
      rw [show (wc.alloc (.cells (z16.map bv).toArray 5)).heap.size = wc.heap.size + 1 by simp] at T7
      obtain ⟨w7, hw7⟩ : ∃ w7, (wc.alloc (.cells (z16.map bv).toArray 5)).alloc (.cells #[.string ⟨z16.toArray⟩, .string ⟨#[0]⟩, .string ⟨#[]⟩, .string ⟨#[]⟩] 9) = w7 := ⟨_, rfl⟩
      rw [hw7] at HB7 R7 T7 ⊢
      clear hw7 HB6 R6 hs16 hmk16
      have r1 : Row (w7.alloc (.cells (z12.map bv).toArray 5)) w7.heap.size 5 (z12.map bv) := by simpa using Row.new w7 5 (z12.map bv).toArray
      have r3 : Row ((w7.alloc (.cells (z12.map bv).toArray 5)).alloc (.cells (z12.map bv).toArray 5)) (w7.heap.size + 1) 5 (z12.map bv) := by simpa using Row.new (w7.alloc (.cells (z12.map bv).toArray 5)) 5 (z12.map bv).toArray
      have r2 := r1.alloc (.cells (z12.map bv).toArray 5)
      have f1 := run_string (P := Tryd.prog) (w := (w7.alloc (.cells (z12.map bv).toArray 5)).drew) 55 9 5 Tryd.underlying55 Tryd.underlying5 Tryd.underlying9 w7.heap.size 12 12 z12 HL12.out.symm r1
      have f2 := run_string (P := Tryd.prog) (w := ((w7.alloc (.cells (z12.map bv).toArray 5)).alloc (.cells (z12.map bv).toArray 5)).drew) 55 9 5 Tryd.underlying55 Tryd.underlying5 Tryd.underlying9 w7.heap.size 12 12 z12 HL12.out.symm r2
      have f3 := run_string (P := Tryd.prog) (w := ((w7.alloc (.cells (z12.map bv).toArray 5)).alloc (.cells (z12.map bv).toArray 5)).drew) 55 9 5 Tryd.underlying55 Tryd.underlying5 Tryd.underlying9 (w7.heap.size + 1) 12 12 z12 HL12.out.symm r3
      have g1 := fun n => run_string (P := Tryd.prog) (w := (w7.alloc (.cells (z12.map bv).toArray 5)).drewN n) 55 9 5 Tryd.underlying55 Tryd.underlying5 Tryd.underlying9 w7.heap.size 12 12 z12 HL12.out.symm r1
      have g2 := fun n => run_string (P := Tryd.prog) (w := ((w7.alloc (.cells (z12.map bv).toArray 5)).alloc (.cells (z12.map bv).toArray 5)).drewN n) 55 9 5 Tryd.underlying55 Tryd.underlying5 Tryd.underlying9 w7.heap.size 12 12 z12 HL12.out.symm r2
      have g3 := fun n => run_string (P := Tryd.prog) (w := ((w7.alloc (.cells (z12.map bv).toArray 5)).alloc (.cells (z12.map bv).toArray 5)).drewN n) 55 9 5 Tryd.underlying55 Tryd.underlying5 Tryd.underlying9 (w7.heap.size + 1) 12 12 z12 HL12.out.symm r3
      clear r1 r2 r3 hs12
      go_cut [12] (fun s12 wy => s12 = .slice (some ⟨w7.heap.size + 1 + 1, 0, none⟩) 4 4 ∧ wy = (((w7.alloc (.cells (z12.map bv).toArray 5)).alloc (.cells (z12.map bv).toArray 5)).alloc (.cells #[.string ⟨#[]⟩, .string ⟨#[]⟩, .string ⟨z12.toArray⟩, .string ⟨z12.toArray⟩] 9)).drew)
      case first =>
        go_region
        all_goals
          go_wp2
          go_meet
          exact ⟨rfl, rfl⟩
      case rest =>
        obtain ⟨rfl, rfl⟩ := hcut
        have hb8 : Below w7.heap.size w7 (((w7.alloc (.cells (z12.map bv).toArray 5)).alloc (.cells (z12.map bv).toArray 5)).alloc (.cells #[.string ⟨#[]⟩, .string ⟨#[]⟩, .string ⟨z12.toArray⟩, .string ⟨z12.toArray⟩] 9)).drew := below_drew (below_alloc (below_alloc (below_alloc (Below.refl _ _) _) _) _)
        have T8 := Row.new ((w7.alloc (.cells (z12.map bv).toArray 5)).alloc (.cells (z12.map bv).toArray 5)) 9 #[.string ⟨#[]⟩, .string ⟨#[]⟩, .string ⟨z12.toArray⟩, .string ⟨z12.toArray⟩]
        rw [show ((w7.alloc (.cells (z12.map bv).toArray 5)).alloc (.cells (z12.map bv).toArray 5)).heap.size = w7.heap.size + 1 + 1 by simp] at T8
        have T8 := T8.drew
        have T7 := T7.below hb8 T7.lt
        have R8 := (hb8.block _ (lt_of_block R7)).trans R7
        have HB8 := HB7.trans (hb8.mono HB7.size)
        obtain ⟨w8, hw8⟩ : ∃ w8, (((w7.alloc (.cells (z12.map bv).toArray 5)).alloc (.cells (z12.map bv).toArray 5)).alloc (.cells #[.string ⟨#[]⟩, .string ⟨#[]⟩, .string ⟨z12.toArray⟩, .string ⟨z12.toArray⟩] 9)).drew = w8 := ⟨_, rfl⟩
        rw [hw8] at T8 T7 R8 HB8 ⊢
        clear hw8 hb8 f1 f2 f3 g1 g2 g3 hmk12 R7 HB7
        obtain ⟨_, _, y2, y3, y4, y5, _, _⟩ := zero_cells R8
        have d7 := T7.cell (i := j) (v := .string ⟨(zd j).toArray⟩) (by rw [← HZ16.out]; obtain rfl | rfl | rfl | rfl : j = 0 ∨ j = 1 ∨ j = 2 ∨ j = 3 := by omega
                                                                        all_goals rfl)
        have d8 := T8.cell (i := j) (v := .string ⟨(ze j).toArray⟩) (by rw [← HZ12.out]; obtain rfl | rfl | rfl | rfl : j = 0 ∨ j = 1 ∨ j = 2 ∨ j = 3 := by omega
                                                                        all_goals rfl)
        have hj4 : (j : Int) < 4 := by omega
        clear T7 T8 R8
        go_upto_region 16 with (fail)
        go_quiet (fail)
        go_wp2
        go_ret
        exact ⟨rfl, below_drewN HB8 _⟩
end Go.Proofs.YtlllflacnlgigaaDoor
