/- Chapter 7: the walks of ValueForms, ValueTable. -/
import Derived.Test.YtlllflacnlgigaaDoorAwake7
namespace Go.Proofs.YtlllflacnlgigaaDoor
open Go.RowKit
set_option linter.unusedVariables false
set_option linter.unusedSimpArgs false

theorem modN (a : Int) (M : Nat) (h0 : 0 < M) (h : M ≤ 4611686018427387904) : ∃ i : Nat, i < M ∧ wrap64 ((IntKind.u64.wrap a).tmod (M : Int)) = (i : Int) := by
  have hw : IntKind.u64.wrap a = a % 18446744073709551616 := by simp [IntKind.wrap, IntKind.bits, IntKind.signed]
  have h1 := Int.emod_nonneg (a % 18446744073709551616) (b := (M : Int)) (by omega)
  have h2 := Int.emod_lt_of_pos (a % 18446744073709551616) (b := (M : Int)) (by omega)
  have h3 : (a % 18446744073709551616).tmod (M : Int) = (a % 18446744073709551616) % (M : Int) := Int.tmod_eq_emod_of_nonneg (Int.emod_nonneg _ (by decide))
  rw [hw, h3]
  refine ⟨((a % 18446744073709551616) % (M : Int)).toNat, by omega, ?_⟩
  rw [Int.toNat_of_nonneg h1]
  simp only [wrap64]
  omega
/-- A cell of a row of literals. -/
theorem lit_cell (w : World) (t : TypeId) (cs : Array Value) (n j : Nat) (v : Value) (hn : w.heap.size = n) (hv : cs[j]? = some v) : (w.alloc (.cells cs t)).cell? ⟨n, j, none⟩ = some v := by
  subst hn
  exact (Row.new w t cs).cell (i := j) (by rw [Array.getElem?_toList]; exact hv)

def forms7 : List Vp.Txt := [[], [120], [105], [105, 59], [105, 45, 59], [105, 45, 48, 59], [105, 48, 48, 59], [105, 48, 49, 59], [105, 49], [105, 32, 49, 59], [105, 57, 50, 50, 51, 51, 55, 50, 48, 51, 54, 56, 53, 52, 55, 55, 53, 56, 48, 56, 59], [105, 45, 57, 50, 50, 51, 51, 55, 50, 48, 51, 54, 56, 53, 52, 55, 55, 53, 56, 48, 57, 59], [115], [115, 49, 58], [115, 49, 58, 97, 98], [115, 45, 49, 58], [115, 48, 49, 58, 97], [115, 50, 58, 97], [91], [93], [91, 110], [91, 110, 93, 93], [123, 110, 93], [91, 125], [110, 110], [116, 102], [91, 91, 91, 91, 91, 110, 93, 93, 93, 93, 93], [123, 123, 123, 123, 123, 123, 125, 125, 125, 125, 125, 125], [91, 91, 91, 91, 91, 91, 93, 93, 93, 93, 93, 93], [115, 57, 57, 57, 57, 57, 58, 97]]
theorem forms7_all : ∀ j : Fin 30, Vp.parts (forms7.getD j.val []) = (0, [], 700) ∧ (forms7.getD j.val []).length ≤ 65536 := by decide +kernel
theorem parts_no (l : List UInt8) (W : World) (hv : Vars W) (hl : l.length ≤ 65536) (hp : Vp.parts l = (0, [], 700)) :
    Calls Tryd.prog 14 #[.string ⟨l.toArray⟩] W fun e w' => ∃ a c, e = .returned (.tuple #[.int .i64 0, .slice a 0 c, .int .i64 700]) ∧ Below W.heap.size W w' := by
  have h := parts_calls l W hv (by omega)
  rw [hp] at h
  refine h.mono fun e w' ⟨r, he, ho, hb⟩ => ?_
  obtain ⟨a, c, hr⟩ := own_slice ho
  exact ⟨a, c, by rw [he, hr]; rfl, hb⟩

set_option maxHeartbeats 800000 in
set_option maxRecDepth 100000 in
theorem valueForms_walk (a0 : Int) (W : World) (hv : Vars W) (h0 : (Lit.int .i64 a0).wf = true) :
    Calls Tryd.prog 4 #[.int .i64 a0] W fun e w' => e = .returned (.bool true) ∧ Below W.heap.size W w' := by
  obtain ⟨j, hj, he⟩ := modN a0 30 (by decide) (by decide)
  obtain ⟨v, hv1⟩ : ∃ v, forms7[j]? = some v := ⟨_, List.getElem?_eq_getElem (show j < 30 from hj)⟩
  have hd := forms7_all ⟨j, hj⟩
  rw [List.getD_eq_getElem?_getD, hv1, Option.getD_some] at hd
  have hcell := fun w : World => lit_cell w 9 (forms7.map tv).toArray w.heap.size j (tv v) rfl (by rw [List.getElem?_toArray, List.getElem?_map, hv1]; rfl)
  have HC := Lib.hid hcell
  have HD := Lib.hid hd.1
  have HL := Lib.hid hd.2
  clear hcell hd hv1 h0
  rw [show ((30 : Nat) : Int) = 30 from rfl] at he
  have HE := Lib.hid he
  clear he
  go_enter Tryd.func4, Tryd.ntmps4
  go_wp2_with (fail)
  refine (awake7_calls W hv).mono ?_; rintro e w1 ⟨rfl, HB⟩
  have he := HE.out
  have hc1 := HC.out w1
  have hb1 := below_alloc HB (.cells (forms7.map tv).toArray 9)
  simp only [forms7, tv, List.map_cons, List.map_nil, List.toArray] at hc1 hb1
  clear he hc1
  have hc1 := HC.out w1
  simp only [forms7, tv, List.map_cons, List.map_nil, List.toArray] at hc1
  have he := HE.out
  go_wp2_with (fail)
  refine (parts_no v _ (hv.below hb1 hv.six) HL.out HD.out).mono ?_; rintro e w2 ⟨a, c, rfl, hb⟩
  replace HB := below_then hb1 hb
  clear hc1 he hb hb1
  go_wp2_with (fail)
  refine (num_calls _ _).mono ?_; rintro e w' ⟨rfl, rfl⟩
  go_wp2
  go_ret
  exact ⟨rfl, HB⟩

def table7 : List Vp.Txt := [[110], [105, 48, 59], [105, 45, 57, 50, 50, 51, 51, 55, 50, 48, 51, 54, 56, 53, 52, 55, 55, 53, 56, 48, 56, 59], [105, 57, 50, 50, 51, 51, 55, 50, 48, 51, 54, 56, 53, 52, 55, 55, 53, 56, 48, 55, 59], [116], [102], [115, 48, 58], [115, 50, 58, 93, 110], [91, 93], [123, 125], [91, 110, 105, 53, 59, 93], [123, 91, 93, 115, 49, 58, 125, 116, 125], [91, 91, 91, 91, 110, 93, 93, 93, 93], [91, 91, 91, 91, 91, 110, 93, 93, 93, 93, 93]]
def kinds7 : List Int := [-1, 0, 0, 0, 1, 1, 2, 2, 3, 4, 3, 4, 3, 0]
def many7 : List Nat := [0, 1, 1, 1, 1, 1, 1, 1, 0, 0, 2, 3, 1, 0]
theorem table7_all : ∀ j : Fin 13, (Vp.parts (table7.getD j.val [])).2.2 = 0 ∧ (Vp.parts (table7.getD j.val [])).1 = kinds7.getD j.val 0 ∧ (Vp.parts (table7.getD j.val [])).2.1.length = many7.getD j.val 0 ∧ (table7.getD j.val []).length ≤ 65536 := by decide +kernel
theorem table7_last : Vp.parts (table7.getD 13 []) = (0, [], 700) ∧ (table7.getD 13 []).length ≤ 65536 := by decide +kernel
theorem parts_len_calls (l : List UInt8) (k : Int) (n : Nat) (W : World) (hv : Vars W) (hl : l.length ≤ 65536) (h0 : (Vp.parts l).2.2 = 0) (h1 : (Vp.parts l).1 = k) (h2 : (Vp.parts l).2.1.length = n) :
    Calls Tryd.prog 14 #[.string ⟨l.toArray⟩] W fun e w' => ∃ a c, e = .returned (.tuple #[.int .i64 k, .slice a n c, .int .i64 0]) ∧ Below W.heap.size W w' := by
  have h := parts_calls l W hv (by omega)
  rw [h0, h1, h2] at h
  refine h.mono fun e w' ⟨r, he, ho, hb⟩ => ?_
  obtain ⟨a, c, hr⟩ := own_slice ho
  exact ⟨a, c, by rw [he, hr], hb⟩

set_option maxHeartbeats 1600000 in
set_option maxRecDepth 100000 in
theorem valueTable_walk (a0 : Int) (W : World) (hv : Vars W) (h0 : (Lit.int .i64 a0).wf = true) :
    Calls Tryd.prog 5 #[.int .i64 a0] W fun e w' => e = .returned (.bool true) ∧ Below W.heap.size W w' := by
  obtain ⟨j, hj, he⟩ := modN a0 14 (by decide) (by decide)
  obtain ⟨v, hv1⟩ : ∃ v, table7[j]? = some v := ⟨_, List.getElem?_eq_getElem (show j < 14 from hj)⟩
  obtain ⟨k, hk1⟩ : ∃ v, kinds7[j]? = some v := ⟨_, List.getElem?_eq_getElem (show j < 14 from hj)⟩
  obtain ⟨m, hm1⟩ : ∃ v, many7[j]? = some v := ⟨_, List.getElem?_eq_getElem (show j < 14 from hj)⟩
  have HCv := Lib.hid (show ∀ h : j < (table7.map tv).length, (table7.map tv)[j] = tv v from fun h => by
    have : (table7.map tv)[j]? = some (tv v) := by rw [List.getElem?_map, hv1]; rfl
    rw [List.getElem?_eq_getElem h] at this
    exact Option.some.inj this)
  have HK := Lib.hid (show (kinds7.map (Value.int .i64)).toArray.toList[j]? = some (.int .i64 k) by rw [List.getElem?_map, hk1]; rfl)
  have HM := Lib.hid (show (many7.map (fun n : Nat => Value.int .i64 (n : Int))).toArray.toList[j]? = some (.int .i64 (m : Int)) by rw [List.getElem?_map, hm1]; rfl)
  have HE := Lib.hid (show wrap64 ((IntKind.u64.wrap a0).tmod 14) = (j : Int) from he)
  have hd : j ≠ 13 → (Vp.parts v).2.2 = 0 ∧ (Vp.parts v).1 = k ∧ (Vp.parts v).2.1.length = m ∧ v.length ≤ 65536 := fun h13 => by
    have := table7_all ⟨j, by omega⟩
    simp only [List.getD_eq_getElem?_getD, hv1, hk1, hm1, Option.getD_some] at this
    exact this
  have hd2 : j = 13 → Vp.parts v = (0, [], 700) ∧ v.length ≤ 65536 := fun h13 => by
    have := table7_last
    subst h13
    simp only [List.getD_eq_getElem?_getD, hv1, Option.getD_some] at this
    exact this
  have HD := Lib.hid hd
  have HD2 := Lib.hid hd2
  have hmb : m ≤ 65536 := by
    have h : ∀ x ∈ many7, x ≤ 65536 := by decide
    exact h m (List.mem_of_getElem? hm1)
  clear hd hd2 hv1 hk1 hm1 he h0
  by_cases h13 : j = 13
  · have H13 := Lib.hid (show ((j : Int) == 13) = true by simp [h13])
    have HP := Lib.hid (HD2.out h13).1
    have HL := Lib.hid (HD2.out h13).2
    clear HD2 HD HK HM h13
    go_enter Tryd.func5, Tryd.ntmps5
    go_wp2_with (fail)
    refine (awake7_calls W hv).mono ?_; rintro e w1 ⟨rfl, HB⟩
    have hcv := HCv.out
    have he := HE.out
    have hb1 := below_alloc (below_alloc (below_alloc HB (.cells (table7.map tv).toArray 9)) (.cells (kinds7.map (Value.int .i64)).toArray 3)) (.cells (many7.map (fun n : Nat => Value.int .i64 (n : Int))).toArray 3)
    simp only [table7, kinds7, many7, tv, List.map_cons, List.map_nil] at hcv hb1
    replace hcv := Lib.hid hcv
    go_wp2_with (fail)
    rw [hcv.out (by simp; omega)]
    refine (parts_no v _ (hv.below hb1 hv.six) HL.out HP.out).mono ?_; rintro e w2 ⟨a, c, rfl, hb⟩
    replace HB := below_then hb1 hb
    clear hcv hb1
    have h13' := H13.out
    go_wp2_with (fail)
    refine (num_calls _ _).mono ?_; rintro e w' ⟨rfl, rfl⟩
    go_wp2
    go_ret
    exact ⟨rfl, HB⟩
  · have h13' : ((j : Int) == 13) = false := by rw [beq_eq_false_iff_ne]; omega
    replace HD := Lib.hid (HD.out h13)
    clear HD2 h13
    go_enter Tryd.func5, Tryd.ntmps5
    go_wp2_with (fail)
    refine (awake7_calls W hv).mono ?_; rintro e w1 ⟨rfl, HB⟩
    have hcv := HCv.out
    have he := HE.out
    have hb1 := below_alloc (below_alloc (below_alloc HB (.cells (table7.map tv).toArray 9)) (.cells (kinds7.map (Value.int .i64)).toArray 3)) (.cells (many7.map (fun n : Nat => Value.int .i64 (n : Int))).toArray 3)
    have hck := ((Row.new (w1.alloc (.cells (table7.map tv).toArray 9)) 3 (kinds7.map (Value.int .i64)).toArray).alloc (.cells (many7.map (fun n : Nat => Value.int .i64 (n : Int))).toArray 3))
    have hcm := Row.new ((w1.alloc (.cells (table7.map tv).toArray 9)).alloc (.cells (kinds7.map (Value.int .i64)).toArray 3)) 3 (many7.map (fun n : Nat => Value.int .i64 (n : Int))).toArray
    replace hck := Lib.hid hck
    replace hcm := Lib.hid hcm
    simp only [table7, kinds7, many7, tv, List.map_cons, List.map_nil] at hcv hb1
    replace hcv := Lib.hid hcv
    go_wp2_with (fail)
    rw [hcv.out (by simp; omega)]
    refine (parts_len_calls v k m _ (hv.below hb1 hv.six) HD.out.2.2.2 HD.out.1 HD.out.2.1 HD.out.2.2.1).mono ?_; rintro e w2 ⟨a, c, rfl, hb⟩
    replace HB := below_then hb1 hb
    have ck := (hck.out.below hb (by simp)).cell (i := j) (v := .int .i64 k) HK.out
    have cm := (hcm.out.below hb (by simp)).cell (i := j) (v := .int .i64 (m : Int)) HM.out
    have hs1 : (w1.alloc (.cells (table7.map tv).toArray 9)).heap.size = w1.heap.size + 1 := by simp
    have hs2 : ((w1.alloc (.cells (table7.map tv).toArray 9)).alloc (.cells (kinds7.map (Value.int .i64)).toArray 3)).heap.size = w1.heap.size + 1 + 1 := by simp
    rw [hs1] at ck
    rw [hs2] at cm
    clear hcv hb1 hs1 hs2
    go_wp2_with (fail)
    refine (num_calls _ _).mono ?_; rintro e w' ⟨rfl, rfl⟩
    go_wp2
    go_ret
    exact ⟨rfl, HB⟩
end Go.Proofs.YtlllflacnlgigaaDoor
