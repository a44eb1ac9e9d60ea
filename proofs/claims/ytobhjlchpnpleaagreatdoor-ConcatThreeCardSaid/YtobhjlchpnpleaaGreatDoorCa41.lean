/- Several texts in one: RefArrH, RefValH, RdE, ConcA, ConcB, AwPure, Aw12. -/
import Derived.Test.YtobhjlchpnpleaaGreatDoorCa37
import Derived.Test.YtobhjlchpnpleaaGreatDoorCa38
import Derived.Test.YtobhjlchpnpleaaGreatDoorCa39
import Derived.Test.YtobhjlchpnpleaaGreatDoorCa40
import Derived.Test.YtobhjlchpnpleaaGreatDoorCa34
import Derived.Test.YtobhjlchpnpleaaGreatDoorCa32
import Derived.Test.YtobhjlchpnpleaaGreatDoorCa27
import Derived.Test.YtobhjlchpnpleaaGreatDoorCa2
import Derived.Laws.ResultCell
/- The reference's ArrayMay, walked: the whole. -/
namespace Go.Proofs.YtobhjlchpnpleaaGreatDoor
open Go.RowKit
set_option linter.unusedVariables false
set_option linter.unusedSimpArgs false

theorem refMay_none (ns : List Tp.Nd) (l f n : Int) (v e d : Vp.Txt) (ks : List Arr) (x : Int) (k vv : Value) (W : World) (hih : ∀ a ∈ ks, RefMayOK ns (SizeOf.sizeOf a + 1)) (hk : KidsAt W ks k) (hn : NodesAt W vv ns)
  (hc : (Tp.node ns x && numsOk f n v e d) = true ∧ (validOk ns x.toNat f n v = true ∧ (l ≠ 0 ∧ (Vp.oneOk ns x.toNat e ks && Vp.mayAll ns ks [x.toNat]) = false))) :
  Calls Tryz.prog 26 #[typeV vv, .int .i64 x, arrV l f n v e d k] W fun e' w' => e' = .returned (.bool (mayX ns (.mk l f n v e d ks) x)) ∧ Below W.heap.size W w' := by
 by_cases h1 : Tp.inner (Tp.kindOf ns x.toNat) = false ∧ ks.length = 1
 ·by_cases h2 : e = [] ∧ (Vp.kid0 ks).lay = 0
  ·exact refMay_noC ns l f n v e d ks x k vv W hih hk hn hc ⟨h1.1, h1.2, h2.1, h2.2⟩
  ·exact refMay_noB ns l f n v e d ks x k vv W hih hk hn hc ⟨h1, h2⟩
 ·exact refMay_noA ns l f n v e d ks x k vv W hih hk hn hc h1
theorem refMay_succ (ns : List Tp.Nd) (N : Nat) (ih : RefMayOK ns N) : RefMayOK ns (N + 1) := by
 intro a x u vv W hsz ha hn
 obtain ⟨l, f, n, v, e, d, ks⟩ := a
 obtain ⟨k, rfl, hk⟩ := ha
 have hih : ∀ a ∈ ks, RefMayOK ns (SizeOf.sizeOf a + 1) := fun a ha b y u' vv' W' hb => ih b y u' vv' W' (by have := List.sizeOf_lt_of_mem ha; simp only [Arr.mk.sizeOf_spec] at hsz; omega)
 by_cases hc : (Tp.node ns x && numsOk f n v e d) = true ∧ (validOk ns x.toNat f n v = true ∧ l ≠ 0)
 ·cases ho : (Vp.oneOk ns x.toNat e ks && Vp.mayAll ns ks [x.toNat]) with
  | false => exact refMay_none ns l f n v e d ks x k vv W hih hk hn ⟨hc.1, hc.2.1, hc.2.2, ho⟩
  | true => exact refMay_ok ns l f n v e d ks x k vv W hih hk hn ⟨hc.1, hc.2.1, hc.2.2, ho⟩
 ·exact refMay_early ns l f n v e d ks x k vv W hih hk hn hc
theorem refMay_all (ns : List Tp.Nd) : ∀ N, RefMayOK ns N
 | 0 => fun _ _ _ _ _ h => absurd h (Nat.not_lt_zero _)
 | N + 1 => refMay_succ ns N (refMay_all ns N)
theorem refArrayMay_calls (ns : List Tp.Nd) (a : Arr) (x : Int) (u vv : Value) (W : World) (ha : ArrAt W a u) (hn : NodesAt W vv ns) :
  Calls Tryz.prog 26 #[typeV vv, .int .i64 x, u] W fun e w' => e = .returned (.bool (mayX ns a x)) ∧ Below W.heap.size W w' :=
 refMay_all ns _ a x u vv W (Nat.lt_succ_self _) ha hn
end Go.Proofs.YtobhjlchpnpleaaGreatDoor

/- The reference's Values, walked. -/
namespace Go.Proofs.YtobhjlchpnpleaaGreatDoor
open Go.RowKit
set_option linter.unusedVariables false
set_option linter.unusedSimpArgs false

/-- What Values answers. -/
def readV (ns : List Tp.Nd) (a : Arr) (x : Int) : List Vp.Txt := if mayX ns a x then Vp.valsA ns a x.toNat else []
set_option maxRecDepth 100000 in
set_option maxHeartbeats 3200000 in
theorem refValuesO_calls (ns : List Tp.Nd) (a : Arr) (x : Int) (u vv : Value) (W : World) (ha : ArrAt W a u) (hn : NodesAt W vv ns) :
  Calls Tryz.prog 20 #[typeV vv, .int .i64 x, u] W fun e w' => ∃ r, e = .returned (.tuple #[r, .int .i64 (if mayX ns a x then 0 else 900)]) ∧ w'.ownsRow W.heap.size 9 1 r (readV ns a x).length ((readV ns a x).map tv) ∧ Below W.heap.size W w' := by
 unfold readV
 obtain ⟨l, f, n, v, e, d, ks⟩ := a
 obtain ⟨k, rfl, hk⟩ := ha
 have hbk := below_alloc (below_alloc (Below.refl W.heap.size W) (.cells #[vv] 24)) (.cells #[.int .i64 l, .int .i64 f, .int .i64 n, .string ⟨v.toArray⟩, .string ⟨e.toArray⟩, .string ⟨d.toArray⟩, k] 27)
 have hn2 := hn.below hbk
 have hk2 := KidsAt.below hbk _ _ hk
 have C4 := (Below.heap_alloc (W.alloc (.cells #[vv] 24)) (.cells #[.int .i64 l, .int .i64 f, .int .i64 n, .string ⟨v.toArray⟩, .string ⟨e.toArray⟩, .string ⟨d.toArray⟩, k] 27) W.heap.size (by simp)).trans (heap_alloc_new W (.cells #[vv] 24))
 have C6 := heap_alloc_new (W.alloc (.cells #[vv] 24)) (.cells #[.int .i64 l, .int .i64 f, .int .i64 n, .string ⟨v.toArray⟩, .string ⟨e.toArray⟩, .string ⟨d.toArray⟩, k] 27)
 rw [show (W.alloc (.cells #[vv] 24)).heap.size = W.heap.size + 1 by simp] at C6
 obtain ⟨W2, hW2⟩ : ∃ W2, (W.alloc (.cells #[vv] 24)).alloc (.cells #[.int .i64 l, .int .i64 f, .int .i64 n, .string ⟨v.toArray⟩, .string ⟨e.toArray⟩, .string ⟨d.toArray⟩, k] 27) = W2 := ⟨_, rfl⟩
 rw [hW2] at hbk hn2 hk2 C4 C6
 rw [KidsAt] at hk
 obtain ⟨ka, kc, rfl, hkc1, hkc2, _⟩ := hk
 have HN := Lib.hid hn2
 have HK := Lib.hid hk2
 have HB := Lib.hid hbk
 have q4 := cell_of_one C4
 obtain ⟨x0, x1, x2, x3, x4, x5, x6, _⟩ := zero_cells C6
 clear hn hn2 hk2 hbk
 have HMC := Lib.hid (refArrayMay_calls ns (.mk l f n v e d ks) x (arrV l f n v e d (.slice ka ks.length kc)) vv W2 ⟨_, rfl, HK.out⟩ HN.out)
 cases hmx : mayX ns (.mk l f n v e d ks) x with
 | false =>
  rw [hmx] at HMC
  go_enter Tryz.func20, Tryz.ntmps20
  go_wp2_with (fail)
  refine HMC.out.mono ?_; rintro y w3 ⟨rfl, hb3⟩
  go_wp2
  go_ret2
  exact ⟨_, rfl, own_nil, HB.out.trans (hb3.mono HB.out.size)⟩
 | true =>
  rw [hmx] at HMC
  have hmx2 := hmx
  unfold mayX at hmx2
  rw [Bool.and_eq_true] at hmx2
  obtain ⟨hnd, hma⟩ := hmx2
  have hx0 : 0 ≤ x := by
   unfold Tp.node at hnd
   simp only [Bool.and_eq_true, decide_eq_true_eq] at hnd
   omega
  obtain ⟨i, rfl⟩ := Int.eq_ofNat_of_zero_le hx0
  rw [Int.toNat_natCast] at hma ⊢
  obtain ⟨_, _, hf0, hn0, hfn, _⟩ := mayA_nums hma
  obtain ⟨n, rfl⟩ := Int.eq_ofNat_of_zero_le hn0
  have HMA := Lib.hid hma
  have hn64 : n ≤ 64 := by omega
  clear hma hnd hx0 hmx
  go_enter Tryz.func20, Tryz.ntmps20
  go_wp2_with (fail)
  refine HMC.out.mono ?_; rintro y w3 ⟨rfl, hb3⟩
  have HB3 := HB.out.trans (hb3.mono HB.out.size)
  have C4' := (hb3.block _ (lt_of_block C4)).trans C4
  have C6' := (hb3.block _ (lt_of_block C6)).trans C6
  have HV := Lib.hid (fun q (hq : q < n) w' (h : Below w3.heap.size w3 w') => refValue_calls ns (.mk l f n v e d ks) i q (arrV l f n v e d (.slice ka ks.length kc)) vv w' HMA.out (show q < Int.toNat (n : Int) by rw [Int.toNat_natCast]; exact hq) ⟨_, rfl, KidsAt.below (below_then hb3 h) _ _ HK.out⟩ (HN.out.below (below_then hb3 h)))
  clear x0 x1 x2 x3 x4 x5 x6 q4 C4 C6 hb3 HMC
  go_wp2_with (fail)
  go_loopw [8, 9] (fun out ix wr => ∃ q : Nat, q ≤ n ∧ ix = .int .i64 (q : Int) ∧ wr.ownsRow w3.heap.size 9 1 out q (((List.range q).map fun j => Vp.rowA ns (.mk l f n v e d ks) i j).map tv) ∧ Below w3.heap.size w3 wr) (fun _ ix _ => n - (intOf ix).toNat)
  case atStart => exact ⟨0, Nat.zero_le _, rfl, own_nil, Below.refl _ _⟩
  case round =>
   obtain ⟨q, hq, rfl, hu, hbr⟩ := hrel
   have HO := Lib.hid hu
   clear hu
   have hsr := hbr.size
   have q4 := cell_of_one ((hbr.block _ (lt_of_block C4')).trans C4')
   obtain ⟨⟨x0, x1, x2, x3, x4, x5, x6⟩, _⟩ := box7 C6' hbr
   by_cases hlt : q < n
   ·have hqi : (q : Int) < (n : Int) := by omega
    go_wp2_with (fail)
    refine (HV.out q hlt _ hbr).mono ?_; rintro y w4 ⟨rfl, hb4⟩
    have hs4 := hb4.size
    have HO4 := own_below HO.out hb4
    clear x0 x1 x2 x3 x4 x5 x6 q4
    go_wp2_with (at_builtin; refine wp_app1 rfl _ _ 39 9 rfl w3.heap.size 16 (.string ⟨#[]⟩) Tryz.underlying39 info_string rfl _ _ _ rfl rfl rfl HO4 (by omega) (by omega) (by omega) ?_; intro v6 w6 ho6 hb6 hg6)
    refine ⟨⟨q + 1, by omega, by go_num, ?_, hbr.trans ((hb4.mono hsr).trans hb6)⟩, by simp [intOf]; omega⟩
    rw [List.range_succ, List.map_append, List.map_append]
    exact ho6
   ·obtain rfl : q = n := by omega
    go_wp2_with (fail)
    go_ret2
    refine ⟨_, rfl, own_mono_t (base := w3.heap.size) ?_ HB3.size, HB3.trans (hbr.mono HB3.size)⟩
    have e1 : Vp.valsA ns (.mk l f (q : Int) v e d ks) i = (List.range q).map fun j => Vp.rowA ns (.mk l f (q : Int) v e d ks) i j := rfl
    rw [e1, List.length_map, List.length_range]
    exact HO.out
end Go.Proofs.YtobhjlchpnpleaaGreatDoor

/- Package read: Values, walked. -/
namespace Go.Proofs.YtobhjlchpnpleaaGreatDoor
open Go.RowKit
set_option linter.unusedVariables false
set_option linter.unusedSimpArgs false

set_option maxRecDepth 100000 in
set_option maxHeartbeats 3200000 in
theorem readValues_calls (ns : List Tp.Nd) (a : Arr) (x : Int) (u vv : Value) (W : World) (ha : ArrAt W a u) (hn : NodesAt W vv ns) (hv : Vars W) :
  Calls Tryz.prog 36 #[typeV vv, .int .i64 x, u] W fun e w' => ∃ r, e = .returned (.tuple #[r, .int .i64 (if mayX ns a x then 0 else 900)]) ∧ w'.ownsRow W.heap.size 9 1 r (readV ns a x).length ((readV ns a x).map tv) ∧ Below W.heap.size W w' := by
 unfold readV
 obtain ⟨l, f, n, v, e, d, ks⟩ := a
 obtain ⟨k, rfl, hk⟩ := ha
 have hbk := below_alloc (below_alloc (Below.refl W.heap.size W) (.cells #[vv] 24)) (.cells #[.int .i64 l, .int .i64 f, .int .i64 n, .string ⟨v.toArray⟩, .string ⟨e.toArray⟩, .string ⟨d.toArray⟩, k] 27)
 have hn2 := hn.below hbk
 have hk2 := KidsAt.below hbk _ _ hk
 have C4 := (Below.heap_alloc (W.alloc (.cells #[vv] 24)) (.cells #[.int .i64 l, .int .i64 f, .int .i64 n, .string ⟨v.toArray⟩, .string ⟨e.toArray⟩, .string ⟨d.toArray⟩, k] 27) W.heap.size (by simp)).trans (heap_alloc_new W (.cells #[vv] 24))
 have C6 := heap_alloc_new (W.alloc (.cells #[vv] 24)) (.cells #[.int .i64 l, .int .i64 f, .int .i64 n, .string ⟨v.toArray⟩, .string ⟨e.toArray⟩, .string ⟨d.toArray⟩, k] 27)
 rw [show (W.alloc (.cells #[vv] 24)).heap.size = W.heap.size + 1 by simp] at C6
 obtain ⟨W2, hW2⟩ : ∃ W2, (W.alloc (.cells #[vv] 24)).alloc (.cells #[.int .i64 l, .int .i64 f, .int .i64 n, .string ⟨v.toArray⟩, .string ⟨e.toArray⟩, .string ⟨d.toArray⟩, k] 27) = W2 := ⟨_, rfl⟩
 rw [hW2] at hbk hn2 hk2 C4 C6
 have HVV := Lib.hid (hv.below hbk hv.six)
 have HSX := Lib.hid hv.six
 rw [KidsAt] at hk
 obtain ⟨ka, kc, rfl, hkc1, hkc2, _⟩ := hk
 have HN := Lib.hid hn2
 have HK := Lib.hid hk2
 have HB := Lib.hid hbk
 have q4 := cell_of_one C4
 obtain ⟨x0, x1, x2, x3, x4, x5, x6, _⟩ := zero_cells C6
 clear hn hn2 hk2 hbk hv
 have HMC := Lib.hid (arrMay_calls ns (.mk l f n v e d ks) x (arrV l f n v e d (.slice ka ks.length kc)) vv W2 ⟨_, rfl, HK.out⟩ HN.out)
 cases hmx : mayX ns (.mk l f n v e d ks) x with
 | false =>
  rw [hmx] at HMC
  go_enter Tryz.func36, Tryz.ntmps36
  go_wp2_with (fail)
  refine HMC.out.mono ?_; rintro y w3 ⟨rfl, hb3⟩
  go_wp2
  go_ret2
  exact ⟨_, rfl, own_nil, HB.out.trans (hb3.mono HB.out.size)⟩
 | true =>
  rw [hmx] at HMC
  have hmx2 := hmx
  unfold mayX at hmx2
  rw [Bool.and_eq_true] at hmx2
  obtain ⟨hnd, hma⟩ := hmx2
  have hx0 : 0 ≤ x := by
   unfold Tp.node at hnd
   simp only [Bool.and_eq_true, decide_eq_true_eq] at hnd
   omega
  obtain ⟨i, rfl⟩ := Int.eq_ofNat_of_zero_le hx0
  rw [Int.toNat_natCast] at hma ⊢
  obtain ⟨_, _, hf0, hn0, hfn, _⟩ := mayA_nums hma
  obtain ⟨n, rfl⟩ := Int.eq_ofNat_of_zero_le hn0
  have HMA := Lib.hid hma
  have hn64 : n ≤ 64 := by omega
  clear hma hnd hx0 hmx
  go_enter Tryz.func36, Tryz.ntmps36
  go_wp2_with (fail)
  refine HMC.out.mono ?_; rintro y w3 ⟨rfl, hb3⟩
  have HB3 := HB.out.trans (hb3.mono HB.out.size)
  have C4' := (hb3.block _ (lt_of_block C4)).trans C4
  have C6' := (hb3.block _ (lt_of_block C6)).trans C6
  have HCA := Lib.hid (show CellA w3 (W.heap.size + 1) 0 l f (n : Int) v e d (.slice ka ks.length kc) by
   obtain ⟨z0, z1, z2, z3, z4, z5, z6, _⟩ := zero_cells C6'
   exact ⟨z0, z1, z2, z3, z4, z5, z6⟩)
  have hl6 := lt_of_block C6'
  have HV := Lib.hid (fun q (hq : q < n) w' (h : Below w3.heap.size w3 w') => row_all ns _ (.mk l f n v e d ks) i q (W.heap.size + 1) 0 (.slice ka ks.length kc) vv w' (Nat.lt_succ_self _) HMA.out (show q < Int.toNat (n : Int) by rw [Int.toNat_natCast]; exact hq) (HCA.out.below h hl6) (Nat.lt_of_lt_of_le hl6 h.size) (KidsAt.below (below_then hb3 h) _ _ HK.out) (HN.out.below (below_then hb3 h)) (HVV.out.below (below_then hb3 h) (Nat.le_trans HSX.out HB.out.size)))
  clear q4 C4 C6 hb3 HMC x0 x1 x2 x3 x4 x5 x6
  obtain ⟨x0, x1, x2, x3, x4, x5, x6⟩ := HCA.out
  simp only [Nat.zero_add] at x0 x1 x2 x3 x4 x5 x6
  go_wp2_with (fail)
  clear x0 x1 x2 x3 x4 x5 x6
  go_loopw [8, 9, 17] (fun out _ ix wr => ∃ q : Nat, q ≤ n ∧ ix = .int .i64 (q : Int) ∧ wr.ownsRow w3.heap.size 9 1 out q (((List.range q).map fun j => Vp.rowA ns (.mk l f n v e d ks) i j).map tv) ∧ Below w3.heap.size w3 wr) (fun _ _ ix _ => n - (intOf ix).toNat)
  case atStart => exact ⟨0, Nat.zero_le _, rfl, own_nil, Below.refl _ _⟩
  case round =>
   obtain ⟨q, hq, rfl, hu, hbr⟩ := hrel
   have HO := Lib.hid hu
   clear hu
   have hsr := hbr.size
   have q4 := cell_of_one ((hbr.block _ (lt_of_block C4')).trans C4')
   obtain ⟨⟨x0, x1, x2, x3, x4, x5, x6⟩, _⟩ := box7 C6' hbr
   by_cases hlt : q < n
   ·have hqi : (q : Int) < (n : Int) := by omega
    go_wp2_with (fail)
    refine (HV.out q hlt _ hbr).mono ?_; rintro y w4 ⟨rfl, hb4⟩
    have hs4 := hb4.size
    have HO4 := own_below HO.out hb4
    clear x0 x1 x2 x3 x4 x5 x6 q4
    go_wp2_with (at_builtin; refine wp_app1 rfl _ _ 39 9 rfl w3.heap.size 16 (.string ⟨#[]⟩) Tryz.underlying39 info_string rfl _ _ _ rfl rfl rfl HO4 (by omega) (by omega) (by omega) ?_; intro v6 w6 ho6 hb6 hg6)
    refine ⟨⟨q + 1, by omega, by go_num, ?_, hbr.trans ((hb4.mono hsr).trans hb6)⟩, by simp [intOf]; omega⟩
    rw [List.range_succ, List.map_append, List.map_append]
    exact ho6
   ·obtain rfl : q = n := by omega
    go_wp2_with (fail)
    go_ret2
    refine ⟨_, rfl, own_mono_t (base := w3.heap.size) ?_ HB3.size, HB3.trans (hbr.mono HB3.size)⟩
    have e1 : Vp.valsA ns (.mk l f (q : Int) v e d ks) i = (List.range q).map fun j => Vp.rowA ns (.mk l f (q : Int) v e d ks) i j := rfl
    rw [e1, List.length_map, List.length_range]
    exact HO.out
end Go.Proofs.YtobhjlchpnpleaaGreatDoor

/- The reference's 'built', walked; what the kernels' walks share. -/
namespace Go.Proofs.YtobhjlchpnpleaaGreatDoor
open Go.RowKit
set_option linter.unusedVariables false
set_option linter.unusedSimpArgs false

theorem arrAt_bel {w w' : World} {a : Arr} {u : Value} (h : ArrAt w a u) (hb : Below w.heap.size w w') : ArrAt w' a u := by
 obtain ⟨l, f, n, v, e, d, ks⟩ := a
 obtain ⟨k, rfl, hk⟩ := h
 exact ⟨k, rfl, KidsAt.below hb _ _ hk⟩
theorem arrAt_open {w : World} {a : Arr} {u : Value} (h : ArrAt w a u) : ∃ ka kc, u = arrV a.lay a.off a.len a.valid a.ends a.data (.slice ka a.kids.length kc) ∧ KidsAt w a.kids (.slice ka a.kids.length kc) := by
 obtain ⟨l, f, n, v, e, d, ks⟩ := a
 obtain ⟨k, rfl, hk⟩ := h
 have hk' := hk
 rw [KidsAt] at hk'
 obtain ⟨ka, kc, rfl, _⟩ := hk'
 exact ⟨ka, kc, rfl, hk⟩
theorem may2_X (ns : List Tp.Nd) (a : Arr) (x : Int) : Vp.may2 ns a x = mayX ns a x := rfl
theorem blk2 (W : World) (p q : Obj) : ((W.alloc p).alloc q).heap[W.heap.size]? = some p ∧ ((W.alloc p).alloc q).heap[W.heap.size + 1]? = some q ∧ ((W.alloc p).alloc q).heap.size = W.heap.size + 2 ∧ Below W.heap.size W ((W.alloc p).alloc q) := by
 refine ⟨(Below.heap_alloc _ _ _ (by simp)).trans (heap_alloc_new W p), ?_, by simp, below_alloc (below_alloc (Below.refl _ _) _) _⟩
 have := heap_alloc_new (W.alloc p) q
 simpa using this
theorem blk3 (W : World) (p q r : Obj) : (((W.alloc p).alloc q).alloc r).heap[W.heap.size]? = some p ∧ (((W.alloc p).alloc q).alloc r).heap[W.heap.size + 1]? = some q ∧ (((W.alloc p).alloc q).alloc r).heap[W.heap.size + 2]? = some r ∧
  (((W.alloc p).alloc q).alloc r).heap.size = W.heap.size + 3 ∧ Below W.heap.size W (((W.alloc p).alloc q).alloc r) := by
 obtain ⟨h0, h1, h2, h3⟩ := blk2 W p q
 refine ⟨(Below.heap_alloc _ _ _ (by omega)).trans h0, (Below.heap_alloc _ _ _ (by omega)).trans h1, ?_, by simp, below_alloc h3 _⟩
 have := heap_alloc_new ((W.alloc p).alloc q) r
 rwa [h2] at this
theorem blk4 (W : World) (p q r s : Obj) : ((((W.alloc p).alloc q).alloc r).alloc s).heap[W.heap.size]? = some p ∧ ((((W.alloc p).alloc q).alloc r).alloc s).heap[W.heap.size + 1]? = some q ∧ ((((W.alloc p).alloc q).alloc r).alloc s).heap[W.heap.size + 2]? = some r ∧
  ((((W.alloc p).alloc q).alloc r).alloc s).heap[W.heap.size + 3]? = some s ∧ ((((W.alloc p).alloc q).alloc r).alloc s).heap.size = W.heap.size + 4 ∧ Below W.heap.size W ((((W.alloc p).alloc q).alloc r).alloc s) := by
 obtain ⟨h0, h1, h2, h3, h4⟩ := blk3 W p q r
 refine ⟨(Below.heap_alloc _ _ _ (by omega)).trans h0, (Below.heap_alloc _ _ _ (by omega)).trans h1, (Below.heap_alloc _ _ _ (by omega)).trans h2, ?_, by simp, below_alloc h4 _⟩
 have := heap_alloc_new (((W.alloc p).alloc q).alloc r) s
 rwa [h3] at this
theorem KidsOwn.below {w w' : World} {ks : List Arr} {A : Nat → Prop} {k : Value} (h : KidsOwn w A ks k) (hb : Below w.heap.size w w') : KidsOwn w' A ks k :=
 KidsOwn.same _ _ _ (fun g _ hc => by obtain ⟨cur, hc⟩ := hc; exact hb.block g (Array.getElem?_eq_some_iff.1 hc).1) h
/-- What is handed on out of a cell. -/
theorem built_own {W w : World} {A : Arr} {k : Value} {R : Nat} {er : Int} {x0 x1 x2 x3 x4 x5 x6 : Value} (hk : KidsOwn w (fun g => R < g) A.kids k) (hR : W.heap.size ≤ R) (hb : Below W.heap.size W (set7 w R x0 x1 x2 x3 x4 x5 x6)) :
  BuildR (A, er) W (.returned (.tuple #[.agg (arrC A.lay A.off A.len A.valid A.ends A.data k), .int .i64 er])) (set7 w R x0 x1 x2 x3 x4 x5 x6) := by
 refine ⟨_, rfl, ?_, hb⟩
 have h1 : KidsOwn (set7 w R x0 x1 x2 x3 x4 x5 x6) (fun g => R < g) A.kids k := KidsOwn.same _ _ _ (fun g hg _ => set7_far _ _ _ (by have : R < g := hg; omega) _ _ _ _ _ _ _) hk
 have h2 := KidsOwn.weak _ _ (fun g => W.heap.size ≤ g) k (fun g hg _ => by have : R < g := hg; exact Nat.le_trans hR (Nat.le_of_lt this)) h1
 obtain ⟨l, f, n, v, e, d, ks⟩ := A
 exact ⟨k, rfl, h2⟩
theorem built_own2 {W w : World} {A : Arr} {k : Value} {R : Nat} {er : Int} {x0 x1 x2 x3 x4 x5 x6 : Value} (hk : KidsOwn w (fun g => R < g) A.kids k) (hR : W.heap.size ≤ R) (hb : Below W.heap.size W (set7 w R x0 x1 x2 x3 x4 x5 x6)) (o : Obj) :
  BuildR (A, er) W (.returned (.tuple #[.agg (arrC A.lay A.off A.len A.valid A.ends A.data k), .int .i64 er])) ((set7 w R x0 x1 x2 x3 x4 x5 x6).alloc o) := by
 obtain ⟨u, he, ho, h⟩ := built_own (er := er) hk hR hb
 exact ⟨u, he, ho.below (below_alloc (Below.refl _ _) _), below_alloc h _⟩
end Go.Proofs.YtobhjlchpnpleaaGreatDoor

/- The reference's Concat, walked. -/
namespace Go.Proofs.YtobhjlchpnpleaaGreatDoor
open Go.RowKit
set_option linter.unusedVariables false
set_option linter.unusedSimpArgs false

theorem readV_len (ns : List Tp.Nd) (a : Arr) (x : Int) : (readV ns a x).length ≤ 64 := by
 unfold readV
 split
 ·rename_i h
  obtain ⟨i, rfl, _, _, hm⟩ := Vp.may2_iff (show Vp.may2 ns a x = true from h)
  have := Vp.may_bounds hm
  rw [Int.toNat_natCast, Vp.vals_length]
  omega
 ·simp
theorem readV_small (ns : List Tp.Nd) (a : Arr) (x : Int) : ∀ t ∈ readV ns a x, t.length ≤ 65536 := by
 unfold readV
 split
 ·rename_i h
  obtain ⟨i, rfl, _, _, hm⟩ := Vp.may2_iff (show Vp.may2 ns a x = true from h)
  intro t ht
  rw [Int.toNat_natCast] at ht
  exact Vp.fit_len (Vp.vals_fit hm t ht)
 ·intro t ht; cases ht
theorem readV_yes {ns : List Tp.Nd} {a : Arr} {x : Int} (h : mayX ns a x = true) : readV ns a x = Vp.valsA ns a x.toNat := by
 unfold readV
 rw [if_pos h]
theorem concR_yes {ns : List Tp.Nd} {a b : Arr} {x : Int} (h : mayX ns a x = true) (k : mayX ns b x = true) : Vp.concR ns x a b = Vp.fulR ns x (readV ns a x ++ readV ns b x) 1201 := by
 unfold Vp.concR
 rw [may2_X, may2_X, h, k, readV_yes h, readV_yes k]
 rfl
theorem concR_no {ns : List Tp.Nd} {a b : Arr} {x : Int} (h : (mayX ns a x && mayX ns b x) = false) : Vp.concR ns x a b = (Arr.none, 1200) := by
 unfold Vp.concR
 rw [may2_X, may2_X, h]
 rfl
end Go.Proofs.YtobhjlchpnpleaaGreatDoor

/- The inputs at which every program of chapters 12 to 18 is tried, and what they give, in plain Lean. -/
namespace Go.Proofs.YtobhjlchpnpleaaGreatDoor
set_option linter.unusedVariables false

def tyI : List Tp.Nd := [⟨0, -1, true⟩]
def inI : List Vp.Txt := [[105, 53, 59], [110], [105, 55, 59], [105, 55, 59]]
def gvI : Arr := (Vp.buildR tyI 0 inI).1
def badI : Arr := .mk 0 0 1 [] [] [] []
set_option maxRecDepth 100000 in
theorem gvI_ok : (Vp.buildR tyI 0 inI).2 = 0 := by kernel_rfl
theorem info_type_sz : (Tryz.prog.info? 24).map (·.size) = some 1 := by kernel_rfl
set_option maxRecDepth 100000 in
theorem aw12_a : (Vp.concR tyI 0 gvI gvI).2 = 0 := by kernel_rfl
set_option maxRecDepth 100000 in
theorem aw12_b : (Vp.concR tyI 0 gvI badI).2 = 1200 := by kernel_rfl
set_option maxRecDepth 100000 in
theorem aw12_c : readV tyI (Vp.concR tyI 0 gvI gvI).1 0 = inI ++ inI := by kernel_rfl
end Go.Proofs.YtobhjlchpnpleaaGreatDoor

/- Chapter 12: the law's own inputs: ints, given, vals, walked. -/
namespace Go.Proofs.YtobhjlchpnpleaaGreatDoor
open Go.RowKit
set_option linter.unusedVariables false
set_option linter.unusedSimpArgs false

set_option maxRecDepth 100000 in
theorem ints12_calls (W : World) : Calls Tryz.prog 24 #[] W fun e w' => ∃ u, e = .returned (typeV u) ∧ NodesAt w' u tyI ∧ Below W.heap.size W w' := by
 go_enter Tryz.func24, Tryz.ntmps24
 go_wp2
 (try simp only [Exit.inBlock, Exit.then])
 refine bodyPost_ret (results_cell_row rfl _ _ W.heap.size 24 #[.slice (some ⟨W.heap.size + 1, 0, none⟩) 1 1] (0, 0) _ rfl ((Below.heap_alloc _ _ _ (by simp)).trans (heap_alloc_new _ _)) Tryz.underlying24 rfl info_type_sz) rfl ?_
 refine ⟨_, rfl, ⟨_, 1, rfl, by simp [tyI], by decide, fun _ => ⟨W.heap.size + 1, 0, rfl, by simp, fun j x hj => ?_⟩⟩, below_alloc (below_alloc (Below.refl _ _) _) _⟩
 match j, hj with
 | 0, hj => simp [tyI] at hj; subst hj; simp
 | j + 1, hj => simp [tyI] at hj
set_option maxRecDepth 100000 in
set_option maxHeartbeats 1600000 in
theorem given12_calls (W : World) : Calls Tryz.prog 39 #[] W fun e w' => ∃ u, e = .returned u ∧ ArrAt w' gvI u ∧ Below W.heap.size W w' := by
 have hb0 := below_alloc (Below.refl W.heap.size W) (.cells (arrC 0 0 0 [] [] [] (.slice none 0 0)) 27)
 have HI := Lib.hid (fun W => ints12_calls W)
 go_enter Tryz.func39, Tryz.ntmps39
 go_wp2_with (fail)
 refine (HI.out _).mono ?_; rintro e w1 ⟨vv, rfl, hn1, hb1⟩
 have HB1 := Lib.hid (below_then hb0 hb1)
 have hR1 := (hb1.block W.heap.size (by simp)).trans (heap_alloc_new W _)
 have HN1 := Lib.hid hn1
 have HHR := Lib.hid hR1
 clear hb1 hn1 hb0
 go_wp2_with (fail)
 have hb2 := below_alloc (Below.refl w1.heap.size w1) (.cells #[.string ⟨#[105, 53, 59]⟩, .string ⟨#[110]⟩, .string ⟨#[105, 55, 59]⟩, .string ⟨#[105, 55, 59]⟩] 9)
 refine (refBuildR_calls _ vv tyI 0 inI _ (HN1.out.below hb2) (texts_at w1 _ _ 4 inI (by omega) rfl rfl (by decide)) (by decide) (by decide)).mono ?_
 rintro e w2 ⟨u, he, ho, hb3⟩
 rw [gvI_ok] at he
 subst he
 obtain ⟨k, ac, cc, rfl, rfl, hk⟩ := ho.value
 have hb4 := below_then hb2 hb3
 have HB2 := Lib.hid (below_then HB1.out hb4)
 have hR2 := (hb4.block _ (lt_of_block HHR.out)).trans HHR.out
 have HR2 := Lib.hid hR2
 obtain ⟨r0, r1, r2, r3, r4, r5, r6, p0, p1, p2, p3, p4, p5, p6⟩ := zero_cells hR2
 have hlt2 : W.heap.size < w2.heap.size := lt_of_block hR2
 have HK := Lib.hid (KidsOwn.weak _ _ (fun g => W.heap.size < g) _ (fun g hg _ => Nat.lt_of_lt_of_le (Nat.lt_of_lt_of_le (lt_of_block HHR.out) (by simp)) hg) hk)
 clear hk ho hb2 hb3 hb4 hR2 hR1
 go_wp2
 (try simp only [Exit.inBlock, Exit.then])
 have hG : (Vp.buildR tyI 0 inI).1 = gvI := rfl
 rw [hG] at HK ⊢
 refine bodyPost_ret (results_cell_row rfl _ _ W.heap.size 27 (arrC gvI.lay gvI.off gvI.len gvI.valid gvI.ends gvI.data (.slice ac gvI.kids.length cc)) (0, 0) _ rfl ((Below.heap_alloc _ _ _ (by rw [set7_size]; omega)).trans (set7_at HR2.out _ _ _ _ _ _ _)) Tryz.underlying27 rfl info_array_size) rfl ?_
 obtain ⟨u', he', ho', hb'⟩ := built_own2 (er := 0) HK.out (Nat.le_refl _) (below_set7 HB2.out (Nat.le_refl _) _ _ _ _ _ _ _) _
 have hu : u' = .agg (arrC gvI.lay gvI.off gvI.len gvI.valid gvI.ends gvI.data (.slice ac gvI.kids.length cc)) := by
  have := he'
  simp only [Ending.returned.injEq, Value.tuple.injEq] at this
  simpa using this.symm
 subst hu
 exact ⟨_, rfl, ho'.at, hb'⟩
set_option maxRecDepth 100000 in
theorem vals12_calls (a : Arr) (u : Value) (W : World) (ha : ArrAt W a u) : Calls Tryz.prog 40 #[u] W fun e w' => ∃ r, e = .returned r ∧ TextsAt w' r (readV tyI a 0) ∧ Below W.heap.size W w' := by
 obtain ⟨ka, kac, rfl, hka⟩ := arrAt_open ha
 have hb0 := below_alloc (Below.refl W.heap.size W) (.cells (arrC a.lay a.off a.len a.valid a.ends a.data (.slice ka a.kids.length kac)) 27)
 have HA := Lib.hid (arrAt_bel ha hb0)
 have HI := Lib.hid (fun W => ints12_calls W)
 have RA := heap_alloc_new W (.cells (arrC a.lay a.off a.len a.valid a.ends a.data (.slice ka a.kids.length kac)) 27)
 obtain ⟨W1, hW1⟩ : ∃ W1, W.alloc (.cells (arrC a.lay a.off a.len a.valid a.ends a.data (.slice ka a.kids.length kac)) 27) = W1 := ⟨_, rfl⟩
 rw [hW1] at hb0 HA RA
 have HB0 := Lib.hid hb0
 have HRA := Lib.hid RA
 have HIN := Lib.hid (fun (w' : World) vv (hn : NodesAt w' vv tyI) (h : Below W1.heap.size W1 w') => refValuesO_calls tyI a 0 _ vv w' (arrAt_bel HA.out h) hn)
 obtain ⟨E, hE⟩ : ∃ E : Int, (if mayX tyI a 0 = true then (0 : Int) else 900) = E := ⟨_, rfl⟩
 rw [hE] at HIN
 obtain ⟨x0, x1, x2, x3, x4, x5, x6, _⟩ := zero_cells RA
 clear ha hka hb0 hE
 go_enter Tryz.func40, Tryz.ntmps40
 go_upto_region 1 with (fail)
 clear hW1
 have HB1 := Below.refl W1.heap.size W1
 go_region_with (first
  | (go_at_call 24; refine (HI.out _).mono ?_; rintro e w2 ⟨vv, rfl, hn2, hb2⟩; have HB2 := below_then (by repeat (first | exact HB1 | apply below_drewN | apply below_drew) : Below W1.heap.size W1 _) hb2; obtain ⟨⟨y0, y1, y2, y3, y4, y5, y6⟩, _⟩ := box7 HRA.out HB2)
  | (go_at_call 20; refine (HIN.out _ _ hn2 (by repeat (first | exact HB2 | apply below_drewN | apply below_drew))).mono ?_; rintro e w3 ⟨r, rfl, ho, hb3⟩; have HB3 := below_then (by repeat (first | exact HB2 | apply below_drewN | apply below_drew) : Below W1.heap.size W1 _) hb3; have HT := Lib.hid (own_texts ho); clear ho))
 all_goals
  go_wp2
  go_ret
  exact ⟨_, rfl, HT.out, HB0.out.trans (HB3.mono HB0.out.size)⟩
end Go.Proofs.YtobhjlchpnpleaaGreatDoor
