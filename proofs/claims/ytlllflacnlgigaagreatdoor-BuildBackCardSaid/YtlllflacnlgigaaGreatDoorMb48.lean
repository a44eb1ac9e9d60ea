/- Several texts in one: RefArrH, RefValH. -/
import Derived.Test.YtlllflacnlgigaaGreatDoorMb44
import Derived.Test.YtlllflacnlgigaaGreatDoorMb45
import Derived.Test.YtlllflacnlgigaaGreatDoorMb46
import Derived.Test.YtlllflacnlgigaaGreatDoorMb47
import Derived.Test.YtlllflacnlgigaaGreatDoorMb40
/- The reference's ArrayMay, walked: the whole. -/
namespace Go.Proofs.YtlllflacnlgigaaGreatDoor
open Go.RowKit
set_option linter.unusedVariables false
set_option linter.unusedSimpArgs false

theorem refMay_none (ns : List Tp.Nd) (l f n : Int) (v e d : Vp.Txt) (ks : List Arr) (x : Int) (k vv : Value) (W : World) (hih : ∀ a ∈ ks, RefMayOK ns (SizeOf.sizeOf a + 1)) (hk : KidsAt W ks k) (hn : NodesAt W vv ns)
    (hc : (Tp.node ns x && numsOk f n v e d) = true ∧ (validOk ns x.toNat f n v = true ∧ (l ≠ 0 ∧ (Vp.oneOk ns x.toNat e ks && Vp.mayAll ns ks [x.toNat]) = false))) :
    Calls Tryz.prog 57 #[typeV vv, .int .i64 x, arrV l f n v e d k] W fun e' w' => e' = .returned (.bool (mayX ns (.mk l f n v e d ks) x)) ∧ Below W.heap.size W w' := by
  by_cases h1 : Tp.inner (Tp.kindOf ns x.toNat) = false ∧ ks.length = 1
  · by_cases h2 : e = [] ∧ (Vp.kid0 ks).lay = 0
    · exact refMay_noC ns l f n v e d ks x k vv W hih hk hn hc ⟨h1.1, h1.2, h2.1, h2.2⟩
    · exact refMay_noB ns l f n v e d ks x k vv W hih hk hn hc ⟨h1, h2⟩
  · exact refMay_noA ns l f n v e d ks x k vv W hih hk hn hc h1
theorem refMay_succ (ns : List Tp.Nd) (N : Nat) (ih : RefMayOK ns N) : RefMayOK ns (N + 1) := by
  intro a x u vv W hsz ha hn
  obtain ⟨l, f, n, v, e, d, ks⟩ := a
  obtain ⟨k, rfl, hk⟩ := ha
  have hih : ∀ a ∈ ks, RefMayOK ns (SizeOf.sizeOf a + 1) := fun a ha b y u' vv' W' hb => ih b y u' vv' W' (by have := List.sizeOf_lt_of_mem ha; simp only [Arr.mk.sizeOf_spec] at hsz; omega)
  by_cases hc : (Tp.node ns x && numsOk f n v e d) = true ∧ (validOk ns x.toNat f n v = true ∧ l ≠ 0)
  · cases ho : (Vp.oneOk ns x.toNat e ks && Vp.mayAll ns ks [x.toNat]) with
    | false => exact refMay_none ns l f n v e d ks x k vv W hih hk hn ⟨hc.1, hc.2.1, hc.2.2, ho⟩
    | true => exact refMay_ok ns l f n v e d ks x k vv W hih hk hn ⟨hc.1, hc.2.1, hc.2.2, ho⟩
  · exact refMay_early ns l f n v e d ks x k vv W hih hk hn hc
theorem refMay_all (ns : List Tp.Nd) : ∀ N, RefMayOK ns N
  | 0 => fun _ _ _ _ _ h => absurd h (Nat.not_lt_zero _)
  | N + 1 => refMay_succ ns N (refMay_all ns N)
theorem refArrayMay_calls (ns : List Tp.Nd) (a : Arr) (x : Int) (u vv : Value) (W : World) (ha : ArrAt W a u) (hn : NodesAt W vv ns) :
    Calls Tryz.prog 57 #[typeV vv, .int .i64 x, u] W fun e w' => e = .returned (.bool (mayX ns a x)) ∧ Below W.heap.size W w' :=
  refMay_all ns _ a x u vv W (Nat.lt_succ_self _) ha hn
end Go.Proofs.YtlllflacnlgigaaGreatDoor

/- The reference's Values, walked. -/
namespace Go.Proofs.YtlllflacnlgigaaGreatDoor
open Go.RowKit
set_option linter.unusedVariables false
set_option linter.unusedSimpArgs false

set_option maxRecDepth 100000 in
set_option maxHeartbeats 3200000 in
theorem refValues_calls (ns : List Tp.Nd) (a : Arr) (x : Int) (u vv : Value) (W : World) (ha : ArrAt W a u) (hn : NodesAt W vv ns) :
    Calls Tryz.prog 34 #[typeV vv, .int .i64 x, u] W fun e w' => ∃ r, e = .returned (.tuple #[r, .int .i64 (if mayX ns a x then 0 else 900)]) ∧ TextsAt w' r (if mayX ns a x then Vp.valsA ns a x.toNat else []) ∧ Below W.heap.size W w' := by
  obtain ⟨l, f, n, v, e, d, ks⟩ := a
  obtain ⟨k, rfl, hk⟩ := ha
  have hbk := below_alloc (below_alloc (Below.refl W.heap.size W) (.cells #[vv] 25)) (.cells #[.int .i64 l, .int .i64 f, .int .i64 n, .string ⟨v.toArray⟩, .string ⟨e.toArray⟩, .string ⟨d.toArray⟩, k] 47)
  have hn2 := hn.below hbk
  have hk2 := KidsAt.below hbk _ _ hk
  have C4 := (Below.heap_alloc (W.alloc (.cells #[vv] 25)) (.cells #[.int .i64 l, .int .i64 f, .int .i64 n, .string ⟨v.toArray⟩, .string ⟨e.toArray⟩, .string ⟨d.toArray⟩, k] 47) W.heap.size (by simp)).trans (heap_alloc_new W (.cells #[vv] 25))
  have C6 := heap_alloc_new (W.alloc (.cells #[vv] 25)) (.cells #[.int .i64 l, .int .i64 f, .int .i64 n, .string ⟨v.toArray⟩, .string ⟨e.toArray⟩, .string ⟨d.toArray⟩, k] 47)
  rw [show (W.alloc (.cells #[vv] 25)).heap.size = W.heap.size + 1 by simp] at C6
  obtain ⟨W2, hW2⟩ : ∃ W2, (W.alloc (.cells #[vv] 25)).alloc (.cells #[.int .i64 l, .int .i64 f, .int .i64 n, .string ⟨v.toArray⟩, .string ⟨e.toArray⟩, .string ⟨d.toArray⟩, k] 47) = W2 := ⟨_, rfl⟩
  rw [hW2] at hbk hn2 hk2 C4 C6
  rw [KidsAt] at hk
  obtain ⟨ka, kc, rfl, hkc1, hkc2, _⟩ := hk
  have HN := Lib.hid hn2
  have HK := Lib.hid hk2
  have HB := Lib.hid hbk
  have q4 := cell_of_one C4
  obtain ⟨x0, x1, x2, x3, x4, x5, x6, _⟩ := zero_cells C6
  clear hn hn2 hk2 hbk
  have HMC := Lib.hid (refArrayMay_calls ns (.mk l f n v e d ks) x (arrV l f n v e d (.slice ka ks.length kc)) vv W2 ⟨_, rfl, HK.out⟩ HN.out)
  cases hmx : mayX ns (.mk l f n v e d ks) x with
  | false =>
    rw [hmx] at HMC
    go_enter Tryz.func34, Tryz.ntmps34
    go_wp2_with (fail)
    refine HMC.out.mono ?_; rintro y w3 ⟨rfl, hb3⟩
    go_wp2
    go_ret2
    exact ⟨_, rfl, ⟨none, 0, rfl, by simp, by simp, fun h => absurd rfl h⟩, HB.out.trans (hb3.mono HB.out.size)⟩
  | true =>
    rw [hmx] at HMC
    have hmx2 := hmx
    unfold mayX at hmx2
    rw [Bool.and_eq_true] at hmx2
    obtain ⟨hnd, hma⟩ := hmx2
    have hx0 : 0 ≤ x := by
      unfold Tp.node at hnd
      simp only [Bool.and_eq_true, decide_eq_true_eq] at hnd
      omega
    obtain ⟨i, rfl⟩ := Int.eq_ofNat_of_zero_le hx0
    rw [Int.toNat_natCast] at hma ⊢
    obtain ⟨_, _, hf0, hn0, hfn, _⟩ := mayA_nums hma
    obtain ⟨n, rfl⟩ := Int.eq_ofNat_of_zero_le hn0
    have HMA := Lib.hid hma
    have hn64 : n ≤ 64 := by omega
    clear hma hnd hx0 hmx
    go_enter Tryz.func34, Tryz.ntmps34
    go_wp2_with (fail)
    refine HMC.out.mono ?_; rintro y w3 ⟨rfl, hb3⟩
    have HB3 := HB.out.trans (hb3.mono HB.out.size)
    have C4' := (hb3.block _ (lt_of_block C4)).trans C4
    have C6' := (hb3.block _ (lt_of_block C6)).trans C6
    have HV := Lib.hid (fun q (hq : q < n) w' (h : Below w3.heap.size w3 w') => refValue_calls ns (.mk l f n v e d ks) i q (arrV l f n v e d (.slice ka ks.length kc)) vv w' HMA.out (show q < Int.toNat (n : Int) by rw [Int.toNat_natCast]; exact hq) ⟨_, rfl, KidsAt.below (below_then hb3 h) _ _ HK.out⟩ (HN.out.below (below_then hb3 h)))
    clear x0 x1 x2 x3 x4 x5 x6 q4 C4 C6 hb3 HMC
    go_wp2_with (fail)
    go_loopw [8, 9] (fun out ix wr => ∃ q : Nat, q ≤ n ∧ ix = .int .i64 (q : Int) ∧ wr.ownsRow w3.heap.size 9 1 out q (((List.range q).map fun j => Vp.rowA ns (.mk l f n v e d ks) i j).map tv) ∧ Below w3.heap.size w3 wr) (fun _ ix _ => n - (intOf ix).toNat)
    case atStart => exact ⟨0, Nat.zero_le _, rfl, own_nil, Below.refl _ _⟩
    case round =>
      obtain ⟨q, hq, rfl, hu, hbr⟩ := hrel
      have HO := Lib.hid hu
      clear hu
      have hsr := hbr.size
      have q4 := cell_of_one ((hbr.block _ (lt_of_block C4')).trans C4')
      obtain ⟨⟨x0, x1, x2, x3, x4, x5, x6⟩, _⟩ := box7 C6' hbr
      by_cases hlt : q < n
      · have hqi : (q : Int) < (n : Int) := by omega
        go_wp2_with (fail)
        refine (HV.out q hlt _ hbr).mono ?_; rintro y w4 ⟨rfl, hb4⟩
        have hs4 := hb4.size
        have HO4 := own_below HO.out hb4
        clear x0 x1 x2 x3 x4 x5 x6 q4
        go_wp2_with (at_builtin; refine wp_app1 rfl _ _ 22 9 rfl w3.heap.size 16 (.string ⟨#[]⟩) Tryz.underlying22 info_string rfl _ _ _ rfl rfl rfl HO4 (by omega) (by omega) (by omega) ?_; intro v6 w6 ho6 hb6 hg6)
        refine ⟨⟨q + 1, by omega, by go_num, ?_, hbr.trans ((hb4.mono hsr).trans hb6)⟩, by simp [intOf]; omega⟩
        rw [List.range_succ, List.map_append, List.map_append]
        exact ho6
      · obtain rfl : q = n := by omega
        go_wp2_with (fail)
        go_ret2
        refine ⟨_, rfl, own_texts (base := w3.heap.size) ?_, HB3.trans (hbr.mono HB3.size)⟩
        have e1 : Vp.valsA ns (.mk l f (q : Int) v e d ks) i = (List.range q).map fun j => Vp.rowA ns (.mk l f (q : Int) v e d ks) i j := rfl
        rw [e1, List.length_map, List.length_range]
        exact HO.out
end Go.Proofs.YtlllflacnlgigaaGreatDoor
