/- The reference's value of a row, walked: rows that are not there, whole numbers, truths, bytes. -/
import Derived.Test.YtlllflacnlgigaaGreatDoorMb33
namespace Go.Proofs.YtlllflacnlgigaaGreatDoor
open Go.RowKit
set_option linter.unusedVariables false
set_option linter.unusedSimpArgs false

def RefValOK (ns : List Tp.Nd) (N : Nat) : Prop := ∀ (a : Arr) (i row : Nat) (u vv : Value) (W : World), SizeOf.sizeOf a < N → Vp.mayA ns a i = true → row < a.len.toNat → ArrAt W a u → NodesAt W vv ns →
  Calls Tryz.prog 58 #[typeV vv, .int .i64 (i : Int), u, .int .i64 (row : Int)] W fun e w' => e = .returned (tv (Vp.rowA ns a i row)) ∧ Below W.heap.size W w'
/-- What an array that may be is, as far as its numbers go. -/
theorem mayA_nums {ns : List Tp.Nd} {l f n : Int} {v e d : Vp.Txt} {ks : List Arr} {i : Nat} (h : Vp.mayA ns (.mk l f n v e d ks) i = true) :
    Tp.may ns = true ∧ i < ns.length ∧ 0 ≤ f ∧ 0 ≤ n ∧ f + n ≤ 64 ∧ v.length ≤ 4096 ∧ e.length ≤ 4096 ∧ d.length ≤ 4096 ∧ (v ≠ [] → (f + n + 7) / 8 ≤ v.length) := by
  rw [Vp.mayA] at h
  simp only [Bool.and_eq_true] at h
  obtain ⟨⟨h1, h2⟩, _⟩ := h
  obtain ⟨g1, g2⟩ := (Vp.node_of ns i).1 h1
  unfold Vp.bufOk at h2
  simp only [Bool.and_eq_true, Bool.or_eq_true, decide_eq_true_eq] at h2
  obtain ⟨h2, h3⟩ := h2
  refine ⟨g1, g2, h2.1, h2.2.1, by omega, h2.2.2.2.2.1, h2.2.2.2.2.2.1, h2.2.2.2.2.2.2, fun hv => ?_⟩
  rcases h3 with h3 | h3
  · exact absurd h3 hv
  · exact h3.2
theorem mayA_plain {ns : List Tp.Nd} {f n : Int} {v e d : Vp.Txt} {ks : List Arr} {i : Nat} (h : Vp.mayA ns (.mk 0 f n v e d ks) i = true) : Vp.plainOk ns i f n e d ks = true := by
  rw [Vp.mayA, if_pos rfl] at h
  simp only [Bool.and_eq_true] at h
  exact h.2.2.2
def plainT (ns : List Tp.Nd) (kd : Int) (e d : Vp.Txt) (ks : List Arr) (i row : Nat) : Vp.Txt :=
  if kd = 0 then Vp.int (Vp.int8 d row)
  else if kd = 1 then Vp.bool (Bt.bit d row)
  else if kd = 2 then Vp.str ((d.drop (Vp.num4 e row).1.toNat).take ((Vp.num4 e (row + 1)).1.toNat - (Vp.num4 e row).1.toNat))
  else if kd = 3 then Vp.list ((List.range ((Vp.num4 e (row + 1)).1.toNat - (Vp.num4 e row).1.toNat)).map fun j => Vp.headA ns ks ((Tp.kids ns i).getD 0 0) ((Vp.num4 e row).1.toNat + j))
  else Vp.struct (Vp.eachA ns ks (Tp.kids ns i) row)
theorem text_plain (ns : List Tp.Nd) (f n : Int) (v e d : Vp.Txt) (ks : List Arr) (i row : Nat) (h : Vp.on v row = true) : Vp.textA ns (.mk 0 f n v e d ks) i row = plainT ns (Tp.kindOf ns i) e d ks i row := by
  rw [Vp.textA, h, if_neg (by decide), if_neg (by decide), if_neg (by decide)]; rfl
theorem List.take_drop_sub {α : Type} (l : List α) (a b : Nat) (h : a ≤ b) : (l.drop a).take (b - a) = (l.take b).drop a := by
  rw [List.drop_take]
theorem ends_at {e : Vp.Txt} {rows : Nat} {most : Int} {f ap row : Nat} (h : Vp.endsOk e rows most f ap = true) (hr : row < rows) :
    Vp.num4 e row = (((Vp.cut4 e row : Nat) : Int), true) ∧ Vp.num4 e (row + 1) = (((Vp.cut4 e (row + 1) : Nat) : Int), true) ∧ Vp.cut4 e row ≤ Vp.cut4 e (row + 1) ∧ ((Vp.cut4 e (row + 1) : Nat) : Int) ≤ most ∧ 4 * row + 8 ≤ e.length := by
  unfold Vp.endsOk at h
  have h0 := (List.all_eq_true.1 h) row (List.mem_range.2 (by omega))
  have h1 := (List.all_eq_true.1 h) (row + 1) (List.mem_range.2 (by omega))
  have key : ∀ j, (Vp.num4 e j).2 = true → Vp.num4 e j = (((Vp.cut4 e j : Nat) : Int), true) ∧ 4 * j + 4 ≤ e.length := by
    intro j hj
    unfold Vp.num4 at hj ⊢
    split at hj
    · rename_i hc
      rw [if_pos hc]
      exact ⟨rfl, hc.1⟩
    · exact absurd hj (by decide)
  unfold Vp.endOk at h0 h1
  simp only [Bool.and_eq_true, Bool.or_eq_true, decide_eq_true_eq] at h0 h1
  obtain ⟨a1, a2⟩ := key row h0.1
  obtain ⟨b1, b2⟩ := key (row + 1) h1.1
  have h2 := h1.2.2
  rw [Nat.add_sub_cancel, a1, b1] at h2
  have h3 := h1.2.1
  rw [b1] at h3
  simp only at h2 h3
  exact ⟨a1, b1, by omega, h3, by omega⟩
theorem int8_rng (d : Vp.Txt) (row : Nat) : -9223372036854775808 ≤ Vp.int8 d row ∧ Vp.int8 d row ≤ 9223372036854775807 := by
  unfold Vp.int8
  rw [IntKind.wrap_i64]
  omega
theorem cut8_calls (d : Vp.Txt) (row : Nat) (W : World) :
    Calls Tryz.prog 92 #[.string ((⟨d.toArray⟩ : ByteArray).extract (8 * row) (8 * row + 8))] W fun x w' => x = .returned (.int .i64 (Vp.int8 d row)) ∧ W = w' := by
  have hex := mk_extract d (8 * row) (8 * row + 8)
  rw [← List.take_drop] at hex
  rw [hex]
  exact refNum_calls ((d.drop (8 * row)).take 8) W (by rw [List.length_take]; omega)
set_option maxRecDepth 100000 in
set_option maxHeartbeats 6400000 in
theorem value_leaf (ns : List Tp.Nd) (l : Int) (f n : Nat) (v e d : Vp.Txt) (ks : List Arr) (k vv : Value) (i row : Nat) (W : World)
    (hm : Vp.mayA ns (.mk l f n v e d ks) i = true) (hr : row < n) (hk : KidsAt W ks k) (hn : NodesAt W vv ns) (hc : Vp.on v (f + row) = false ∨ (l = 0 ∧ Tp.kindOf ns i ≤ 2)) :
    Calls Tryz.prog 58 #[typeV vv, .int .i64 (i : Int), arrV l (f : Int) (n : Int) v e d k, .int .i64 (row : Int)] W fun x w' => x = .returned (tv (Vp.rowA ns (.mk l f n v e d ks) i row)) ∧ Below W.heap.size W w' := by
  have HRW := Lib.hid (show Vp.rowA ns (.mk l f n v e d ks) i row = Vp.textA ns (.mk l f n v e d ks) i (f + row) from rfl)
  obtain ⟨hmy, hi, _, _, hfn, hv1, he1, hd1, hvv⟩ := mayA_nums hm
  have hbk := below_alloc (below_alloc (Below.refl W.heap.size W) (.cells #[vv] 25)) (.cells #[.int .i64 l, .int .i64 (f : Int), .int .i64 (n : Int), .string ⟨v.toArray⟩, .string ⟨e.toArray⟩, .string ⟨d.toArray⟩, k] 47)
  have hn2 := hn.below hbk
  have C4 := (Below.heap_alloc (W.alloc (.cells #[vv] 25)) (.cells #[.int .i64 l, .int .i64 (f : Int), .int .i64 (n : Int), .string ⟨v.toArray⟩, .string ⟨e.toArray⟩, .string ⟨d.toArray⟩, k] 47) W.heap.size (by simp)).trans (heap_alloc_new W (.cells #[vv] 25))
  have C6 := heap_alloc_new (W.alloc (.cells #[vv] 25)) (.cells #[.int .i64 l, .int .i64 (f : Int), .int .i64 (n : Int), .string ⟨v.toArray⟩, .string ⟨e.toArray⟩, .string ⟨d.toArray⟩, k] 47)
  rw [show (W.alloc (.cells #[vv] 25)).heap.size = W.heap.size + 1 by simp] at C6
  obtain ⟨W2, hW2⟩ : ∃ W2, (W.alloc (.cells #[vv] 25)).alloc (.cells #[.int .i64 l, .int .i64 (f : Int), .int .i64 (n : Int), .string ⟨v.toArray⟩, .string ⟨e.toArray⟩, .string ⟨d.toArray⟩, k] 47) = W2 := ⟨_, rfl⟩
  rw [hW2] at hbk hn2 C4 C6
  rw [KidsAt] at hk
  obtain ⟨ka, kc, rfl, hkc1, hkc2, _⟩ := hk
  unfold maxLen at hkc2
  have HN := Lib.hid hn2
  have HB := Lib.hid hbk
  have HM := Lib.hid hm
  have hzd := mk_size d
  have q4 := cell_of_one C4
  obtain ⟨x0, x1, x2, x3, x4, x5, x6, _⟩ := zero_cells C6
  have HT := Lib.hid (fun W => there_calls l (f : Int) (n : Int) v e d (.slice ka ks.length kc) (f + row) W (fun h => by have := hvv h; omega) (by omega) ⟨_, _, _, rfl⟩)
  rw [show ((f + row : Nat) : Int) = (row : Int) + (f : Int) by omega] at HT
  clear hn hn2 hbk hm hvv
  go_enter Tryz.func58, Tryz.ntmps58
  go_upto_region 2 with (fail)
  clear hW2
  go_wp2_with (fail)
  refine (HT.out _).mono ?_; rintro x w3 ⟨rfl, hb3⟩
  have C4' := (hb3.block _ (lt_of_block C4)).trans C4
  have C6' := (hb3.block _ (lt_of_block C6)).trans C6
  have HN3 := Lib.hid (HN.out.below hb3)
  have HB3 := HB.out.trans (hb3.mono HB.out.size)
  clear x0 x1 x2 x3 x4 x5 x6 q4 C4 C6 HN HB hb3
  have q4 := cell_of_one C4'
  obtain ⟨x0, x1, x2, x3, x4, x5, x6, _⟩ := zero_cells C6'
  cases hon : Vp.on v (f + row) with
  | false =>
    have HU := Lib.hid (show Vp.textA ns (.mk l f n v e d ks) i (f + row) = Vp.nul by rw [Vp.textA, hon]; rfl)
    rw [hon] at HT
    go_wp2
    go_ret
    exact ⟨by rw [HRW.out, HU.out]; rfl, HB3⟩
  | true =>
    obtain ⟨rfl, hkk⟩ : l = 0 ∧ Tp.kindOf ns i ≤ 2 := by
      rcases hc with h | h
      · rw [hon] at h; exact absurd h (by decide)
      · exact h
    have hpo := mayA_plain HM.out
    have HU := Lib.hid (text_plain ns f n v e d ks i (f + row) hon)
    have hkr := Vp.may_kind ns hmy i hi
    have hnd : Tp.node ns (i : Int) = true := (Vp.node_of ns i).2 ⟨hmy, hi⟩
    obtain ⟨bk, o, c, rfl, hc1, hc2, hbk, g0, g2⟩ := nodes_open HN3.out hi
    have hii : (i : Int) < (ns.length : Int) := by omega
    unfold maxLen at hc2
    clear g2 hc HT hon HM
    rw [plainK_eq] at hpo
    obtain ⟨kd, hkd⟩ : ∃ kd, Tp.kindOf ns i = kd := ⟨_, rfl⟩
    rw [hkd] at hpo HU hkr hkk g0
    clear hkd
    go_upto_region 11 with (fail)
    go_wp2_with (fail)
    refine (refKids_calls _ ns i _ HN3.out hnd).mono ?_; rintro x w4 ⟨kr, rfl, hko, hb4⟩
    have C4'' := (hb4.block _ (lt_of_block C4')).trans C4'
    have C6'' := (hb4.block _ (lt_of_block C6')).trans C6'
    have HB4 := HB3.trans (hb4.mono HB3.size)
    have g4 := (hb4.cell (p := ⟨bk, o + i * 3, none⟩) hbk).trans g0
    obtain ⟨kra, krc, rfl⟩ := own_slice hko
    clear x0 x1 x2 x3 x4 x5 x6 q4 C4' C6' HN3 HB3 g0 hko hb4
    have q4 := cell_of_one C4''
    obtain ⟨x0, x1, x2, x3, x4, x5, x6, _⟩ := zero_cells C6''
    by_cases k0 : kd = 0
    · subst k0
      have h8 : 8 * (f + row) + 8 ≤ d.length := by
        unfold plainK at hpo
        rw [if_pos rfl] at hpo
        simp only [Bool.and_eq_true, decide_eq_true_eq] at hpo
        omega
      have HI := Lib.hid (fun W => cut8_calls d (f + row) W)
      have hx8 := int8_rng d (f + row)
      have HII := Lib.hid (fun W => refInt_calls (Vp.int8 d (f + row)) W hx8.1 hx8.2)
      have HUU := Lib.hid (show Vp.textA ns (.mk 0 f n v e d ks) i (f + row) = Vp.int (Vp.int8 d (f + row)) from HU.out)
      generalize Vp.int8 d (f + row) = X at HI HII HUU
      obtain ⟨R, hR⟩ : ∃ R : Nat, f + row = R := ⟨_, rfl⟩
      have hRi : (row : Int) + (f : Int) = (R : Int) := by omega
      rw [hR] at h8 HI
      have HFIN := Lib.hid (show Vp.rowA ns (.mk 0 f n v e d ks) i row = Vp.int X from HRW.out.trans HUU.out)
      clear HRW HUU HU hR
      go_wp2_with (fail)
      with_reducible refine (HI.out _).mono ?_
      rintro x w' ⟨rfl, rfl⟩
      go_wp2_with (fail)
      refine (HII.out _).mono ?_; rintro x w5 ⟨rfl, hb5⟩
      go_wp2
      go_ret
      exact ⟨by rw [HFIN.out]; rfl, HB4.trans (hb5.mono HB4.size)⟩
    by_cases k1 : kd = 1
    · subst k1
      have h8 : f + row < 8 * d.length := by
        unfold plainK at hpo
        rw [if_neg (by decide), if_pos rfl] at hpo
        simp only [Bool.and_eq_true, decide_eq_true_eq] at hpo
        omega
      have HUU := Lib.hid (show Vp.textA ns (.mk 0 f n v e d ks) i (f + row) = Vp.bool (Bt.bit d (f + row)) from HU.out)
      have HBT := Lib.hid (fun W => refBit_calls ⟨d.toArray⟩ ((f + row : Nat) : Int) W (by omega) (by omega) (by omega))
      rw [Int.toNat_natCast] at HBT
      have HBT := Lib.hid (show ∀ W, Calls Tryz.prog 93 #[.string ⟨d.toArray⟩, .int .i64 ((f + row : Nat) : Int)] W fun e w' => e = .returned (.bool (Bt.bit d (f + row))) ∧ W = w' from HBT.out)
      rw [show ((f + row : Nat) : Int) = (row : Int) + (f : Int) by omega] at HBT
      have HFIN := Lib.hid (show Vp.rowA ns (.mk 0 f n v e d ks) i row = Vp.bool (Bt.bit d (f + row)) from HRW.out.trans HUU.out)
      generalize Bt.bit d (f + row) = on at HBT HFIN
      clear HRW HUU HU
      go_wp2_with (fail)
      refine (HBT.out _).mono ?_; rintro x w' ⟨rfl, rfl⟩
      go_wp2_with (fail)
      refine (refBool_calls on _).mono ?_; rintro x w' ⟨rfl, rfl⟩
      go_wp2
      go_ret
      exact ⟨by rw [HFIN.out]; rfl, HB4⟩
    obtain rfl : kd = 2 := by omega
    have heo : Vp.endsOk e (f + n) d.length f 16 = true := by
      unfold plainK at hpo
      rw [if_neg (by decide), if_neg (by decide), if_pos rfl, show ((f : Int) + (n : Int)).toNat = f + n by omega, Int.toNat_natCast] at hpo
      exact hpo
    obtain ⟨R, hR⟩ : ∃ R : Nat, f + row = R := ⟨_, rfl⟩
    have hRi : (row : Int) + (f : Int) = (R : Int) := by omega
    obtain ⟨z1, z2, z3, z4, z5⟩ := ends_at heo (row := R) (by omega)
    have HUU := Lib.hid (show Vp.textA ns (.mk 0 f n v e d ks) i (f + row) = Vp.str ((d.drop (Vp.num4 e (f + row)).1.toNat).take ((Vp.num4 e (f + row + 1)).1.toNat - (Vp.num4 e (f + row)).1.toNat)) from HU.out)
    have HFIN := Lib.hid (show Vp.rowA ns (.mk 0 f n v e d ks) i row = Vp.str ((d.drop (Vp.cut4 e R)).take (Vp.cut4 e (R + 1) - Vp.cut4 e R)) by
      rw [HRW.out.trans HUU.out, hR, z1, z2, Int.toNat_natCast, Int.toNat_natCast])
    have HEN := Lib.hid (fun W => refends_calls 0 (f : Int) (n : Int) v e d (.slice ka ks.length kc) R W z5 (by omega) ⟨_, _, _, rfl⟩)
    generalize Vp.cut4 e R = A at HFIN HEN z3
    generalize Vp.cut4 e (R + 1) = B at HFIN HEN z3 z4
    have hAB : (A : Int) ≤ (B : Int) := by omega
    have hBd : (B : Int) ≤ (d.length : Int) := by omega
    have hex := mk_extract d A B
    rw [← List.take_drop_sub d A B (by omega)] at hex
    have HEX := Lib.hid hex
    clear HRW HUU HU hR z1 z2 z3 z4 z5 heo hpo hex
    go_wp2_with (fail)
    refine (HEN.out _).mono ?_; rintro x w5 ⟨rfl, hb5⟩
    have C6_5 := (hb5.block _ (lt_of_block C6'')).trans C6''
    have HB5 := HB4.trans (hb5.mono HB4.size)
    clear x0 x1 x2 x3 x4 x5 x6
    obtain ⟨x0, x1, x2, x3, x4, x5, x6, _⟩ := zero_cells C6_5
    go_wp2_with (fail)
    rw [HEX.out]
    refine (refStr_calls _ _ (by simp; omega)).mono ?_; rintro x w6 ⟨rfl, hb6⟩
    go_wp2
    go_ret
    exact ⟨by rw [HFIN.out]; rfl, HB5.trans (hb6.mono HB5.size)⟩
end Go.Proofs.YtlllflacnlgigaaGreatDoor
