/- Package build: valid, ends, whole numbers' and truths' bytes; a Builder's WriteString, walked. -/
import Derived.Test.YtobhjlchpnpleaaGreatDoorCa9
import Derived.Lib.AppendStr
namespace Go.Proofs.YtobhjlchpnpleaaGreatDoor
open Go.RowKit
set_option linter.unusedVariables false
set_option linter.unusedSimpArgs false

theorem info_boolc : (Tryz.prog.info? 4).map (fun i => (i.zero, i.size, i.bytes)) = some (some (.bool false), 1, 1) := by kernel_rfl
set_option maxRecDepth 100000 in
set_option maxHeartbeats 1600000 in
theorem valid_calls (v : Value) (vs : List Vp.Txt) (W : World) (ht : TextsAt W v vs) (hn : vs.length ≤ 140737488351232) :
  Calls Tryz.prog 92 #[v] W fun e w' => e = .returned (tv (Vp.valid vs)) ∧ Below W.heap.size W w' := by
 obtain ⟨a, c, rfl, hc, hm, h3⟩ := ht
 unfold maxLen at hm
 replace h3 := Lib.hid h3
 have HE := Lib.hid (show Vp.valid vs = if (Vp.there vs).contains false then Bt.packed (Vp.there vs) else [] from rfl)
 have htl : (Vp.there vs).length = vs.length := by simp [Vp.there]
 go_enter Tryz.func92, Tryz.ntmps92
 go_wp2
 go_loopw [3, 8] (fun u i wr => ∃ k : Nat, k ≤ vs.length ∧ i = .int .i64 k ∧ wr.ownsRow W.heap.size 4 1 u k (bools (Vp.there (vs.take k))) ∧ Below W.heap.size W wr) (fun _ i _ => vs.length - (intOf i).toNat)
 case atStart => exact ⟨0, Nat.zero_le _, rfl, own_nil, Below.refl _ _⟩
 case round =>
  obtain ⟨k, hk, rfl, hu, hb⟩ := hrel
  replace hu := Lib.hid hu
  by_cases hlt : k < vs.length
  ·obtain ⟨bk, o, rfl, hbk, hcell⟩ := h3.out (by intro e; rw [e] at hlt; exact Nat.not_lt_zero _ hlt)
   have c0 := (hb.cell (p := ⟨bk, o + k, none⟩) hbk).trans (hcell k _ (List.getElem?_eq_getElem hlt))
   have HT := Lib.hid (show bools (Vp.there (vs.take (k + 1))) = bools (Vp.there (vs.take k)) ++ [.bool (decide (vs[k] ≠ Vp.nul))] by
    unfold Vp.there bools
    rw [List.take_succ_eq_append_getElem hlt, List.map_append, List.map_append]; rfl)
   have hlti : (k : Int) < (vs.length : Int) := by omega
   clear hcell h3
   generalize vs[k] = x at c0 HT
   have hx : (!(x == [110])) = decide (x ≠ Vp.nul) := by
    rw [Bool.eq_iff_iff, Bool.not_eq_true', beq_eq_false_iff_ne, decide_eq_true_eq]; rfl
   generalize decide (x ≠ Vp.nul) = d at hx HT
   go_wp2_with (first
    | (go_at_call 116; refine (null_calls _).mono ?_; rintro e w' ⟨rfl, rfl⟩)
    | (at_builtin; refine wp_app1 rfl _ _ 102 4 rfl W.heap.size 1 (.bool false) Tryz.underlying102 info_boolc rfl _ _ _ rfl rfl rfl hu.out (by omega) (by omega) hb.size ?_; intro v4 w4 ho4 hb4 hg4))
   exact ⟨⟨k + 1, by omega, by go_num, by rw [HT.out]; exact ho4, hb.trans hb4⟩, by simp [intOf]; omega⟩
  ·obtain rfl : k = vs.length := by omega
   have hu2 := hu.out
   rw [List.take_length, ← htl] at hu2
   have HC := Lib.hid (containsB_calls _ (Vp.there vs) false _ _ hu2)
   have HB := Lib.hid (bitsOf_calls _ _ (Vp.there vs) _ hu2 (by omega))
   obtain ⟨ua, uc, hua⟩ := own_slice hu2
   rw [htl] at hua
   subst hua
   cases hcf : (Vp.there vs).contains false with
   | true =>
    rw [hcf] at HC
    rw [hcf, if_pos rfl] at HE
    go_wp2_with (first
     | (go_at_call 123; refine HC.out.mono ?_; rintro e w' ⟨rfl, rfl⟩)
     | (go_at_call 124; refine HB.out.mono ?_; rintro e w' ⟨rfl, hb2⟩))
    go_ret
    exact ⟨by rw [HE.out]; rfl, below_then hb hb2⟩
   | false =>
    rw [hcf] at HC
    rw [hcf, if_neg (by decide)] at HE
    go_wp2_with (go_at_call 123; refine HC.out.mono ?_; rintro e w' ⟨rfl, rfl⟩)
    go_ret
    exact ⟨by rw [HE.out]; rfl, hb⟩

theorem sum_le_take (ms : List Nat) (k : Nat) : Vp.sumTo ms k ≤ ms.sum := by
 unfold Vp.sumTo
 have h : ms.sum = (ms.take k).sum + (ms.drop k).sum := by rw [← List.sum_append, List.take_append_drop]
 omega
theorem sumTo_succ' (ms : List Nat) (j : Nat) (h : j < ms.length) : Vp.sumTo ms (j + 1) = Vp.sumTo ms j + ms[j] := by
 unfold Vp.sumTo
 rw [List.take_succ_eq_append_getElem h, List.sum_append]
 simp
theorem endsTo_succ (ms : List Nat) (q : Nat) : Vp.endsTo ms (q + 1) = Vp.endsTo ms q ++ word (Vp.sumTo ms (q + 1) : Nat) 4 := by
 unfold Vp.endsTo
 rw [List.range_succ, List.flatMap_append]
 simp
theorem endsTo_length (ms : List Nat) : ∀ q, (Vp.endsTo ms q).length = 4 * (q + 1)
 | 0 => by simp [Vp.endsTo, word]
 | q + 1 => by rw [endsTo_succ, List.length_append, endsTo_length ms q, word_length]; omega
set_option maxRecDepth 100000 in
set_option maxHeartbeats 1600000 in
theorem ends_calls (v fv : Value) (base : Nat) (rows : List (List Vp.Txt)) (many : List Vp.Txt → Nat) (W : World) (hr : RowsOwn W base v rows) (hn : rows.length ≤ 65536) (hs : (rows.map many).sum ≤ 2147483647) (g : FuncId) (hfv : fv = .func (.func g) #[] #[]) (hg : ∀ xs W, (callFunc g xs).run Tryz.prog W = .ok (.enter g xs) W)
  (hstep : ∀ (row : List Vp.Txt) (c : Value) W', row ∈ rows → W'.ownsRow 0 9 1 c row.length (row.map tv) → Calls Tryz.prog g #[c] W' fun e w' => e = .returned (.int .i64 (many row : Nat)) ∧ W' = w') :
  Calls Tryz.prog 97 #[v, fv] W fun e w' => e = .returned (tv (Vp.ends (rows.map many))) ∧ Below W.heap.size W w' := by
 subst hfv
 have HS := Lib.hid hstep
 clear hstep
 have HR := Lib.hid hr
 obtain ⟨ra, rc, rfl⟩ := hr.slice
 clear hr
 obtain ⟨ms, hms⟩ : ∃ ms, rows.map many = ms := ⟨_, rfl⟩
 have hml : ms.length = rows.length := by rw [← hms, List.length_map]
 have HM := Lib.hid hms
 rw [hms] at hs ⊢
 clear hms
 have H0 := Lib.hid (show Vp.endsTo ms 0 = word 0 4 by simp [Vp.endsTo, Vp.sumTo])
 have HEND := Lib.hid (show Vp.ends ms = Vp.endsTo ms ms.length from rfl)
 rw [hml] at HEND
 go_enter Tryz.func97, Tryz.ntmps97
 go_wp2_with (go_at_call 127; refine (word_calls 0 4 _ (by decide) (by decide) (by decide) (by decide)).mono ?_; rintro e w1 ⟨rfl, hb1⟩)
 go_loopw [5, 6, 13] (fun at_ out i wr => ∃ k : Nat, k ≤ rows.length ∧ i = .int .i64 k ∧ at_ = .int .i64 (Vp.sumTo ms k : Nat) ∧ out = tv (Vp.endsTo ms k) ∧ Below W.heap.size W wr) (fun _ _ i _ => rows.length - (intOf i).toNat)
 case atStart => exact ⟨0, Nat.zero_le _, rfl, by simp [Vp.sumTo], by rw [H0.out], hb1⟩
 case round =>
  obtain ⟨k, hk, rfl, rfl, rfl, hb⟩ := hrel
  by_cases hlt : k < rows.length
  ·obtain ⟨gg, cap, c, hv, hc, ho, hg2⟩ := HR.out.at (List.getElem?_eq_getElem hlt)
   obtain ⟨rfl, _, rfl⟩ := Value.slice.inj hv
   have c0 := (hb.cell (p := ⟨gg, k, none⟩) hg2).trans hc
   have hmk : ms[k] = many rows[k] := by
    have := HM.out
    subst this
    simp
   have hss := sumTo_succ' ms k (by omega)
   rw [hmk] at hss
   have hsl := sum_le_take ms (k + 1)
   have HE := Lib.hid (endsTo_succ ms k)
   have hel := endsTo_length ms k
   have HC := Lib.hid (HS.out rows[k] c wr (List.getElem_mem hlt) (own_below ho (below_then (Below.refl _ _) hb)))
   obtain ⟨ca, cc, rfl⟩ := own_slice ho
   clear hc ho hv hmk
   generalize rows[k] = row at hss HC c0
   generalize many row = m at hss HC
   generalize Vp.sumTo ms k = s0 at hss
   have HADD := Lib.hid (show ((Vp.sumTo ms (k + 1) : Nat) : Int) = (s0 : Int) + (m : Int) by omega)
   rw [HADD.out] at HE
   have hbd : s0 + m ≤ 2147483647 := by omega
   clear hss hsl
   generalize Vp.endsTo ms k = y at HE hel
   have hlti : (k : Int) < (rows.length : Int) := by omega
   have HW := Lib.hid (fun W' => word_calls ((s0 : Int) + (m : Int)) 4 W' (by decide) (by decide) (by omega) (by omega))
   have z1 := mk_size y
   have z2 := mk_size (word ((s0 : Int) + (m : Int)) 4)
   have z3 := word_length ((s0 : Int) + (m : Int)) 4
   go_wp2_with (fail)
   refine HC.out.mono ?_
   rintro e w' ⟨rfl, rfl⟩
   go_wp2_with (go_at_call 127; refine (HW.out _).mono ?_; rintro e w3 ⟨rfl, hb3⟩)
   exact ⟨⟨k + 1, by omega, by go_num, by rw [HADD.out], by rw [HE.out]; exact congrArg Value.string (mk_append y _), below_then hb hb3⟩, by simp [intOf]; omega⟩
  ·obtain rfl : k = rows.length := by omega
   go_wp2
   go_ret
   exact ⟨by rw [HEND.out]; rfl, hb⟩

/-! A Builder written to. -/
theorem bsize : (Tryz.prog.info? 150).map (·.size) = some 2 := by kernel_rfl
theorem blies : liesAt Tryz.prog Tryz.prog.depth 150 (2 / Tryz.prog.cellsOf 150) 0 150 1 = true := by kernel_rfl
theorem binfo8 : (Tryz.prog.info? 5).map (fun i => (i.zero, i.size, i.bytes)) = some (some (.int .u8 0), 1, 1) := by kernel_rfl
theorem noEscape_call (x : Value) (W : World) : (callFunc 159 #[x]).run Tryz.prog W = .ok (.value x) W := by
 rw [run_callFunc_extern Tryz.func159 (by kernel_rfl) (by kernel_rfl) (by kernel_rfl) (e := Extern.AbiNoEscape.same) (by kernel_rfl), Lib.run_noEscape]
 rfl
set_option maxHeartbeats 1000000 in
set_option maxRecDepth 100000 in
theorem copyCheck_used (b : Nat) (w : World) (h0 : w.cell? ⟨b, 0, none⟩ = some (.pointer (some ⟨b, 0, none⟩))) :
  Calls Tryz.prog 149 #[.pointer (some ⟨b, 0, none⟩)] w fun e w' => e = .returned (.tuple #[]) ∧ w' = w := by
 obtain ⟨j, hj, _⟩ := Option.map_eq_some_iff.1 bsize
 go_enter Tryz.func149, Tryz.ntmps149
 go_wp2
 rw [Lib.run_neq_ptr_same w _ Tryz.underlying148 hj]
 go_wp2
 go_end0
 exact ⟨rfl, rfl⟩
set_option maxHeartbeats 1000000 in
set_option maxRecDepth 100000 in
theorem copyCheck_fresh (b : Nat) (w : World) (h0 : w.cell? ⟨b, 0, none⟩ = some (.pointer none)) (hsh : w.shape? b = some (150, 2)) (hfz : w.frozen? ⟨b, 0, none⟩ = false) :
  Calls Tryz.prog 149 #[.pointer (some ⟨b, 0, none⟩)] w fun e w' => e = .returned (.tuple #[]) ∧ w' = w.setCell ⟨b, 0, none⟩ (.pointer (some ⟨b, 0, none⟩)) := by
 obtain ⟨j, hj, hjs⟩ := Option.map_eq_some_iff.1 bsize
 go_enter Tryz.func149, Tryz.ntmps149
 go_wp2
 rw [Lib.run_to_unsafe w ⟨b, 0, none⟩ Tryz.underlying148 Tryz.underlying176 hj (by rw [hjs]; decide) hsh (Nat.zero_lt_succ 1)]
 simp only [Result.andThen]
 rw [Oper.upon_value]
 go_wp2
 rw [noEscape_call]
 rw [Oper.upon_value]
 go_wp2
 rw [Lib.run_from_unsafe w ⟨b, 0, none⟩ Tryz.underlying176 Tryz.underlying148 hj hsh blies]
 simp only [Result.andThen]
 rw [Oper.upon_value]
 go_wp2
 go_end0
 exact ⟨rfl, rfl⟩
theorem copyCheck_calls (B b : Nat) (bs : List Value) (w : World) (h : Lib.IsBuilder 150 5 B b bs w) :
  Calls Tryz.prog 149 #[.pointer (some ⟨b, 0, none⟩)] w fun e w' => e = .returned (.tuple #[]) ∧ (Lib.BuilderAt 150 5 B b (.pointer (some ⟨b, 0, none⟩)) bs w' ∧ Below B w w') := by
 rcases h with h | h
 ·refine (copyCheck_fresh b w h.cell0 h.shape h.frozen0).mono ?_
  rintro e w' ⟨rfl, rfl⟩
  exact ⟨rfl, h.used _, (Below.refl B w).setCell (p := ⟨b, 0, none⟩) h.1 _⟩
 ·refine (copyCheck_used b w h.cell0).mono ?_
  rintro e w' ⟨rfl, rfl⟩
  exact ⟨rfl, h, Below.refl B _⟩
set_option maxHeartbeats 2000000 in
set_option maxRecDepth 100000 in
theorem writeString_calls (B b : Nat) (bs : List Value) (s : ByteArray) (w : World) (h : Lib.IsBuilder 150 5 B b bs w) (hlen : bs.length + s.size ≤ 140737488355328) (hBw : B ≤ w.heap.size) :
  Calls Tryz.prog 126 #[.pointer (some ⟨b, 0, none⟩), .string s] w fun e w' => e = .returned (.tuple #[.int .i64 s.size, .nilIface]) ∧ (Lib.BuilderAt 150 5 B b (.pointer (some ⟨b, 0, none⟩)) (bs ++ Lib.strCells s) w' ∧ Below B w w') := by
 obtain ⟨i0, hi, hz0, hz1, hz2⟩ := info_parts binfo8
 have HCC := Lib.hid (copyCheck_calls B b bs w h)
 go_enter Tryz.func126, Tryz.ntmps126
 go_wp2_with (fail)
 refine HCC.out.mono ?_
 rintro e w1 ⟨rfl, h1, hb1⟩
 obtain ⟨hB, v, hbk, hown, hne⟩ := h1
 have c0 : w1.cell? ⟨b, 0, none⟩ = some (.pointer (some ⟨b, 0, none⟩)) := by rw [Lib.cell_of_heap hbk]; rfl
 have c1 : w1.cell? ⟨b, 1, none⟩ = some v := by rw [Lib.cell_of_heap hbk]; rfl
 go_wp2_with (at_builtin; refine Lib.wpList_append_own_string _ rfl _ _ 132 9 rfl B 5 i0 Tryz.underlying132 Tryz.underlying9 hi hz0 hz1 hz2 _ _ _ rfl hown s rfl ?c3 ?c4 ?c5 ?_)
 case c3 => unfold maxLen; omega
 case c4 => omega
 case c5 => have := hb1.size; omega
 intro v' w2 hown' hgrow _
 have hlt : b < w1.heap.size := by
  rcases Nat.lt_or_ge b w1.heap.size with h' | h'
  ·exact h'
  ·simp [Array.getElem?_eq_none h'] at hbk
 have hb2 : w2.heap[b]? = some (.cells #[.pointer (some ⟨b, 0, none⟩), v] 150 (0, 0)) := by
  rw [hgrow.block b hlt (fun e => hne e.symm)]
  exact hbk
 have d0 : w2.cell? ⟨b, 0, none⟩ = some (.pointer (some ⟨b, 0, none⟩)) := by rw [Lib.cell_of_heap hb2]; rfl
 have d1 : w2.cell? ⟨b, 1, none⟩ = some v := by rw [Lib.cell_of_heap hb2]; rfl
 have f1 : w2.frozen? ⟨b, 1, none⟩ = false := Lib.frozen_of_heap hb2 1
 obtain ⟨ao, n', cap, rfl⟩ : ∃ ao n' cap, v' = .slice ao n' cap := by
  rcases hown'.2 with ⟨hv, _⟩ | ⟨g, cap, cur, hv, _⟩
  ·exact ⟨_, _, _, hv⟩
  ·exact ⟨_, _, _, hv⟩
 go_wp2
 go_ret2
 refine ⟨rfl, ?_, ?_⟩
 ·exact Lib.BuilderAt.put (T := 150) (e := 5) hB hb2 (bs' := bs ++ Lib.strCells s) (by simpa [Lib.strCells_length] using hown') (by decide)
 ·exact (hb1.grown hgrow (by have := hb1.size; omega) (fun k hk => (hown.lt k hk).1)).setCell (p := ⟨b, 1, none⟩) hB _
theorem strCells_mk (l : Vp.Txt) : Lib.strCells ⟨l.toArray⟩ = Lib.byteCells l := by simp [Lib.strCells, Lib.byteCells]
theorem byteCells_append (l m : Vp.Txt) : Lib.byteCells l ++ Lib.byteCells m = Lib.byteCells (l ++ m) := by simp [Lib.byteCells]
theorem isBuilder_below {T e : TypeId} {B b : Nat} {bs : List Value} {w w' : World} (h : Lib.IsBuilder T e B b bs w) (hb : Below w.heap.size w w') : Lib.IsBuilder T e B b bs w' := by
 have hA : ∀ p, Lib.BuilderAt T e B b p bs w → Lib.BuilderAt T e B b p bs w' := fun p h => by
  have hlt := h.lt
  obtain ⟨h1, v, h2, h3, h4⟩ := h
  exact ⟨h1, v, (hb.block b hlt).trans h2, own_below h3 hb, h4⟩
 exact h.imp (hA _) (hA _)
theorem ints_length (rows : List (List Vp.Txt)) : (Vp.ints rows).length = 8 * rows.length := by
 unfold Vp.ints
 induction rows with
 | nil => rfl
 | cons r rows ih => rw [List.flatMap_cons, List.length_append, ih, word_length, List.length_cons]; omega
set_option maxRecDepth 100000 in
set_option maxHeartbeats 1600000 in
theorem ints_calls (v : Value) (base : Nat) (rows : List (List Vp.Txt)) (W : World) (hv : Vars W) (hr : RowsOwn W base v rows) (hn : rows.length ≤ 65536) (hok : ∀ row ∈ rows, ∃ d : Vp.Txt, row = [d] ∧ d.length ≤ 65536 ∧ (Vp.atoi d).2 = true) :
  Calls Tryz.prog 93 #[v] W fun e w' => e = .returned (tv (Vp.ints rows)) ∧ Below W.heap.size W w' := by
 have HOK := Lib.hid hok
 have HR := Lib.hid hr
 have HV := Lib.hid hv
 obtain ⟨ra, rc, rfl⟩ := hr.slice
 clear hr hok hv
 have hb0 : Below W.heap.size W (W.alloc (.cells #[.pointer none, .slice none 0 0] 150)) := (Below.refl _ _).alloc (Nat.le_refl _) _
 have HI0 : Lib.IsBuilder 150 5 W.heap.size W.heap.size (Lib.byteCells (Vp.ints (rows.take 0))) (W.alloc (.cells #[.pointer none, .slice none 0 0] 150)) :=
  .inl ⟨Nat.le_refl _, .slice none 0 0, heap_alloc_new W _, own_nil, by simp [Value.ownBlock]⟩
 replace HI0 := Lib.hid HI0
 go_enter Tryz.func93, Tryz.ntmps93
 go_wp2
 go_loopw [10] (fun i wr => ∃ k : Nat, k ≤ rows.length ∧ i = .int .i64 k ∧ Lib.IsBuilder 150 5 W.heap.size W.heap.size (Lib.byteCells (Vp.ints (rows.take k))) wr ∧ Below W.heap.size W wr) (fun i _ => rows.length - (intOf i).toNat)
 case atStart => exact ⟨0, Nat.zero_le _, rfl, HI0.out, hb0⟩
 case round =>
  obtain ⟨k, hk, rfl, hI, hb⟩ := hrel
  replace hI := Lib.hid hI
  by_cases hlt : k < rows.length
  ·obtain ⟨gg, cap, c, hv, hc, ho, hg2⟩ := HR.out.at (List.getElem?_eq_getElem hlt)
   obtain ⟨rfl, _, rfl⟩ := Value.slice.inj hv
   have c0 := (hb.cell (p := ⟨gg, k, none⟩) hg2).trans hc
   obtain ⟨d, hd, hdl, hda⟩ := HOK.out _ (List.getElem_mem hlt)
   have HT := Lib.hid (show Vp.ints (rows.take (k + 1)) = Vp.ints (rows.take k) ++ word (Vp.atoi d).1 8 by
    unfold Vp.ints
    rw [List.take_succ_eq_append_getElem hlt, List.flatMap_append, hd]
    simp [Vp.intOfRow])
   rw [hd] at ho
   obtain ⟨g, cap2, hcv, _, _, _, hrow⟩ := own_row (n := 1) ho (by decide)
   have hcv' : c = .slice (some ⟨g, 0, none⟩) 1 cap2 := hcv
   subst hcv'
   have d0 := (hb.cell (p := ⟨g, 0, none⟩) hrow.lt).trans (hrow.cell (i := 0) (v := tv d) rfl)
   have hat := Vp.atoi_range d hda
   have HA := Lib.hid (fun W' => atoi_ok d W' hdl hda)
   have HW := Lib.hid (fun W' => word_calls (Vp.atoi d).1 8 W' (by decide) (by decide) hat.1 hat.2)
   have hil := ints_length (rows.take k)
   rw [List.length_take] at hil
   have hbl : (Lib.byteCells (Vp.ints (rows.take k))).length = (Vp.ints (rows.take k)).length := Lib.byteCells_length _
   have hwl := word_length (Vp.atoi d).1 8
   have hws := mk_size (word (Vp.atoi d).1 8)
   have hlti : (k : Int) < (rows.length : Int) := by omega
   generalize (Vp.atoi d).1 = x at HA HW HT hwl hws hat
   have HWS := Lib.hid (fun W' (h : Below wr.heap.size wr W') => writeString_calls W.heap.size W.heap.size (Lib.byteCells (Vp.ints (rows.take k))) ⟨(word x 8).toArray⟩ W' (isBuilder_below hI.out h) (by omega) (Nat.le_trans hb.size h.size))
   clear hc ho hv hrow hcv hd hil hbl hwl hws hat hda hdl
   go_wp2_with (first
    | (go_at_call 125; refine (HA.out _).mono ?_; rintro e w1 ⟨rfl, hb1⟩)
    | (go_at_call 127; refine (HW.out _).mono ?_; rintro e w2 ⟨rfl, hb2⟩)
    | (go_at_call 126; refine (HWS.out _ (below_then hb1 hb2)).mono ?_; rintro e w3 ⟨rfl, hI3, hb3⟩))
   refine ⟨⟨k + 1, by omega, by go_num, ?_, (below_then hb (below_then hb1 hb2)).trans hb3⟩, by simp [intOf]; omega⟩
   rw [HT.out, ← byteCells_append, ← strCells_mk (word x 8)]
   exact .inr hI3
  ·obtain rfl : k = rows.length := by omega
   have hI2 := hI.out
   rw [List.take_length] at hI2
   have HS := Lib.hid (Tryz.Builder_String_any W.heap.size W.heap.size (Vp.ints rows) _ hI2 hb.size)
   go_wp2_with (go_at_call 128; refine HS.out.mono ?_; rintro e w1 ⟨rfl, hb1⟩)
   go_ret
   exact ⟨rfl, hb.trans hb1⟩

set_option maxRecDepth 100000 in
set_option maxHeartbeats 1600000 in
theorem bools_calls (v : Value) (base : Nat) (rows : List (List Vp.Txt)) (W : World) (hr : RowsOwn W base v rows) (hn : rows.length ≤ 65536) (hok : ∀ row ∈ rows, ∃ d : Vp.Txt, row = [d]) :
  Calls Tryz.prog 95 #[v] W fun e w' => e = .returned (tv (Vp.bools rows)) ∧ Below W.heap.size W w' := by
 have HOK := Lib.hid hok
 have HR := Lib.hid hr
 obtain ⟨ra, rc, rfl⟩ := hr.slice
 clear hr hok
 have htl : (Vp.truths rows).length = rows.length := by simp [Vp.truths]
 go_enter Tryz.func95, Tryz.ntmps95
 go_wp2
 go_loopw [3, 8] (fun u i wr => ∃ k : Nat, k ≤ rows.length ∧ i = .int .i64 k ∧ wr.ownsRow W.heap.size 4 1 u k (bools (Vp.truths (rows.take k))) ∧ Below W.heap.size W wr) (fun _ i _ => rows.length - (intOf i).toNat)
 case atStart => exact ⟨0, Nat.zero_le _, rfl, own_nil, Below.refl _ _⟩
 case round =>
  obtain ⟨k, hk, rfl, hu, hb⟩ := hrel
  replace hu := Lib.hid hu
  by_cases hlt : k < rows.length
  ·obtain ⟨gg, cap, c, hv, hc, ho, hg2⟩ := HR.out.at (List.getElem?_eq_getElem hlt)
   obtain ⟨rfl, _, rfl⟩ := Value.slice.inj hv
   have c0 := (hb.cell (p := ⟨gg, k, none⟩) hg2).trans hc
   obtain ⟨d, hd⟩ := HOK.out _ (List.getElem_mem hlt)
   obtain ⟨ua, uc, hua⟩ := own_slice hu.out
   subst hua
   have HT := Lib.hid (show bools (Vp.truths (rows.take (k + 1))) = bools (Vp.truths (rows.take k)) ++ [.bool (decide (d = [116]))] by
    unfold Vp.truths bools
    rw [List.take_succ_eq_append_getElem hlt, List.map_append, List.map_append, hd]; rfl)
   rw [hd] at ho
   obtain ⟨g, cap2, hcv, _, _, _, hrow⟩ := own_row (n := 1) ho (by decide)
   have hcv' : c = .slice (some ⟨g, 0, none⟩) 1 cap2 := hcv
   subst hcv'
   have d0 := (hb.cell (p := ⟨g, 0, none⟩) hrow.lt).trans (hrow.cell (i := 0) (v := tv d) rfl)
   have HNE : some g ≠ (Value.slice ua k uc).ownBlock := by
    rcases own_apart (own_below ho (below_then (Below.refl _ _) hb)) hu.out (by decide) with h | h
    ·simp [Value.ownBlock] at h
    ·exact h
   have hglt := Nat.lt_of_lt_of_le hrow.lt hb.size
   have hx : (d == Vp.bool true) = decide (d = [116]) := by
    rw [Bool.eq_iff_iff, beq_iff_eq, decide_eq_true_eq]; rfl
   generalize decide (d = [116]) = q at hx HT
   have hlti : (k : Int) < (rows.length : Int) := by omega
   clear hc ho hv hrow hcv hd
   go_wp2
   have HO := hu.out
   go_region_held3 (fun w' => w'.cell? ⟨g, 0, none⟩ = some (tv d) ∧ Below W.heap.size W w')
    (first | exact ⟨d0, hb⟩ | exact ⟨d0, below_drew hb⟩ | exact ⟨cell_alloc d0 _, below_drew (below_alloc hb _)⟩ | exact ⟨(hg4.cell_far ⟨g, 0, none⟩ (by simp; omega) HNE).trans (cell_alloc d0 _), (below_drew (below_alloc hb _)).trans hb4⟩ | (go_split_ands; (refine ⟨?_, ?_⟩ <;> assumption)))
    (first | (go_at_call 96; refine (bool_calls true _).mono ?_; rintro e w' ⟨rfl, rfl⟩) | (refine step_app (by rfl) _ _ 102 4 (by rfl) W.heap.size 1 1 (.bool false) Tryz.underlying102 info_boolc rfl (by decide) _ _ _ [.bool q] rfl (by intro y hy; rw [List.mem_singleton.1 hy]; rfl) (by rfl) _ (by rfl) (blk_new _ _) (HO.alloc _) (by omega) (by omega) (by have := hb.size; simp; omega) ?_; intro g4 cap4 w4 ho4 hb4 hg4))
   all_goals
    go_wp2
    exact ⟨⟨k + 1, by omega, by go_num, by rw [HT.out]; exact ho4, (below_drew (below_alloc hb _)).trans hb4⟩, by simp [intOf]; omega⟩
  ·obtain rfl : k = rows.length := by omega
   have hu2 := hu.out
   rw [List.take_length, ← htl] at hu2
   have HB := Lib.hid (bitsOf_calls _ _ (Vp.truths rows) _ hu2 (by omega))
   obtain ⟨ua, uc, hua⟩ := own_slice hu2
   rw [htl] at hua
   subst hua
   go_wp2_with (go_at_call 124; refine HB.out.mono ?_; rintro e w' ⟨rfl, hb2⟩)
   go_ret
   exact ⟨rfl, below_then hb hb2⟩
end Go.Proofs.YtobhjlchpnpleaaGreatDoor
