/- Several texts in one: BldE, BldF. -/
import Derived.Test.YtobhjlchpnpleaaGreatDoorCa12
import Derived.Deep.RegionWith
/- Package build: the builder's build at the leaves, walked. -/
namespace Go.Proofs.YtobhjlchpnpleaaGreatDoor
open Go.RowKit
set_option linter.unusedVariables false
set_option linter.unusedSimpArgs false

theorem nodes_at_b {W : World} {b i : Nat} {vv : Value} {ns : List Tp.Nd} {full : Bool} (h : NodesAt W vv ns) (hb : BldAt W b vv full) (hi : i < ns.length) :
  ∃ bk o c, vv = .slice (some ⟨bk, o, none⟩) ns.length c ∧ ¬ bk = b ∧ bk < W.heap.size ∧ W.cell? ⟨bk, o + i * 3, none⟩ = some (.int .i64 (Tp.kindOf ns i)) ∧ ns.length ≤ c ∧ c ≤ maxLen := by
 obtain ⟨a, c, rfl, h1, h2, h3⟩ := h
 obtain ⟨bk, o, rfl, hk, hc⟩ := h3 (by intro e; rw [e] at hi; exact Nat.not_lt_zero _ hi)
 have hq := (hc i _ (List.getElem?_eq_getElem hi)).1
 have hk0 : (ns[i]).kind = Tp.kindOf ns i := by unfold Tp.kindOf; rw [List.getD_eq_getElem?_getD, List.getElem?_eq_getElem hi]; rfl
 rw [hk0] at hq
 refine ⟨bk, o, c, rfl, ?_, hk, hq, h1, h2⟩
 rintro rfl
 have hb' : W.heap[bk]? = _ := hb
 simp only [World.cell?, hb', Option.isSome_none, Bool.false_eq_true, if_false] at hq
 generalize o + i * 3 = q at hq
 match q, hq with
 | 0, hq => simp at hq
 | 1, hq => simp at hq
 | q + 2, hq => simp at hq
theorem rows_sizes (rows : List (List Vp.Txt)) (h : ∀ row ∈ rows, ∃ d : Vp.Txt, row = [d] ∧ d.length ≤ 16) : (rows.map Vp.size0).sum ≤ rows.length * 16 ∧ rows.flatten.length = rows.length ∧ (Vp.join rows.flatten).length ≤ rows.length * 16 := by
 induction rows with
 | nil => simp [Vp.join]
 | cons r rows ih =>
  obtain ⟨d, rfl, hd⟩ := h r (by simp)
  obtain ⟨h1, h2, h3⟩ := ih fun row hr => h row (by simp [hr])
  have e : Vp.join ([d] :: rows).flatten = d ++ Vp.join rows.flatten := by simp [Vp.join]
  rw [e, List.length_append, List.map_cons, List.sum_cons, List.flatten_cons, List.length_append, h2, List.length_cons, Nat.succ_mul]
  have e0 : Vp.size0 [d] = d.length := rfl
  rw [e0]
  simp only [List.length_cons, List.length_nil]
  omega
theorem own_lit_at (w : World) (n : Nat) (cs : Array Value) (xs : List Vp.Txt) (hn : w.heap.size = n) (hc : cs = (xs.map tv).toArray) (hx : xs.length ≤ 65536) : (w.alloc (.cells cs 9)).ownsRow 0 9 1 (.slice (some ⟨n, 0, none⟩) xs.length xs.length) xs.length (xs.map tv) := by
 subst hn hc
 have := own_lit w 0 9 (xs.map tv) (Nat.zero_le _) (by rw [List.length_map]; unfold maxLen; omega)
 rwa [List.length_map] at this
theorem six_b {W wr : World} {b O : Nat} {vv : Value} {fl : Bool} {n : Int} {v e d : Vp.Txt} {k : Value} (hv : Vars W) (h : BSt W wr b O vv fl n v e d k) (h6 : 6 ≤ b) : Vars wr := hv.grown h.grown h6

theorem rows_far {w : World} {base O j : Nat} {v x : Value} {rows : List (List Vp.Txt)} {cs : Array Value} (h : RowsOwn w base v rows) (hO : w.heap[O]? = some (.cells cs 27)) : RowsOwn (w.setCell ⟨O, j, none⟩ x) base v rows := by
 obtain ⟨ds, h1, h2⟩ := h
 have far : ∀ (e : TypeId), e ≠ 27 → ∀ g, (∃ cur, w.heap[g]? = some (Obj.cells cur e (0, 0))) → (w.setCell ⟨O, j, none⟩ x).heap[g]? = w.heap[g]? := fun e he g hg => by
  obtain ⟨cur, hg⟩ := hg
  refine Below.heap_setCell w ⟨O, j, none⟩ x g ?_
  rintro rfl
  rw [hO] at hg
  simp only [Option.some.injEq, Obj.cells.injEq] at hg
  exact he hg.2.1.symm
 refine ⟨ds, own_same h1 (fun g _ hg => far _ (by decide) g hg), fun k row hk => ?_⟩
 obtain ⟨c, h3, h4⟩ := h2 k row hk
 exact ⟨c, h3, own_same h4 (fun g _ hg => far _ (by decide) g hg)⟩

set_option maxRecDepth 100000 in
set_option maxHeartbeats 6400000 in
theorem build_int (ns : List Tp.Nd) (i b : Nat) (vs : List Vp.Txt) (v vv : Value) (W : World) (hb : BldAt W b vv false) (ht : TextsAt W v vs) (hnd : NodesAt W vv ns) (hv : Vars W) (hm : Tp.may ns = true) (hi : i < ns.length) (h6 : 6 ≤ b) (hl : vs.length ≤ 64) (hf : ∀ x ∈ vs, Vp.Fit ns i x) (hk : Tp.kindOf ns i = 0) :
  Calls Tryz.prog 62 #[.pointer (some ⟨b, 0, none⟩), .int .i64 (i : Int), v] W (BuildQ ns i vs vv b false W) := by
 have hbi : ¬ ((64 : Int) < (vs.length : Int)) := by omega
 have hdec : decide ((64 : Int) < (vs.length : Int)) = false := decide_eq_false hbi
 have HL := Lib.hid (fun x (h : x ∈ vs) => Vp.fit_len (hf x h))
 have HF := Lib.hid hf
 have HBE := Lib.hid (Vp.build_eq ns hm i hi vs)
 rw [if_neg (show ¬ 64 < vs.length by omega), if_pos hk] at HBE
 have HOK := Lib.hid (show ∀ row ∈ Vp.pts [[48]] vs, ∃ d : Vp.Txt, row = [d] ∧ d.length ≤ 65536 ∧ (Vp.atoi d).2 = true from fun row hr => by
  obtain ⟨x, hx, rfl⟩ := List.mem_map.1 hr
  obtain ⟨y, h0, h1, hp, _⟩ := Vp.row_int hk (hf x hx)
  exact ⟨_, hp, by have := Vp.digitsLen y h0 h1; omega, by rw [Vp.atoi_itoa y h0 h1]⟩)
 clear hf
 have hb1 : Below W.heap.size W (W.alloc (.cells #[.int .i64 0, .int .i64 0, .int .i64 0, .string ⟨#[]⟩, .string ⟨#[]⟩, .string ⟨#[]⟩, .slice none 0 0] 27)) := (Below.refl _ _).alloc (Nat.le_refl _) _
 have HV := Lib.hid (valid_calls v vs _ (ht.below hb1) (by omega))
 have HBL := Lib.hid hb
 have HTX := Lib.hid ht
 have HND := Lib.hid hnd
 have HVV := Lib.hid hv
 obtain ⟨bk, o, nc, rfl, hbkb, hbk, hkc, hnl, hnc⟩ := nodes_at_b hnd hb hi
 rw [hk] at hkc
 have hbkb' : ¬ b = bk := fun e => hbkb e.symm
 obtain ⟨a, c, rfl, hc, hmx, h3⟩ := ht
 unfold maxLen at hnc hmx
 have hii : (i : Int) < (ns.length : Int) := by omega
 clear h3 hb hnd hv
 go_enter Tryz.func62, Tryz.ntmps62
 go_wp2_with (fail)
 refine HV.out.mono ?_
 rintro e w1 ⟨rfl, hb2⟩
 have HB := Lib.hid (below_then hb1 hb2)
 have hbl1 := HBL.out.below HB.out
 have hR : w1.heap[W.heap.size]? = some (.cells #[.int .i64 0, .int .i64 0, .int .i64 0, .string ⟨#[]⟩, .string ⟨#[]⟩, .string ⟨#[]⟩, .slice none 0 0] 27) := (hb2.block _ (by simp)).trans (heap_alloc_new W _)
 have S0 := Lib.hid (BSt.begin false (vs.length : Int) (Vp.valid vs) HBL.out HB.out hR)
 have hkc1 := (HB.out.cell (p := ⟨bk, o + i * 3, none⟩) hbk).trans hkc
 have c0 := hbl1.c0
 have c1 := hbl1.c1
 have hbf := hbl1.f1
 have hblt := hbl1.lt
 have hbk1 : bk < w1.heap.size := by have := HB.out.size; omega
 have hn2 : W.heap.size ≤ w1.heap.size := HB.out.size
 clear hR hb2 hb1 hkc hbl1
 go_wp2_with (fail)
 have S1 := Lib.hid (S0.out.alloc (.cells #[.string ⟨#[48]⟩] 9))
 refine (pts_calls _ _ vs [[48]] _ (six_b HVV.out S1.out h6) (texts_grown HTX.out HBL.out rfl S1.out.grown) (own_lit_at _ (w1.heap.size + 1) _ [[48]] (by simp) rfl (by decide)) HL.out (by omega)).mono ?_
 rintro e w2 ⟨r, rfl, hro, hb3⟩
 have S2 := Lib.hid (S1.out.below hb3)
 have HRO := Lib.hid hro
 obtain ⟨ra, rc, rfl⟩ := hro.slice
 clear hro hb3
 go_wp2_with (fail)
 refine (ints_calls _ _ _ _ (six_b HVV.out S2.out h6) HRO.out (by simp [Vp.pts]; omega) HOK.out).mono ?_
 rintro e w3 ⟨rfl, hb4⟩
 have S3 := Lib.hid (S2.out.below hb4)
 obtain ⟨r0, r1, r2, r3, r4, r5, r6, q0, q1, q2, q3, q4, q5, q6⟩ := zero_cells S3.out.res
 obtain ⟨o0, o1, o2, o3, o4, o5, o6, p0, p1, p2, p3, p4, p5, p6⟩ := zero_cells S3.out.out
 have hOR : ¬ w1.heap.size = W.heap.size := by have := S3.out.olt; omega
 have hRO : ¬ W.heap.size = w1.heap.size := by have := S3.out.olt; omega
 have S4 := Lib.hid (S3.out.set 5 (tv (Vp.ints (Vp.pts [[48]] vs))) [] (Vp.ints (Vp.pts [[48]] vs)) (.slice none 0 0) rfl)
 clear c0 c1 hbf hkc1
 go_wp2
 (try simp only [Exit.inBlock, Exit.then])
 refine bodyPost_ret (results_cell_row rfl _ _ W.heap.size 27 (arrC 0 0 vs.length (Vp.valid vs) [] (Vp.ints (Vp.pts [[48]] vs)) (.slice none 0 0)) (0, 0) _ rfl S4.out.resAt Tryz.underlying27 rfl info_array_size) rfl ?_
 exact S4.out.done (KidsOwn.nil _ _) (fun h => by cases h) (fun _ => by rw [HBE.out]; exact ⟨rfl, rfl⟩)
set_option maxRecDepth 100000 in
set_option maxHeartbeats 6400000 in
theorem build_bool (ns : List Tp.Nd) (i b : Nat) (vs : List Vp.Txt) (v vv : Value) (W : World) (hb : BldAt W b vv false) (ht : TextsAt W v vs) (hnd : NodesAt W vv ns) (hv : Vars W) (hm : Tp.may ns = true) (hi : i < ns.length) (h6 : 6 ≤ b) (hl : vs.length ≤ 64) (hf : ∀ x ∈ vs, Vp.Fit ns i x) (hk : Tp.kindOf ns i = 1) :
  Calls Tryz.prog 62 #[.pointer (some ⟨b, 0, none⟩), .int .i64 (i : Int), v] W (BuildQ ns i vs vv b false W) := by
 have hbi : ¬ ((64 : Int) < (vs.length : Int)) := by omega
 have hdec : decide ((64 : Int) < (vs.length : Int)) = false := decide_eq_false hbi
 have HL := Lib.hid (fun x (h : x ∈ vs) => Vp.fit_len (hf x h))
 have HF := Lib.hid hf
 have HBE := Lib.hid (Vp.build_eq ns hm i hi vs)
 rw [if_neg (show ¬ 64 < vs.length by omega), if_neg (show ¬ Tp.kindOf ns i = 0 by omega), if_pos hk] at HBE
 have HOK := Lib.hid (show ∀ row ∈ Vp.pts [[102]] vs, ∃ d : Vp.Txt, row = [d] from fun row hr => by
  obtain ⟨x, hx, rfl⟩ := List.mem_map.1 hr
  obtain ⟨y, hp, _⟩ := Vp.row_bool hk (hf x hx)
  exact ⟨_, hp⟩)
 clear hf
 have hb1 : Below W.heap.size W (W.alloc (.cells #[.int .i64 0, .int .i64 0, .int .i64 0, .string ⟨#[]⟩, .string ⟨#[]⟩, .string ⟨#[]⟩, .slice none 0 0] 27)) := (Below.refl _ _).alloc (Nat.le_refl _) _
 have HV := Lib.hid (valid_calls v vs _ (ht.below hb1) (by omega))
 have HBL := Lib.hid hb
 have HTX := Lib.hid ht
 have HND := Lib.hid hnd
 have HVV := Lib.hid hv
 obtain ⟨bk, o, nc, rfl, hbkb, hbk, hkc, hnl, hnc⟩ := nodes_at_b hnd hb hi
 rw [hk] at hkc
 have hbkb' : ¬ b = bk := fun e => hbkb e.symm
 obtain ⟨a, c, rfl, hc, hmx, h3⟩ := ht
 unfold maxLen at hnc hmx
 have hii : (i : Int) < (ns.length : Int) := by omega
 clear h3 hb hnd hv
 go_enter Tryz.func62, Tryz.ntmps62
 go_wp2_with (fail)
 refine HV.out.mono ?_
 rintro e w1 ⟨rfl, hb2⟩
 have HB := Lib.hid (below_then hb1 hb2)
 have hbl1 := HBL.out.below HB.out
 have hR : w1.heap[W.heap.size]? = some (.cells #[.int .i64 0, .int .i64 0, .int .i64 0, .string ⟨#[]⟩, .string ⟨#[]⟩, .string ⟨#[]⟩, .slice none 0 0] 27) := (hb2.block _ (by simp)).trans (heap_alloc_new W _)
 have S0 := Lib.hid (BSt.begin false (vs.length : Int) (Vp.valid vs) HBL.out HB.out hR)
 have hkc1 := (HB.out.cell (p := ⟨bk, o + i * 3, none⟩) hbk).trans hkc
 have c0 := hbl1.c0
 have c1 := hbl1.c1
 have hbf := hbl1.f1
 have hblt := hbl1.lt
 have hbk1 : bk < w1.heap.size := by have := HB.out.size; omega
 have hn2 : W.heap.size ≤ w1.heap.size := HB.out.size
 clear hR hb2 hb1 hkc hbl1
 go_wp2_with (go_at_call 96; refine (bool_calls false _).mono ?_; rintro e w' ⟨rfl, rfl⟩) <;> skip
 go_wp2_with (fail)
 have S1 := Lib.hid (S0.out.alloc (.cells #[.string ⟨#[102]⟩] 9))
 refine (pts_calls _ _ vs [[102]] _ (six_b HVV.out S1.out h6) (texts_grown HTX.out HBL.out rfl S1.out.grown) (own_lit_at _ (w1.heap.size + 1) _ [[102]] (by simp) rfl (by decide)) HL.out (by omega)).mono ?_
 rintro e w2 ⟨r, rfl, hro, hb3⟩
 have S2 := Lib.hid (S1.out.below hb3)
 have HRO := Lib.hid hro
 obtain ⟨ra, rc, rfl⟩ := hro.slice
 clear hro hb3
 go_wp2_with (fail)
 refine (bools_calls _ _ _ _ HRO.out (by simp [Vp.pts]; omega) HOK.out).mono ?_
 rintro e w3 ⟨rfl, hb4⟩
 have S3 := Lib.hid (S2.out.below hb4)
 obtain ⟨r0, r1, r2, r3, r4, r5, r6, q0, q1, q2, q3, q4, q5, q6⟩ := zero_cells S3.out.res
 obtain ⟨o0, o1, o2, o3, o4, o5, o6, p0, p1, p2, p3, p4, p5, p6⟩ := zero_cells S3.out.out
 have hOR : ¬ w1.heap.size = W.heap.size := by have := S3.out.olt; omega
 have hRO : ¬ W.heap.size = w1.heap.size := by have := S3.out.olt; omega
 have S4 := Lib.hid (S3.out.set 5 (tv (Vp.bools (Vp.pts [[102]] vs))) [] (Vp.bools (Vp.pts [[102]] vs)) (.slice none 0 0) rfl)
 clear c0 c1 hbf hkc1
 go_wp2
 (try simp only [Exit.inBlock, Exit.then])
 refine bodyPost_ret (results_cell_row rfl _ _ W.heap.size 27 (arrC 0 0 vs.length (Vp.valid vs) [] (Vp.bools (Vp.pts [[102]] vs)) (.slice none 0 0)) (0, 0) _ rfl S4.out.resAt Tryz.underlying27 rfl info_array_size) rfl ?_
 exact S4.out.done (KidsOwn.nil _ _) (fun h => by cases h) (fun _ => by rw [HBE.out]; exact ⟨rfl, rfl⟩)
set_option maxRecDepth 100000 in
set_option maxHeartbeats 6400000 in
theorem build_str (ns : List Tp.Nd) (i b : Nat) (vs : List Vp.Txt) (v vv : Value) (W : World) (hb : BldAt W b vv false) (ht : TextsAt W v vs) (hnd : NodesAt W vv ns) (hv : Vars W) (hm : Tp.may ns = true) (hi : i < ns.length) (h6 : 6 ≤ b) (hl : vs.length ≤ 64) (hf : ∀ x ∈ vs, Vp.Fit ns i x) (hk : Tp.kindOf ns i = 2) :
  Calls Tryz.prog 62 #[.pointer (some ⟨b, 0, none⟩), .int .i64 (i : Int), v] W (BuildQ ns i vs vv b false W) := by
 have hbi : ¬ ((64 : Int) < (vs.length : Int)) := by omega
 have hdec : decide ((64 : Int) < (vs.length : Int)) = false := decide_eq_false hbi
 have HL := Lib.hid (fun x (h : x ∈ vs) => Vp.fit_len (hf x h))
 have HF := Lib.hid hf
 have HBE := Lib.hid (Vp.build_eq ns hm i hi vs)
 rw [if_neg (show ¬ 64 < vs.length by omega), if_neg (show ¬ Tp.kindOf ns i = 0 by omega), if_neg (show ¬ Tp.kindOf ns i = 1 by omega), if_pos hk] at HBE
 have hone : ∀ row ∈ Vp.pts [[]] vs, ∃ d : Vp.Txt, row = [d] ∧ d.length ≤ 16 := fun row hr => by
  obtain ⟨x, hx, rfl⟩ := List.mem_map.1 hr
  obtain ⟨y, hs, hp, _⟩ := Vp.row_str hk (hf x hx)
  exact ⟨_, hp, hs⟩
 obtain ⟨rows, hrows⟩ : ∃ rows, Vp.pts [[]] vs = rows := ⟨_, rfl⟩
 have hrl : rows.length = vs.length := by rw [← hrows]; simp [Vp.pts]
 rw [hrows] at hone HBE
 have HROWS := Lib.hid hrows
 obtain ⟨hz1, hz2, hz3⟩ := rows_sizes rows hone
 have HZ1 := Lib.hid (show (rows.map Vp.size0).sum ≤ 2147483647 by omega)
 have HZ2 := Lib.hid (show rows.flatten.length ≤ 65536 by omega)
 have HZ3 := Lib.hid (show (Vp.join rows.flatten).length ≤ 65536 by omega)
 have HZ4 := Lib.hid (show rows.length ≤ 65536 by omega)
 clear hz1 hz2 hz3 hrl
 obtain ⟨fl, hfl⟩ : ∃ fl, rows.flatten = fl := ⟨_, rfl⟩
 have HFL := Lib.hid hfl
 rw [hfl] at HBE HZ2 HZ3
 clear hfl
 have HONE := Lib.hid hone
 clear hrows hone
 clear hf
 have hb1 : Below W.heap.size W (W.alloc (.cells #[.int .i64 0, .int .i64 0, .int .i64 0, .string ⟨#[]⟩, .string ⟨#[]⟩, .string ⟨#[]⟩, .slice none 0 0] 27)) := (Below.refl _ _).alloc (Nat.le_refl _) _
 have HV := Lib.hid (valid_calls v vs _ (ht.below hb1) (by omega))
 have HBL := Lib.hid hb
 have HTX := Lib.hid ht
 have HND := Lib.hid hnd
 have HVV := Lib.hid hv
 obtain ⟨bk, o, nc, rfl, hbkb, hbk, hkc, hnl, hnc⟩ := nodes_at_b hnd hb hi
 rw [hk] at hkc
 have hbkb' : ¬ b = bk := fun e => hbkb e.symm
 obtain ⟨a, c, rfl, hc, hmx, h3⟩ := ht
 unfold maxLen at hnc hmx
 have hii : (i : Int) < (ns.length : Int) := by omega
 clear h3 hb hnd hv
 go_enter Tryz.func62, Tryz.ntmps62
 go_wp2_with (fail)
 refine HV.out.mono ?_
 rintro e w1 ⟨rfl, hb2⟩
 have HB := Lib.hid (below_then hb1 hb2)
 have hbl1 := HBL.out.below HB.out
 have hR : w1.heap[W.heap.size]? = some (.cells #[.int .i64 0, .int .i64 0, .int .i64 0, .string ⟨#[]⟩, .string ⟨#[]⟩, .string ⟨#[]⟩, .slice none 0 0] 27) := (hb2.block _ (by simp)).trans (heap_alloc_new W _)
 have S0 := Lib.hid (BSt.begin false (vs.length : Int) (Vp.valid vs) HBL.out HB.out hR)
 have hkc1 := (HB.out.cell (p := ⟨bk, o + i * 3, none⟩) hbk).trans hkc
 have c0 := hbl1.c0
 have c1 := hbl1.c1
 have hbf := hbl1.f1
 have hblt := hbl1.lt
 have hbk1 : bk < w1.heap.size := by have := HB.out.size; omega
 have hn2 : W.heap.size ≤ w1.heap.size := HB.out.size
 clear hR hb2 hb1 hkc hbl1
 go_wp2_with (fail)
 have S1 := Lib.hid (S0.out.alloc (.cells #[.string ⟨#[]⟩] 9))
 refine (pts_calls _ _ vs [[]] _ (six_b HVV.out S1.out h6) (texts_grown HTX.out HBL.out rfl S1.out.grown) (own_lit_at _ (w1.heap.size + 1) _ [[]] (by simp) rfl (by decide)) HL.out (by omega)).mono ?_
 rintro e w2 ⟨r, rfl, hro, hb3⟩
 have S2 := Lib.hid (S1.out.below hb3)
 rw [HROWS.out] at hro
 have HRO := Lib.hid hro
 obtain ⟨ra, rc, rfl⟩ := hro.slice
 clear hro hb3
 go_wp2_with (fail)
 have HEN := ends_calls (.slice ra rows.length rc) (.func (.func 98) #[] #[]) _ rows Vp.size0 w2 HRO.out HZ4.out HZ1.out 98 rfl enter_many1 (fun row c W' hr ho => many1_calls row c W' (by obtain ⟨d, h, _⟩ := HONE.out row hr; exact ⟨d, h⟩) ho)
 refine HEN.mono ?_
 rintro e w3 ⟨rfl, hb4⟩
 have S3 := Lib.hid (S2.out.below hb4)
 have HRO3 := Lib.hid (HRO.out.below hb4)
 obtain ⟨r0, r1, r2, r3, r4, r5, r6, q0, q1, q2, q3, q4, q5, q6⟩ := zero_cells S3.out.res
 obtain ⟨o0, o1, o2, o3, o4, o5, o6, p0, p1, p2, p3, p4, p5, p6⟩ := zero_cells S3.out.out
 have hOR : ¬ w1.heap.size = W.heap.size := by have := S3.out.olt; omega
 have hRO : ¬ W.heap.size = w1.heap.size := by have := S3.out.olt; omega
 have S4 := Lib.hid (S3.out.set 4 (tv (Vp.ends (rows.map Vp.size0))) (Vp.ends (rows.map Vp.size0)) [] (.slice none 0 0) rfl)
 clear HEN
 have HRO4 := Lib.hid (rows_far (j := 4) (x := tv (Vp.ends (rows.map Vp.size0))) HRO3.out S3.out.out)
 clear c0 c1 hbf hkc1 hb4
 go_wp2_with (fail)
 refine (concat_calls _ _ rows _ HRO4.out HZ4.out (by rw [HFL.out]; exact HZ2.out)).mono ?_
 rintro e w5 ⟨r5, rfl, ho5, hb5⟩
 have S5 := Lib.hid (S4.out.below hb5)
 rw [HFL.out] at ho5
 obtain ⟨ja, jc, hj, HJ⟩ := join_calls _ fl _ (own_texts ho5) (Nat.le_trans HZ2.out (by decide)) (Nat.le_trans HZ3.out (by decide))
 subst hj
 replace HJ := Lib.hid HJ
 clear r0 r1 r2 r3 r4 r5 r6 q0 q1 q2 q3 q4 q5 q6 o0 o1 o2 o3 o4 o5 o6 p0 p1 p2 p3 p4 p5 p6 ho5 hb5
 go_wp2_with (fail)
 refine HJ.out.mono ?_
 rintro e w6 ⟨rfl, hb6⟩
 have S6 := Lib.hid (S5.out.below hb6)
 obtain ⟨r0, r1, r2, r3, r4, r5, r6, q0, q1, q2, q3, q4, q5, q6⟩ := zero_cells S6.out.res
 obtain ⟨o0, o1, o2, o3, o4, o5, o6, p0, p1, p2, p3, p4, p5, p6⟩ := zero_cells S6.out.out
 have S7 := Lib.hid (S6.out.set 5 (tv (Vp.join fl)) (Vp.ends (rows.map Vp.size0)) (Vp.join fl) (.slice none 0 0) rfl)
 clear hb6
 go_wp2
 (try simp only [Exit.inBlock, Exit.then])
 refine bodyPost_ret (results_cell_row rfl _ _ W.heap.size 27 (arrC 0 0 vs.length (Vp.valid vs) (Vp.ends (rows.map Vp.size0)) (Vp.join fl) (.slice none 0 0)) (0, 0) _ rfl S7.out.resAt Tryz.underlying27 rfl info_array_size) rfl ?_
 exact S7.out.done (KidsOwn.nil _ _) (fun h => by cases h) (fun _ => by rw [HBE.out]; exact ⟨rfl, rfl⟩)
end Go.Proofs.YtobhjlchpnpleaaGreatDoor

/- Package build: the builder's build at a list, walked. -/
namespace Go.Proofs.YtobhjlchpnpleaaGreatDoor
open Go.RowKit
set_option linter.unusedVariables false
set_option linter.unusedSimpArgs false

def BuildOK (ns : List Tp.Nd) (n : Nat) : Prop := ∀ (i b : Nat) (vs : List Vp.Txt) (v vv : Value) (full : Bool) (W : World), i < ns.length → ns.length - i ≤ n → BldAt W b vv full → TextsAt W v vs → NodesAt W vv ns → Vars W → 6 ≤ b → vs.length ≤ 140737488351232 → (∀ x ∈ vs, Vp.Fit ns i x) →
 Calls Tryz.prog 62 #[.pointer (some ⟨b, 0, none⟩), .int .i64 (i : Int), v] W (BuildQ ns i vs vv b full W)
theorem BSt.call {W wr w' : World} {b O : Nat} {vv : Value} {fl f' : Bool} {n : Int} {v e d : Vp.Txt} {k : Value} (h : BSt W wr b O vv fl n v e d k) (hg : wr.grownBy w' (some b)) (hb : BldAt w' b vv f') : BSt W w' b O vv f' n v e d k where
 grown := ⟨hg.os.trans h.grown.os, hg.tape.trans h.grown.tape, hg.output.trans h.grown.output, Nat.le_trans h.grown.size hg.size, fun j hj hr => (hg.block j (Nat.lt_of_lt_of_le hj h.grown.size) hr).trans (h.grown.block j hj hr)⟩
 bld := hb
 blt := h.blt
 res := (hg.block _ (Array.getElem?_eq_some_iff.1 h.res).1 (fun e => by have := Option.some.inj e; have := h.blt; omega)).trans h.res
 out := (hg.block _ (Array.getElem?_eq_some_iff.1 h.out).1 (fun e => by have := Option.some.inj e; have := h.blt; have := h.olt; omega)).trans h.out
 olt := h.olt
theorem BSt.doneA {W wr : World} {b O : Nat} {vv : Value} {fl full : Bool} {n : Int} {v e d : Vp.Txt} {k : Value} {ks : List Arr} {ns : List Tp.Nd} {i : Nat} {vs : List Vp.Txt} (h : BSt W wr b O vv fl n v e d k) (o : Obj)
  (hk : KidsOwn ((set7 wr W.heap.size (.int .i64 0) (.int .i64 0) (.int .i64 n) (tv v) (tv e) (tv d) k).alloc o) (fun g => O < g) ks k) (hfl : full = true → fl = true) (hres : full = false → match Vp.build ns i vs with | none => fl = true | some x => fl = false ∧ .mk 0 0 n v e d ks = x) :
  BuildQ ns i vs vv b full W (.returned (arrV 0 0 n v e d k)) ((set7 wr W.heap.size (.int .i64 0) (.int .i64 0) (.int .i64 n) (tv v) (tv e) (tv d) k).alloc o) := by
 have hsz := set7_size wr W.heap.size (.int .i64 0) (.int .i64 0) (.int .i64 n) (tv v) (tv e) (tv d) k
 have ha := alloc_rest (set7 wr W.heap.size (.int .i64 0) (.int .i64 0) (.int .i64 n) (tv v) (tv e) (tv d) k) o
 have hr := set7_rest wr W.heap.size (.int .i64 0) (.int .i64 0) (.int .i64 n) (tv v) (tv e) (tv d) k
 have hbl := h.bld.lt
 have hgs := h.grown.size
 refine ⟨.mk 0 0 n v e d ks, _, fl, rfl, ⟨k, rfl, KidsOwn.weak ks _ _ k (fun g hg _ => by have := h.olt; omega) hk⟩, ?_, ?_, hfl, hres⟩
 ·exact (Below.heap_alloc _ _ b (by rw [hsz]; exact hbl)).trans ((set7_far _ _ _ (by have := h.blt; omega) _ _ _ _ _ _ _).trans h.bld)
 ·refine ⟨ha.1.trans (hr.1.trans h.grown.os), ha.2.1.trans (hr.2.1.trans h.grown.tape), ha.2.2.trans (hr.2.2.trans h.grown.output), ?_, fun j hj hjb => ?_⟩
  ·rw [World.size_alloc, hsz]; omega
  ·rw [Below.heap_alloc _ _ j (by rw [hsz]; omega)]
   exact (set7_far _ _ _ (by omega) _ _ _ _ _ _ _).trans (h.grown.block j hj hjb)
theorem BSt.resA {W wr : World} {b O : Nat} {vv : Value} {fl : Bool} {n : Int} {v e d : Vp.Txt} {k : Value} (h : BSt W wr b O vv fl n v e d k) (o : Obj) :
  ((set7 wr W.heap.size (.int .i64 0) (.int .i64 0) (.int .i64 n) (tv v) (tv e) (tv d) k).alloc o).heap[W.heap.size]? = some (.cells (arrC 0 0 n v e d k) 27) := by
 rw [Below.heap_alloc _ _ _ (by rw [set7_size]; exact (Array.getElem?_eq_some_iff.1 h.res).1)]
 exact h.resAt
theorem one_end {wb : World} {A : Nat → Prop} {ys : List Arr} {k0 K x0 x1 x2 x3 x4 x5 x6 : Value} {l f n : Int} {v e d : Vp.Txt} {O R : Nat} (hk : KidsOwn wb A ys k0) (hA : ∀ g, A g → O < g) (hO : O < wb.heap.size) (hR : R < O) :
  KidsOwn ((set7 (wb.setCell ⟨O, 6, none⟩ K) R x0 x1 x2 x3 x4 x5 x6).alloc (.cells (arrC l f n v e d k0) 27)) (fun g => O < g) [.mk l f n v e d ys] (.slice (some ⟨wb.heap.size, 0, none⟩) 1 1) := by
 have hsz : (set7 (wb.setCell ⟨O, 6, none⟩ K) R x0 x1 x2 x3 x4 x5 x6).heap.size = wb.heap.size := by rw [set7_size]; simp
 have h1 : KidsOwn (set7 (wb.setCell ⟨O, 6, none⟩ K) R x0 x1 x2 x3 x4 x5 x6) (fun g => O < g) ys k0 :=
  KidsOwn.same ys _ k0 (fun g hg _ => (set7_far _ _ _ (by omega) _ _ _ _ _ _ _).trans (Below.heap_setCell wb ⟨O, 6, none⟩ K g (by simp only; omega))) (KidsOwn.weak ys _ _ k0 (fun g hg _ => hA g hg) hk)
 have := KidsOwn.one (A := fun g => O < g) (l := l) (f := f) (n := n) (v := v) (e := e) (d := d) h1.lt (by rw [hsz]; exact hO)
 rwa [hsz] at this
theorem rows_lens (ns : List Tp.Nd) (i : Nat) (vs : List Vp.Txt) (hk : Tp.kindOf ns i = 3) (hl : vs.length ≤ 64) (hf : ∀ x ∈ vs, Vp.Fit ns i x) : (Vp.pts [] vs).flatten.length ≤ 4096 := by
 have h : ∀ vs : List Vp.Txt, (∀ x ∈ vs, Vp.Fit ns i x) → (Vp.pts [] vs).flatten.length ≤ vs.length * 64 := by
  intro vs
  induction vs with
  | nil => intro _; simp [Vp.pts]
  | cons x vs ih =>
   intro hf
   have h1 := ih fun y hy => hf y (by simp [hy])
   have h2 := (Vp.row_list hk (hf x (by simp))).1
   have e : (Vp.pts [] (x :: vs)).flatten = Vp.partOr [] x ++ (Vp.pts [] vs).flatten := by simp [Vp.pts]
   rw [e, List.length_append, List.length_cons, Nat.succ_mul]
   omega
 have := h vs hf
 omega

set_option maxRecDepth 100000 in
set_option maxHeartbeats 6400000 in
theorem build_list (ns : List Tp.Nd) (i b : Nat) (vs : List Vp.Txt) (v vv : Value) (W : World) (hb : BldAt W b vv false) (ht : TextsAt W v vs) (hnd : NodesAt W vv ns) (hv : Vars W) (hm : Tp.may ns = true) (hi : i < ns.length) (h6 : 6 ≤ b) (hl : vs.length ≤ 64) (hf : ∀ x ∈ vs, Vp.Fit ns i x) (hk : Tp.kindOf ns i = 3) (n : Nat) (ih : BuildOK ns n) (hin : ns.length - i ≤ n + 1) :
  Calls Tryz.prog 62 #[.pointer (some ⟨b, 0, none⟩), .int .i64 (i : Int), v] W (BuildQ ns i vs vv b false W) := by
 have hbi : ¬ ((64 : Int) < (vs.length : Int)) := by omega
 have hdec : decide ((64 : Int) < (vs.length : Int)) = false := decide_eq_false hbi
 have HL := Lib.hid (fun x (h : x ∈ vs) => Vp.fit_len (hf x h))
 have HF := Lib.hid hf
 have HBE := Lib.hid (Vp.build_eq ns hm i hi vs)
 rw [if_neg (show ¬ 64 < vs.length by omega), if_neg (show ¬ Tp.kindOf ns i = 0 by omega), if_neg (show ¬ Tp.kindOf ns i = 1 by omega), if_neg (show ¬ Tp.kindOf ns i = 2 by omega), if_pos hk] at HBE
 obtain ⟨kd, hkd⟩ : ∃ kd, (Tp.kids ns (i : Int)).getD 0 0 = kd := ⟨_, rfl⟩
 have hk1 := Vp.kids_one' hm hi hk
 have hklt := Vp.kid_one_lt hm hi hk
 rw [hkd] at hk1 hklt HBE
 have HK1 := Lib.hid hk1
 have hfl := rows_lens ns i vs hk hl hf
 have HSUM := Lib.hid (show ((Vp.pts [] vs).map List.length).sum = (Vp.pts [] vs).flatten.length from by
  generalize Vp.pts [] vs = rs
  induction rs with
  | nil => rfl
  | cons r rs ih => rw [List.map_cons, List.sum_cons, ih, List.flatten_cons, List.length_append])
 have HKF := Lib.hid (show ∀ p ∈ (Vp.pts [] vs).flatten, Vp.Fit ns kd p from fun p hp => by
  obtain ⟨row, hrow, hp'⟩ := List.mem_flatten.1 hp
  obtain ⟨x, hx, rfl⟩ := List.mem_map.1 hrow
  have := (Vp.row_list hk (hf x hx)).2.1 p hp'
  rwa [hkd] at this)
 obtain ⟨rows, hrows⟩ : ∃ rows, Vp.pts [] vs = rows := ⟨_, rfl⟩
 have HRL := Lib.hid (show rows.length ≤ 65536 by rw [← hrows]; simp [Vp.pts]; omega)
 rw [hrows] at hfl HBE HKF HSUM
 have HROWS := Lib.hid hrows
 obtain ⟨fl, hfl2⟩ : ∃ fl, rows.flatten = fl := ⟨_, rfl⟩
 rw [hfl2] at hfl HBE HKF HSUM
 have HFL := Lib.hid hfl2
 have HFLL := Lib.hid hfl
 have HIH := Lib.hid ih
 have hkd0 : kd < ns.length := hklt.2
 have hkd1 : ns.length - kd ≤ n := by omega
 clear hrows hfl2 hfl hk1 hkd ih
 clear hf
 have hb1 : Below W.heap.size W (W.alloc (.cells #[.int .i64 0, .int .i64 0, .int .i64 0, .string ⟨#[]⟩, .string ⟨#[]⟩, .string ⟨#[]⟩, .slice none 0 0] 27)) := (Below.refl _ _).alloc (Nat.le_refl _) _
 have HV := Lib.hid (valid_calls v vs _ (ht.below hb1) (by omega))
 have HBL := Lib.hid hb
 have HTX := Lib.hid ht
 have HND := Lib.hid hnd
 have HVV := Lib.hid hv
 obtain ⟨bk, o, nc, rfl, hbkb, hbk, hkc, hnl, hnc⟩ := nodes_at_b hnd hb hi
 rw [hk] at hkc
 have hbkb' : ¬ b = bk := fun e => hbkb e.symm
 obtain ⟨a, c, rfl, hc, hmx, h3⟩ := ht
 unfold maxLen at hnc hmx
 have hii : (i : Int) < (ns.length : Int) := by omega
 clear h3 hb hnd hv
 go_enter Tryz.func62, Tryz.ntmps62
 go_wp2_with (fail)
 refine HV.out.mono ?_
 rintro e w1 ⟨rfl, hb2⟩
 have HB := Lib.hid (below_then hb1 hb2)
 have hbl1 := HBL.out.below HB.out
 have hR : w1.heap[W.heap.size]? = some (.cells #[.int .i64 0, .int .i64 0, .int .i64 0, .string ⟨#[]⟩, .string ⟨#[]⟩, .string ⟨#[]⟩, .slice none 0 0] 27) := (hb2.block _ (by simp)).trans (heap_alloc_new W _)
 have S0 := Lib.hid (BSt.begin false (vs.length : Int) (Vp.valid vs) HBL.out HB.out hR)
 have hkc1 := (HB.out.cell (p := ⟨bk, o + i * 3, none⟩) hbk).trans hkc
 have c0 := hbl1.c0
 have c1 := hbl1.c1
 have hbf := hbl1.f1
 have hblt := hbl1.lt
 have hbk1 : bk < w1.heap.size := by have := HB.out.size; omega
 have hn2 : W.heap.size ≤ w1.heap.size := HB.out.size
 clear hR hb2 hb1 hkc hbl1
 go_wp2_with (fail)
 refine (pts_calls _ (.slice none 0 0) vs [] _ (six_b HVV.out S0.out h6) (texts_grown HTX.out HBL.out rfl S0.out.grown) own_nil HL.out (by omega)).mono ?_
 rintro e w2 ⟨r, rfl, hro, hb3⟩
 have S2 := Lib.hid (S0.out.below hb3)
 rw [HROWS.out] at hro
 have HRO := Lib.hid hro
 obtain ⟨ra, rc, rfl⟩ := hro.slice
 clear hro hb3
 go_wp2_with (fail)
 have HEN := ends_calls (.slice ra rows.length rc) (.func (.func 101) #[] #[]) _ rows List.length w2 HRO.out HRL.out (by rw [HSUM.out]; have := HFLL.out; omega) 101 rfl enter_many2 (fun row c W' hr ho => many2_calls row c W' ho)
 refine HEN.mono ?_
 rintro e w3 ⟨rfl, hb4⟩
 have S3 := Lib.hid (S2.out.below hb4)
 have HRO3 := Lib.hid (HRO.out.below hb4)
 obtain ⟨en, hen⟩ : ∃ en, Vp.ends (rows.map List.length) = en := ⟨_, rfl⟩
 rw [hen] at HBE ⊢
 obtain ⟨r0, r1, r2, r3, r4, r5, r6, q0, q1, q2, q3, q4, q5, q6⟩ := zero_cells S3.out.res
 obtain ⟨o0, o1, o2, o3, o4, o5, o6, p0, p1, p2, p3, p4, p5, p6⟩ := zero_cells S3.out.out
 have hOR : ¬ w1.heap.size = W.heap.size := by have := S3.out.olt; omega
 have hRO : ¬ W.heap.size = w1.heap.size := by have := S3.out.olt; omega
 have S4 := Lib.hid (S3.out.set 4 (tv en) en [] (.slice none 0 0) rfl)
 have HRO4 := Lib.hid (rows_far (j := 4) (x := tv en) HRO3.out S3.out.out)
 clear c0 c1 hbf hkc1 hb4 HEN hen
 obtain ⟨w4, hw4⟩ : ∃ w4, w3.setCell ⟨w1.heap.size, 4, none⟩ (tv en) = w4 := ⟨_, rfl⟩
 rw [hw4] at S4 HRO4
 go_wp2_with (fail)
 have HB4 := Below.refl w4.heap.size w4
 clear hw4 r0 r1 r2 r3 r4 r5 r6 q0 q1 q2 q3 q4 q5 q6 o0 o1 o2 o3 o4 o5 o6 p0 p1 p2 p3 p4 p5 p6
 have HBK := Lib.hid (fun W' (h : Below w4.heap.size w4 W') => bkids_calls b _ false ns i W' (S4.out.bld.below h) ((nodes_grown HND.out HBL.out S4.out.grown).below h) hm hi)
 have HCC := Lib.hid (fun W' (h : Below w4.heap.size w4 W') => concat_calls _ _ rows W' (HRO4.out.below h) HRL.out (by rw [HFL.out]; exact Nat.le_trans HFLL.out (by decide)))
 rw [HFL.out] at HCC
 rw [HK1.out] at HBK
 have HBU := Lib.hid (fun W' (h : Below w4.heap.size w4 W') (u : Value) (hu : TextsAt W' u fl) => HIH.out kd b fl u _ false W' hkd0 hkd1 (S4.out.bld.below h) hu ((nodes_grown HND.out HBL.out S4.out.grown).below h) ((six_b HVV.out S4.out h6).below h (six_b HVV.out S4.out h6).six) h6 (Nat.le_trans HFLL.out (by decide)) HKF.out)
 go_region_with (first | (go_at_call 102; refine (HBK.out _ (by repeat (first | exact HB4 | apply below_drew))).mono ?_; rintro e wk ⟨rk, rfl, hok, hbk5⟩; obtain ⟨gk, capk, hrk, hck, hgk⟩ := nat_row (xs := [kd]) hok Nat.zero_lt_one; subst hrk; replace HB4 := below_then (by repeat (first | exact HB4 | apply below_drew)) hbk5; simp only [List.getElem_cons_zero] at hck) | (go_at_call 100; refine (HCC.out _ (by repeat (first | exact HB4 | apply below_drew))).mono ?_; rintro e wc ⟨rc5, rfl, hoc, hbc5⟩; obtain ⟨ca, cc, rfl⟩ := own_slice hoc; have hcu := own_texts hoc; replace hck := (hbc5.cell (p := ⟨gk, 0, none⟩) hgk).trans hck; replace HB4 := below_then (by repeat (first | exact HB4 | apply below_drew)) hbc5) | (go_at_call 62; refine (HBU.out _ (by repeat (first | exact HB4 | apply below_drew)) _ (by first | exact hcu | skip)).mono ?_; rintro e wb ⟨ar, u, f', rfl, hao, hbl6, hg6, hf6, hm6⟩; obtain ⟨k6, ac, cc6, hk6, rfl, hko⟩ := hao.value; subst hk6; have S6 := Lib.hid ((S4.out.below (by repeat (first | exact HB4 | apply below_drew))).call hg6 hbl6); have hOlt := S6.out.lt; have ho6 := (zero_cells S6.out.out).2.2.2.2.2.2.1; have hp6 := (zero_cells S6.out.out).2.2.2.2.2.2.2.2.2.2.2.2.2))
 all_goals
  obtain ⟨r0, r1, r2, r3, r4, r5, r6, q0, q1, q2, q3, q4, q5, q6⟩ := zero_cells S6.out.res
  obtain ⟨o0, o1, o2, o3, o4, o5, o6, p0, p1, p2, p3, p4, p5, p6⟩ := zero_cells S6.out.out
  have hRlt6 := Nat.lt_trans S6.out.olt hOlt
  clear HBK HCC HBU
  go_wp2
  (try simp only [Exit.inBlock, Exit.then])
  have S7 := Lib.hid (S6.out.set 6 (.slice (some ⟨wb.heap.size, 0, none⟩) 1 1) en [] (.slice (some ⟨wb.heap.size, 0, none⟩) 1 1) rfl)
  refine bodyPost_ret (results_cell_row rfl _ _ W.heap.size 27 (arrC 0 0 vs.length (Vp.valid vs) en [] (.slice (some ⟨wb.heap.size, 0, none⟩) 1 1)) (0, 0) _ rfl (S7.out.resA _) Tryz.underlying27 rfl info_array_size) rfl ?_
  refine S7.out.doneA _ (one_end hko (fun g hg => by have := S4.out.lt; have := HB4.size; omega) hOlt S6.out.olt) (fun h => by cases h) (fun _ => ?_)
  rw [HBE.out]
  have hq := hm6 trivial
  cases hbq : Vp.build ns kd fl with
  | none => rw [hbq] at hq; exact hq
  | some x =>
   rw [hbq] at hq
   obtain ⟨h1, rfl⟩ := hq
   exact ⟨h1, by obtain ⟨l, f, n, v, e, d, ks⟩ := ar; rfl⟩
end Go.Proofs.YtobhjlchpnpleaaGreatDoor
