/- Package build: the builder's build at the leaves, walked. -/
import Derived.Test.YtlllflacnlgigaaGreatDoorMc20
namespace Go.Proofs.YtlllflacnlgigaaGreatDoor
open Go.RowKit
set_option linter.unusedVariables false
set_option linter.unusedSimpArgs false

theorem nodes_at_b {W : World} {b i : Nat} {vv : Value} {ns : List Tp.Nd} {full : Bool} (h : NodesAt W vv ns) (hb : BldAt W b vv full) (hi : i < ns.length) :
    ∃ bk o c, vv = .slice (some ⟨bk, o, none⟩) ns.length c ∧ ¬ bk = b ∧ bk < W.heap.size ∧ W.cell? ⟨bk, o + i * 3, none⟩ = some (.int .i64 (Tp.kindOf ns i)) ∧ ns.length ≤ c ∧ c ≤ maxLen := by
  obtain ⟨a, c, rfl, h1, h2, h3⟩ := h
  obtain ⟨bk, o, rfl, hk, hc⟩ := h3 (by intro e; rw [e] at hi; exact Nat.not_lt_zero _ hi)
  have hq := (hc i _ (List.getElem?_eq_getElem hi)).1
  have hk0 : (ns[i]).kind = Tp.kindOf ns i := by unfold Tp.kindOf; rw [List.getD_eq_getElem?_getD, List.getElem?_eq_getElem hi]; rfl
  rw [hk0] at hq
  refine ⟨bk, o, c, rfl, ?_, hk, hq, h1, h2⟩
  rintro rfl
  have hb' : W.heap[bk]? = _ := hb
  simp only [World.cell?, hb', Option.isSome_none, Bool.false_eq_true, if_false] at hq
  generalize o + i * 3 = q at hq
  match q, hq with
  | 0, hq => simp at hq
  | 1, hq => simp at hq
  | q + 2, hq => simp at hq
theorem rows_sizes (rows : List (List Vp.Txt)) (h : ∀ row ∈ rows, ∃ d : Vp.Txt, row = [d] ∧ d.length ≤ 16) : (rows.map Vp.size0).sum ≤ rows.length * 16 ∧ rows.flatten.length = rows.length ∧ (Vp.join rows.flatten).length ≤ rows.length * 16 := by
  induction rows with
  | nil => simp [Vp.join]
  | cons r rows ih =>
    obtain ⟨d, rfl, hd⟩ := h r (by simp)
    obtain ⟨h1, h2, h3⟩ := ih fun row hr => h row (by simp [hr])
    have e : Vp.join ([d] :: rows).flatten = d ++ Vp.join rows.flatten := by simp [Vp.join]
    rw [e, List.length_append, List.map_cons, List.sum_cons, List.flatten_cons, List.length_append, h2, List.length_cons, Nat.succ_mul]
    have e0 : Vp.size0 [d] = d.length := rfl
    rw [e0]
    simp only [List.length_cons, List.length_nil]
    omega
theorem own_lit_at (w : World) (n : Nat) (cs : Array Value) (xs : List Vp.Txt) (hn : w.heap.size = n) (hc : cs = (xs.map tv).toArray) (hx : xs.length ≤ 65536) : (w.alloc (.cells cs 9)).ownsRow 0 9 1 (.slice (some ⟨n, 0, none⟩) xs.length xs.length) xs.length (xs.map tv) := by
  subst hn hc
  have := own_lit w 0 9 (xs.map tv) (Nat.zero_le _) (by rw [List.length_map]; unfold maxLen; omega)
  rwa [List.length_map] at this
theorem six_b {W wr : World} {b O : Nat} {vv : Value} {fl : Bool} {n : Int} {v e d : Vp.Txt} {k : Value} (hv : Vars W) (h : BSt W wr b O vv fl n v e d k) (h6 : 6 ≤ b) : Vars wr := hv.grown h.grown h6

theorem rows_far {w : World} {base O j : Nat} {v x : Value} {rows : List (List Vp.Txt)} {cs : Array Value} (h : RowsOwn w base v rows) (hO : w.heap[O]? = some (.cells cs 47)) : RowsOwn (w.setCell ⟨O, j, none⟩ x) base v rows := by
  obtain ⟨ds, h1, h2⟩ := h
  have far : ∀ (e : TypeId), e ≠ 47 → ∀ g, (∃ cur, w.heap[g]? = some (Obj.cells cur e (0, 0))) → (w.setCell ⟨O, j, none⟩ x).heap[g]? = w.heap[g]? := fun e he g hg => by
    obtain ⟨cur, hg⟩ := hg
    refine Below.heap_setCell w ⟨O, j, none⟩ x g ?_
    rintro rfl
    rw [hO] at hg
    simp only [Option.some.injEq, Obj.cells.injEq] at hg
    exact he hg.2.1.symm
  refine ⟨ds, own_same h1 (fun g _ hg => far _ (by decide) g hg), fun k row hk => ?_⟩
  obtain ⟨c, h3, h4⟩ := h2 k row hk
  exact ⟨c, h3, own_same h4 (fun g _ hg => far _ (by decide) g hg)⟩

set_option maxRecDepth 100000 in
set_option maxHeartbeats 6400000 in
theorem build_int (ns : List Tp.Nd) (i b : Nat) (vs : List Vp.Txt) (v vv : Value) (W : World) (hb : BldAt W b vv false) (ht : TextsAt W v vs) (hnd : NodesAt W vv ns) (hv : Vars W) (hm : Tp.may ns = true) (hi : i < ns.length) (h6 : 6 ≤ b) (hl : vs.length ≤ 64) (hf : ∀ x ∈ vs, Vp.Fit ns i x) (hk : Tp.kindOf ns i = 0) :
    Calls Tryz.prog 54 #[.pointer (some ⟨b, 0, none⟩), .int .i64 (i : Int), v] W (BuildQ ns i vs vv b false W) := by
  have hbi : ¬ ((64 : Int) < (vs.length : Int)) := by omega
  have hdec : decide ((64 : Int) < (vs.length : Int)) = false := decide_eq_false hbi
  have HL := Lib.hid (fun x (h : x ∈ vs) => Vp.fit_len (hf x h))
  have HF := Lib.hid hf
  have HBE := Lib.hid (Vp.build_eq ns hm i hi vs)
  rw [if_neg (show ¬ 64 < vs.length by omega), if_pos hk] at HBE
  have HOK := Lib.hid (show ∀ row ∈ Vp.pts [[48]] vs, ∃ d : Vp.Txt, row = [d] ∧ d.length ≤ 65536 ∧ (Vp.atoi d).2 = true from fun row hr => by
    obtain ⟨x, hx, rfl⟩ := List.mem_map.1 hr
    obtain ⟨y, h0, h1, hp, _⟩ := Vp.row_int hk (hf x hx)
    exact ⟨_, hp, by have := Vp.digitsLen y h0 h1; omega, by rw [Vp.atoi_itoa y h0 h1]⟩)
  clear hf
  have hb1 : Below W.heap.size W (W.alloc (.cells #[.int .i64 0, .int .i64 0, .int .i64 0, .string ⟨#[]⟩, .string ⟨#[]⟩, .string ⟨#[]⟩, .slice none 0 0] 47)) := (Below.refl _ _).alloc (Nat.le_refl _) _
  have HV := Lib.hid (valid_calls v vs _ (ht.below hb1) (by omega))
  have HBL := Lib.hid hb
  have HTX := Lib.hid ht
  have HND := Lib.hid hnd
  have HVV := Lib.hid hv
  obtain ⟨bk, o, nc, rfl, hbkb, hbk, hkc, hnl, hnc⟩ := nodes_at_b hnd hb hi
  rw [hk] at hkc
  have hbkb' : ¬ b = bk := fun e => hbkb e.symm
  obtain ⟨a, c, rfl, hc, hmx, h3⟩ := ht
  unfold maxLen at hnc hmx
  have hii : (i : Int) < (ns.length : Int) := by omega
  clear h3 hb hnd hv
  go_enter Tryz.func54, Tryz.ntmps54
  go_wp2_with (fail)
  refine HV.out.mono ?_
  rintro e w1 ⟨rfl, hb2⟩
  have HB := Lib.hid (below_then hb1 hb2)
  have hbl1 := HBL.out.below HB.out
  have hR : w1.heap[W.heap.size]? = some (.cells #[.int .i64 0, .int .i64 0, .int .i64 0, .string ⟨#[]⟩, .string ⟨#[]⟩, .string ⟨#[]⟩, .slice none 0 0] 47) := (hb2.block _ (by simp)).trans (heap_alloc_new W _)
  have S0 := Lib.hid (BSt.begin false (vs.length : Int) (Vp.valid vs) HBL.out HB.out hR)
  have hkc1 := (HB.out.cell (p := ⟨bk, o + i * 3, none⟩) hbk).trans hkc
  have c0 := hbl1.c0
  have c1 := hbl1.c1
  have hbf := hbl1.f1
  have hblt := hbl1.lt
  have hbk1 : bk < w1.heap.size := by have := HB.out.size; omega
  have hn2 : W.heap.size ≤ w1.heap.size := HB.out.size
  clear hR hb2 hb1 hkc hbl1
  go_wp2_with (fail)
  have S1 := Lib.hid (S0.out.alloc (.cells #[.string ⟨#[48]⟩] 9))
  refine (pts_calls _ _ vs [[48]] _ (six_b HVV.out S1.out h6) (texts_grown HTX.out HBL.out rfl S1.out.grown) (own_lit_at _ (w1.heap.size + 1) _ [[48]] (by simp) rfl (by decide)) HL.out (by omega)).mono ?_
  rintro e w2 ⟨r, rfl, hro, hb3⟩
  have S2 := Lib.hid (S1.out.below hb3)
  have HRO := Lib.hid hro
  obtain ⟨ra, rc, rfl⟩ := hro.slice
  clear hro hb3
  go_wp2_with (fail)
  refine (ints_calls _ _ _ _ (six_b HVV.out S2.out h6) HRO.out (by simp [Vp.pts]; omega) HOK.out).mono ?_
  rintro e w3 ⟨rfl, hb4⟩
  have S3 := Lib.hid (S2.out.below hb4)
  obtain ⟨r0, r1, r2, r3, r4, r5, r6, q0, q1, q2, q3, q4, q5, q6⟩ := zero_cells S3.out.res
  obtain ⟨o0, o1, o2, o3, o4, o5, o6, p0, p1, p2, p3, p4, p5, p6⟩ := zero_cells S3.out.out
  have hOR : ¬ w1.heap.size = W.heap.size := by have := S3.out.olt; omega
  have hRO : ¬ W.heap.size = w1.heap.size := by have := S3.out.olt; omega
  have S4 := Lib.hid (S3.out.set 5 (tv (Vp.ints (Vp.pts [[48]] vs))) [] (Vp.ints (Vp.pts [[48]] vs)) (.slice none 0 0) rfl)
  clear c0 c1 hbf hkc1
  go_wp2
  (try simp only [Exit.inBlock, Exit.then])
  refine bodyPost_ret (results_cell_row rfl _ _ W.heap.size 47 (arrC 0 0 vs.length (Vp.valid vs) [] (Vp.ints (Vp.pts [[48]] vs)) (.slice none 0 0)) (0, 0) _ rfl S4.out.resAt Tryz.underlying47 rfl info_array_size) rfl ?_
  exact S4.out.done (KidsOwn.nil _ _) (fun h => by cases h) (fun _ => by rw [HBE.out]; exact ⟨rfl, rfl⟩)
set_option maxRecDepth 100000 in
set_option maxHeartbeats 6400000 in
theorem build_bool (ns : List Tp.Nd) (i b : Nat) (vs : List Vp.Txt) (v vv : Value) (W : World) (hb : BldAt W b vv false) (ht : TextsAt W v vs) (hnd : NodesAt W vv ns) (hv : Vars W) (hm : Tp.may ns = true) (hi : i < ns.length) (h6 : 6 ≤ b) (hl : vs.length ≤ 64) (hf : ∀ x ∈ vs, Vp.Fit ns i x) (hk : Tp.kindOf ns i = 1) :
    Calls Tryz.prog 54 #[.pointer (some ⟨b, 0, none⟩), .int .i64 (i : Int), v] W (BuildQ ns i vs vv b false W) := by
  have hbi : ¬ ((64 : Int) < (vs.length : Int)) := by omega
  have hdec : decide ((64 : Int) < (vs.length : Int)) = false := decide_eq_false hbi
  have HL := Lib.hid (fun x (h : x ∈ vs) => Vp.fit_len (hf x h))
  have HF := Lib.hid hf
  have HBE := Lib.hid (Vp.build_eq ns hm i hi vs)
  rw [if_neg (show ¬ 64 < vs.length by omega), if_neg (show ¬ Tp.kindOf ns i = 0 by omega), if_pos hk] at HBE
  have HOK := Lib.hid (show ∀ row ∈ Vp.pts [[102]] vs, ∃ d : Vp.Txt, row = [d] from fun row hr => by
    obtain ⟨x, hx, rfl⟩ := List.mem_map.1 hr
    obtain ⟨y, hp, _⟩ := Vp.row_bool hk (hf x hx)
    exact ⟨_, hp⟩)
  clear hf
  have hb1 : Below W.heap.size W (W.alloc (.cells #[.int .i64 0, .int .i64 0, .int .i64 0, .string ⟨#[]⟩, .string ⟨#[]⟩, .string ⟨#[]⟩, .slice none 0 0] 47)) := (Below.refl _ _).alloc (Nat.le_refl _) _
  have HV := Lib.hid (valid_calls v vs _ (ht.below hb1) (by omega))
  have HBL := Lib.hid hb
  have HTX := Lib.hid ht
  have HND := Lib.hid hnd
  have HVV := Lib.hid hv
  obtain ⟨bk, o, nc, rfl, hbkb, hbk, hkc, hnl, hnc⟩ := nodes_at_b hnd hb hi
  rw [hk] at hkc
  have hbkb' : ¬ b = bk := fun e => hbkb e.symm
  obtain ⟨a, c, rfl, hc, hmx, h3⟩ := ht
  unfold maxLen at hnc hmx
  have hii : (i : Int) < (ns.length : Int) := by omega
  clear h3 hb hnd hv
  go_enter Tryz.func54, Tryz.ntmps54
  go_wp2_with (fail)
  refine HV.out.mono ?_
  rintro e w1 ⟨rfl, hb2⟩
  have HB := Lib.hid (below_then hb1 hb2)
  have hbl1 := HBL.out.below HB.out
  have hR : w1.heap[W.heap.size]? = some (.cells #[.int .i64 0, .int .i64 0, .int .i64 0, .string ⟨#[]⟩, .string ⟨#[]⟩, .string ⟨#[]⟩, .slice none 0 0] 47) := (hb2.block _ (by simp)).trans (heap_alloc_new W _)
  have S0 := Lib.hid (BSt.begin false (vs.length : Int) (Vp.valid vs) HBL.out HB.out hR)
  have hkc1 := (HB.out.cell (p := ⟨bk, o + i * 3, none⟩) hbk).trans hkc
  have c0 := hbl1.c0
  have c1 := hbl1.c1
  have hbf := hbl1.f1
  have hblt := hbl1.lt
  have hbk1 : bk < w1.heap.size := by have := HB.out.size; omega
  have hn2 : W.heap.size ≤ w1.heap.size := HB.out.size
  clear hR hb2 hb1 hkc hbl1
  go_wp2_with (go_at_call 16; refine (bool_calls false _).mono ?_; rintro e w' ⟨rfl, rfl⟩) <;> skip
  go_wp2_with (fail)
  have S1 := Lib.hid (S0.out.alloc (.cells #[.string ⟨#[102]⟩] 9))
  refine (pts_calls _ _ vs [[102]] _ (six_b HVV.out S1.out h6) (texts_grown HTX.out HBL.out rfl S1.out.grown) (own_lit_at _ (w1.heap.size + 1) _ [[102]] (by simp) rfl (by decide)) HL.out (by omega)).mono ?_
  rintro e w2 ⟨r, rfl, hro, hb3⟩
  have S2 := Lib.hid (S1.out.below hb3)
  have HRO := Lib.hid hro
  obtain ⟨ra, rc, rfl⟩ := hro.slice
  clear hro hb3
  go_wp2_with (fail)
  refine (bools_calls _ _ _ _ HRO.out (by simp [Vp.pts]; omega) HOK.out).mono ?_
  rintro e w3 ⟨rfl, hb4⟩
  have S3 := Lib.hid (S2.out.below hb4)
  obtain ⟨r0, r1, r2, r3, r4, r5, r6, q0, q1, q2, q3, q4, q5, q6⟩ := zero_cells S3.out.res
  obtain ⟨o0, o1, o2, o3, o4, o5, o6, p0, p1, p2, p3, p4, p5, p6⟩ := zero_cells S3.out.out
  have hOR : ¬ w1.heap.size = W.heap.size := by have := S3.out.olt; omega
  have hRO : ¬ W.heap.size = w1.heap.size := by have := S3.out.olt; omega
  have S4 := Lib.hid (S3.out.set 5 (tv (Vp.bools (Vp.pts [[102]] vs))) [] (Vp.bools (Vp.pts [[102]] vs)) (.slice none 0 0) rfl)
  clear c0 c1 hbf hkc1
  go_wp2
  (try simp only [Exit.inBlock, Exit.then])
  refine bodyPost_ret (results_cell_row rfl _ _ W.heap.size 47 (arrC 0 0 vs.length (Vp.valid vs) [] (Vp.bools (Vp.pts [[102]] vs)) (.slice none 0 0)) (0, 0) _ rfl S4.out.resAt Tryz.underlying47 rfl info_array_size) rfl ?_
  exact S4.out.done (KidsOwn.nil _ _) (fun h => by cases h) (fun _ => by rw [HBE.out]; exact ⟨rfl, rfl⟩)
set_option maxRecDepth 100000 in
set_option maxHeartbeats 6400000 in
theorem build_str (ns : List Tp.Nd) (i b : Nat) (vs : List Vp.Txt) (v vv : Value) (W : World) (hb : BldAt W b vv false) (ht : TextsAt W v vs) (hnd : NodesAt W vv ns) (hv : Vars W) (hm : Tp.may ns = true) (hi : i < ns.length) (h6 : 6 ≤ b) (hl : vs.length ≤ 64) (hf : ∀ x ∈ vs, Vp.Fit ns i x) (hk : Tp.kindOf ns i = 2) :
    Calls Tryz.prog 54 #[.pointer (some ⟨b, 0, none⟩), .int .i64 (i : Int), v] W (BuildQ ns i vs vv b false W) := by
  have hbi : ¬ ((64 : Int) < (vs.length : Int)) := by omega
  have hdec : decide ((64 : Int) < (vs.length : Int)) = false := decide_eq_false hbi
  have HL := Lib.hid (fun x (h : x ∈ vs) => Vp.fit_len (hf x h))
  have HF := Lib.hid hf
  have HBE := Lib.hid (Vp.build_eq ns hm i hi vs)
  rw [if_neg (show ¬ 64 < vs.length by omega), if_neg (show ¬ Tp.kindOf ns i = 0 by omega), if_neg (show ¬ Tp.kindOf ns i = 1 by omega), if_pos hk] at HBE
  have hone : ∀ row ∈ Vp.pts [[]] vs, ∃ d : Vp.Txt, row = [d] ∧ d.length ≤ 16 := fun row hr => by
    obtain ⟨x, hx, rfl⟩ := List.mem_map.1 hr
    obtain ⟨y, hs, hp, _⟩ := Vp.row_str hk (hf x hx)
    exact ⟨_, hp, hs⟩
  obtain ⟨rows, hrows⟩ : ∃ rows, Vp.pts [[]] vs = rows := ⟨_, rfl⟩
  have hrl : rows.length = vs.length := by rw [← hrows]; simp [Vp.pts]
  rw [hrows] at hone HBE
  have HROWS := Lib.hid hrows
  obtain ⟨hz1, hz2, hz3⟩ := rows_sizes rows hone
  have HZ1 := Lib.hid (show (rows.map Vp.size0).sum ≤ 2147483647 by omega)
  have HZ2 := Lib.hid (show rows.flatten.length ≤ 65536 by omega)
  have HZ3 := Lib.hid (show (Vp.join rows.flatten).length ≤ 65536 by omega)
  have HZ4 := Lib.hid (show rows.length ≤ 65536 by omega)
  clear hz1 hz2 hz3 hrl
  obtain ⟨fl, hfl⟩ : ∃ fl, rows.flatten = fl := ⟨_, rfl⟩
  have HFL := Lib.hid hfl
  rw [hfl] at HBE HZ2 HZ3
  clear hfl
  have HONE := Lib.hid hone
  clear hrows hone
  clear hf
  have hb1 : Below W.heap.size W (W.alloc (.cells #[.int .i64 0, .int .i64 0, .int .i64 0, .string ⟨#[]⟩, .string ⟨#[]⟩, .string ⟨#[]⟩, .slice none 0 0] 47)) := (Below.refl _ _).alloc (Nat.le_refl _) _
  have HV := Lib.hid (valid_calls v vs _ (ht.below hb1) (by omega))
  have HBL := Lib.hid hb
  have HTX := Lib.hid ht
  have HND := Lib.hid hnd
  have HVV := Lib.hid hv
  obtain ⟨bk, o, nc, rfl, hbkb, hbk, hkc, hnl, hnc⟩ := nodes_at_b hnd hb hi
  rw [hk] at hkc
  have hbkb' : ¬ b = bk := fun e => hbkb e.symm
  obtain ⟨a, c, rfl, hc, hmx, h3⟩ := ht
  unfold maxLen at hnc hmx
  have hii : (i : Int) < (ns.length : Int) := by omega
  clear h3 hb hnd hv
  go_enter Tryz.func54, Tryz.ntmps54
  go_wp2_with (fail)
  refine HV.out.mono ?_
  rintro e w1 ⟨rfl, hb2⟩
  have HB := Lib.hid (below_then hb1 hb2)
  have hbl1 := HBL.out.below HB.out
  have hR : w1.heap[W.heap.size]? = some (.cells #[.int .i64 0, .int .i64 0, .int .i64 0, .string ⟨#[]⟩, .string ⟨#[]⟩, .string ⟨#[]⟩, .slice none 0 0] 47) := (hb2.block _ (by simp)).trans (heap_alloc_new W _)
  have S0 := Lib.hid (BSt.begin false (vs.length : Int) (Vp.valid vs) HBL.out HB.out hR)
  have hkc1 := (HB.out.cell (p := ⟨bk, o + i * 3, none⟩) hbk).trans hkc
  have c0 := hbl1.c0
  have c1 := hbl1.c1
  have hbf := hbl1.f1
  have hblt := hbl1.lt
  have hbk1 : bk < w1.heap.size := by have := HB.out.size; omega
  have hn2 : W.heap.size ≤ w1.heap.size := HB.out.size
  clear hR hb2 hb1 hkc hbl1
  go_wp2_with (fail)
  have S1 := Lib.hid (S0.out.alloc (.cells #[.string ⟨#[]⟩] 9))
  refine (pts_calls _ _ vs [[]] _ (six_b HVV.out S1.out h6) (texts_grown HTX.out HBL.out rfl S1.out.grown) (own_lit_at _ (w1.heap.size + 1) _ [[]] (by simp) rfl (by decide)) HL.out (by omega)).mono ?_
  rintro e w2 ⟨r, rfl, hro, hb3⟩
  have S2 := Lib.hid (S1.out.below hb3)
  rw [HROWS.out] at hro
  have HRO := Lib.hid hro
  obtain ⟨ra, rc, rfl⟩ := hro.slice
  clear hro hb3
  go_wp2_with (fail)
  have HEN := ends_calls (.slice ra rows.length rc) (.func (.func 79) #[] #[]) _ rows Vp.size0 w2 HRO.out HZ4.out HZ1.out 79 rfl enter_many1 (fun row c W' hr ho => many1_calls row c W' (by obtain ⟨d, h, _⟩ := HONE.out row hr; exact ⟨d, h⟩) ho)
  refine HEN.mono ?_
  rintro e w3 ⟨rfl, hb4⟩
  have S3 := Lib.hid (S2.out.below hb4)
  have HRO3 := Lib.hid (HRO.out.below hb4)
  obtain ⟨r0, r1, r2, r3, r4, r5, r6, q0, q1, q2, q3, q4, q5, q6⟩ := zero_cells S3.out.res
  obtain ⟨o0, o1, o2, o3, o4, o5, o6, p0, p1, p2, p3, p4, p5, p6⟩ := zero_cells S3.out.out
  have hOR : ¬ w1.heap.size = W.heap.size := by have := S3.out.olt; omega
  have hRO : ¬ W.heap.size = w1.heap.size := by have := S3.out.olt; omega
  have S4 := Lib.hid (S3.out.set 4 (tv (Vp.ends (rows.map Vp.size0))) (Vp.ends (rows.map Vp.size0)) [] (.slice none 0 0) rfl)
  clear HEN
  have HRO4 := Lib.hid (rows_far (j := 4) (x := tv (Vp.ends (rows.map Vp.size0))) HRO3.out S3.out.out)
  clear c0 c1 hbf hkc1 hb4
  go_wp2_with (fail)
  refine (concat_calls _ _ rows _ HRO4.out HZ4.out (by rw [HFL.out]; exact HZ2.out)).mono ?_
  rintro e w5 ⟨r5, rfl, ho5, hb5⟩
  have S5 := Lib.hid (S4.out.below hb5)
  rw [HFL.out] at ho5
  obtain ⟨ja, jc, hj, HJ⟩ := join_calls _ fl _ (own_texts ho5) (Nat.le_trans HZ2.out (by decide)) (Nat.le_trans HZ3.out (by decide))
  subst hj
  replace HJ := Lib.hid HJ
  clear r0 r1 r2 r3 r4 r5 r6 q0 q1 q2 q3 q4 q5 q6 o0 o1 o2 o3 o4 o5 o6 p0 p1 p2 p3 p4 p5 p6 ho5 hb5
  go_wp2_with (fail)
  refine HJ.out.mono ?_
  rintro e w6 ⟨rfl, hb6⟩
  have S6 := Lib.hid (S5.out.below hb6)
  obtain ⟨r0, r1, r2, r3, r4, r5, r6, q0, q1, q2, q3, q4, q5, q6⟩ := zero_cells S6.out.res
  obtain ⟨o0, o1, o2, o3, o4, o5, o6, p0, p1, p2, p3, p4, p5, p6⟩ := zero_cells S6.out.out
  have S7 := Lib.hid (S6.out.set 5 (tv (Vp.join fl)) (Vp.ends (rows.map Vp.size0)) (Vp.join fl) (.slice none 0 0) rfl)
  clear hb6
  go_wp2
  (try simp only [Exit.inBlock, Exit.then])
  refine bodyPost_ret (results_cell_row rfl _ _ W.heap.size 47 (arrC 0 0 vs.length (Vp.valid vs) (Vp.ends (rows.map Vp.size0)) (Vp.join fl) (.slice none 0 0)) (0, 0) _ rfl S7.out.resAt Tryz.underlying47 rfl info_array_size) rfl ?_
  exact S7.out.done (KidsOwn.nil _ _) (fun h => by cases h) (fun _ => by rw [HBE.out]; exact ⟨rfl, rfl⟩)
end Go.Proofs.YtlllflacnlgigaaGreatDoor
