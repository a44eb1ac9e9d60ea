/- The reference's build of lists, walked. -/
import Derived.Test.YtobhjlchpnpleaaGreatDoorCa13
import Derived.Test.YtobhjlchpnpleaaGreatDoorCa23
import Derived.Deep.DeepCutAuto
import Derived.Deep.CutBlock
namespace Go.Proofs.YtobhjlchpnpleaaGreatDoor
open Go.RowKit
set_option linter.unusedVariables false
set_option linter.unusedSimpArgs false

theorem list_row {ns : List Tp.Nd} {i : Nat} {x : Vp.Txt} (hk : Tp.kindOf ns i = 3) (h : Vp.Fit ns i x) : (Vp.parts x).2.1 = Vp.partOr [] x ∧ (Vp.parts x).2.1.length ≤ 64 := by
 obtain ⟨h1, _, h2⟩ := Vp.row_list hk h
 by_cases hx : x = Vp.nul
 ·subst hx; rw [Vp.parts_nul, Vp.partOr_nul]; exact ⟨rfl, by simp⟩
 ·rw [Vp.partOr_there [] hx] at h1; exact ⟨(Vp.partOr_there [] hx).symm, h1⟩
theorem own_far2 {w w' : World} {B1 B2 n1 n2 s1 s2 : Nat} {e1 e2 : TypeId} {v1 v2 : Value} {x1 x2 : List Value} (h1 : w.ownsRow B1 e1 s1 v1 n1 x1) (h2 : w.ownsRow B2 e2 s2 v2 n2 x2) (hg : w.grownBy w' v2.ownBlock) (hne : e1 ≠ e2) : w'.ownsRow B1 e1 s1 v1 n1 x1 :=
 KeepT.own h1 (KeepT.row h2 hg hne)
theorem RSt.rows {W w6 : World} {O B RG : Nat} {vv : Value} {n : Int} {v e d : Vp.Txt} {k : Value} {rows : List (List Vp.Txt)} (hS : RSt W w6 O vv n v e d k) (h : RowsD w6 B RG rows) (j : Nat) (x : Value) : RowsD (w6.setCell ⟨O, j, none⟩ x) B RG rows := h.keep (KeepT.set hS.out (by decide)) (KeepT.set hS.out (by decide))
theorem RSt.owns {W w6 : World} {O B n' s : Nat} {t : TypeId} {vv v' : Value} {n : Int} {v e d : Vp.Txt} {k : Value} {xs : List Value} (hS : RSt W w6 O vv n v e d k) (h : w6.ownsRow B t s v' n' xs) (ht : t ≠ 27) (j : Nat) (x : Value) : (w6.setCell ⟨O, j, none⟩ x).ownsRow B t s v' n' xs := KeepT.own h (KeepT.set hS.out ht)
set_option maxRecDepth 100000 in
set_option maxHeartbeats 12800000 in
theorem refBuild_list (ns : List Tp.Nd) (i : Nat) (vs : List Vp.Txt) (v vv : Value) (W : World) (ht : TextsAt W v vs) (hnd : NodesAt W vv ns) (hm : Tp.may ns = true) (hi : i < ns.length) (hl : vs.length ≤ 64) (hf : ∀ x ∈ vs, Vp.Fit ns i x) (hk : Tp.kindOf ns i = 3) (n : Nat) (ih : RefBuildOK ns n) (hin : ns.length - i ≤ n + 1) :
  Calls Tryz.prog 44 #[typeV vv, .int .i64 (i : Int), v] W (RefBuildQ ns i vs W) := by
 have hbi : ¬ ((64 : Int) < (vs.length : Int)) := by omega
 have hdec : decide ((64 : Int) < (vs.length : Int)) = false := decide_eq_false hbi
 have HBE0 := Lib.hid (Vp.build_eq ns hm i hi vs)
 rw [if_neg (show ¬ 64 < vs.length by omega), if_neg (show ¬ Tp.kindOf ns i = 0 by omega), if_neg (show ¬ Tp.kindOf ns i = 1 by omega), if_neg (show ¬ Tp.kindOf ns i = 2 by omega), if_pos hk] at HBE0
 have HF := Lib.hid hf
 have HLB := Lib.hid (Vp.list_bound ns i hk vs hf)
 have HSM := Lib.hid (Vp.sum_list vs)
 have HKC := Lib.hid (fun w (h : NodesAt w vv ns) => refKids_calls vv ns (i : Int) w h ((Vp.node_of ns i).2 ⟨hm, hi⟩))
 obtain ⟨ks, hks⟩ : ∃ ks, Tp.kids ns (i : Int) = ks := ⟨_, rfl⟩
 have hk1 : ks.length = 1 := by rw [← hks, Vp.kids_one' hm hi hk]; rfl
 have HKLT := Lib.hid (show ∀ j, j < ks.length → i < ks.getD j 0 ∧ ks.getD j 0 < ns.length from fun j hj => by rw [← hks] at hj ⊢; exact Vp.kid_lt hm hj)
 have HKF0 := Lib.hid (show ∀ p ∈ (Vp.pts [] vs).flatten, Vp.Fit ns (ks.getD 0 0) p from fun p hp => by
  obtain ⟨row, hrow, hpr⟩ := List.mem_flatten.1 hp
  obtain ⟨x, hx, rfl⟩ := List.mem_map.1 hrow
  rw [← hks]
  exact (Vp.row_list hk (hf x hx)).2.1 p hpr)
 have hksl : ks.length ≤ 8 := by omega
 rw [hks] at HKC HBE0
 have HK1 := Lib.hid hk1
 have HIH := Lib.hid ih
 have hb1 : Below W.heap.size W ((W.alloc (.cells #[vv] 24)).alloc (.cells (arrC 0 0 0 [] [] [] (.slice none 0 0)) 27)) := below_alloc (below_alloc (Below.refl _ _) _) _
 have HV := Lib.hid (refValid_calls v vs _ (ht.below hb1) (by omega))
 have HND := Lib.hid hnd
 have HK := Lib.hid hk
 obtain ⟨bk, o, nc, rfl, hc1, hc2, hbk, g0, _⟩ := nodes_open hnd hi
 rw [hk] at g0
 obtain ⟨a, c, rfl, hc, hmx, h3⟩ := ht
 unfold maxLen at hc2 hmx
 have hii : (i : Int) < (ns.length : Int) := by omega
 replace h3 := Lib.hid h3
 clear hnd hks hf hk hk1 ih
 have hmk := make_rowsN ks.length (by omega)
 go_enter Tryz.func44, Tryz.ntmps44
 go_wp2_with (fail)
 refine HV.out.mono ?_
 rintro e w1 ⟨rfl, hb2⟩
 have S0 := Lib.hid (RSt.begin (vs.length : Int) (Vp.valid vs) hb2)
 have c4 := cell_of_one S0.out.box
 clear hb2 hb1
 go_wp2_with (fail)
 refine (HKC.out _ (HND.out.below S0.out.bel)).mono ?_
 rintro e w2 ⟨rk, rfl, hko, hb3⟩
 have S2 := Lib.hid (S0.out.below hb3)
 obtain ⟨ka, kc, rfl⟩ := own_slice hko
 have HKO := Lib.hid hko
 clear hko hb3 c4
 go_wp2
 have S3 := Lib.hid (S2.out.below (below_alloc (Below.refl _ _) (.cells (madeCells #[Value.slice none 0 0] ks.length) 39)))
 have HR3 := Lib.hid (RowsD.make (w := w2) ks.length rfl)
 have HK3 := Lib.hid (own_below HKO.out (below_alloc (Below.refl w2.heap.size w2) (.cells (madeCells #[Value.slice none 0 0] ks.length) 39)))
 have hw12 : w1.heap.size < w2.heap.size := S2.out.lt
 obtain ⟨B0, hB0⟩ : ∃ B0, (w1.alloc (.cells (arrC 0 0 vs.length (Vp.valid vs) [] [] (.slice none 0 0)) 27)).heap.size = B0 := ⟨_, rfl⟩
 rw [hB0] at HK3
 obtain ⟨ms, hms⟩ : ∃ ms, (Vp.pts [] vs).map List.length = ms := ⟨_, rfl⟩
 have hml : ms.length = vs.length := by rw [← hms]; simp [Vp.pts]
 rw [hms] at HSM HBE0
 have HEN := Lib.hid (show Vp.starts ms (vs.length + 1) = Vp.ends ms by rw [← hml]; exact Vp.starts_ends ms)
 have HST := Lib.hid (Vp.starts_succ ms)
 have HSL := Lib.hid (Vp.starts_length ms)
 clear hms hml HKO hB0
 go_loopw [13] (fun ix wr => ∃ q : Nat, q ≤ vs.length ∧ ix = .int .i64 (q : Int) ∧ RSt W wr w1.heap.size (.slice (some ⟨bk, o, none⟩) ns.length nc) vs.length (Vp.valid vs) (Vp.starts ms q) [] (.slice none 0 0) ∧ RowsD wr (w2.heap.size + 1) w2.heap.size [(Vp.pts [] (vs.take q)).flatten] ∧ wr.ownsRow B0 3 1 (.slice ka ks.length kc) ks.length (natv ks)) (fun ix _ => vs.length - (intOf ix).toNat)
 case atStart => exact ⟨0, Nat.zero_le _, rfl, S3.out, by have h := HR3.out; rw [HK1.out] at h ⊢; exact h, HK3.out⟩
 case round =>
  obtain ⟨q, hq, rfl, hS, hR, hO⟩ := hrel
  have S := Lib.hid hS
  have HR := Lib.hid hR
  have HOK := Lib.hid hO
  clear hS hR hO
  have c4 := cell_of_one S.out.box
  have hg0 := (S.out.bel.cell (p := ⟨bk, o + i * 3, none⟩) hbk).trans g0
  have hdl := HLB.out q
  have hsm := HSM.out q
  have hel := HSL.out q
  have HE := Lib.hid (HST.out q)
  have h0k : (0 : Int) < (ks.length : Int) := by have := HK1.out; omega
  obtain ⟨va, vc, hv0, hvf, hvo, hvn⟩ := HR.out.at (j := 0) rfl
  have HVO := Lib.hid hvo
  have HVN := Lib.hid hvn
  clear hvo hvn
  by_cases hlt : q < vs.length
  ·obtain ⟨bt, ot, rfl, hbt, hcell⟩ := h3.out (by intro e; rw [e] at hlt; exact Nat.not_lt_zero _ hlt)
   have c0 := (S.out.bel.cell (p := ⟨bt, ot + q, none⟩) hbt).trans (hcell q _ (List.getElem?_eq_getElem hlt))
   have hqi : (q : Int) < (vs.length : Int) := by omega
   have hlen := Vp.fit_len (HF.out _ (List.getElem_mem hlt))
   have hrow := list_row HK.out (HF.out _ (List.getElem_mem hlt))
   have HT := Lib.hid (Vp.flat_take vs q hlt [])
   clear hcell
   generalize vs[q] = x at c0 HT hlen hrow
   have HP := Lib.hid (fun W' => refParts_calls x W' (by omega))
   generalize (Vp.parts x).1 = kx at HP
   generalize (Vp.parts x).2.1 = ps at HP hrow
   generalize (Vp.parts x).2.2 = er at HP
   obtain ⟨hr1, hr2⟩ := hrow
   rw [← hr1] at HT
   clear hr1
   generalize (Vp.pts [] (vs.take q)).flatten = D at S HT hdl hsm hv0 HVO HVN HR
   rw [hsm] at HE
   generalize Vp.starts ms q = E at S HE hel
   replace hel : E.length ≤ 256 := by omega
   replace hdl : D.length ≤ 4096 := by omega
   have hEz := mk_size E
   have HLO := Lib.hid (fun w => low_str (D.length : Int) 4 w (by decide) (by decide) (by omega) (by omega))
   clear hsm
   go_wp2_with (fail)
   refine (HP.out _).mono ?_; rintro e' w5 ⟨r5, rfl, hpo, hb5⟩
   have S5 := Lib.hid (S.out.below hb5)
   have HPO := Lib.hid hpo
   have c4' := cell_of_one S5.out.box
   have hg0' := (S5.out.bel.cell (p := ⟨bk, o + i * 3, none⟩) hbk).trans g0
   obtain ⟨o0, o1, o2, o3, o4, o5, o6, p0, p1, p2, p3, p4, p5, p6⟩ := zero_cells S5.out.out
   obtain ⟨ra, rc, rfl⟩ := own_slice hpo
   have hRGlt := HR.out.lt
   have hv0' := (hb5.cell (p := ⟨w2.heap.size, 0, none⟩) hRGlt).trans hv0
   have HB5 := Lib.hid hb5
   clear c4 hg0 c0 hpo hv0 hb5
   simp only [tv] at o4
   go_wp2
   go_cut [] (fun wx => RSt W wx w1.heap.size (.slice (some ⟨bk, o, none⟩) ns.length nc) vs.length (Vp.valid vs) (E ++ word (D.length : Int) 4) [] (.slice none 0 0) ∧ RowsD wx (w2.heap.size + 1) w2.heap.size [D] ∧ wx.ownsRow B0 3 1 (.slice ka ks.length kc) ks.length (natv ks) ∧ wx.ownsRow wr.heap.size 9 1 (.slice ra ps.length rc) ps.length (ps.map tv) ∧ w5.heap.size ≤ wx.heap.size)
   case first =>
    go_region_with (go_at_call 74; refine (HLO.out _).mono ?_; rintro e6 w6 ⟨t, htl, htz, htw, rfl, hb6⟩; have hB6 : Below w5.heap.size w5 w6 := (by first | exact hb6 | exact below_drew_then hb6); have S6 := Lib.hid (S5.out.below hB6); obtain ⟨z0, z1, z2, z3, z4, z5, z6, y0, y1, y2, y3, y4, y5, y6⟩ := zero_cells S6.out.out; simp only [tv] at z4; have hv6 := (hB6.cell (p := ⟨w2.heap.size, 0, none⟩) (by have := HB5.out.size; simp only; omega)).trans hv0')
    all_goals
     go_wp2_with fail
     go_meet
     have h := S6.out.set 4 (tv (E ++ t)) (E ++ t) [] (.slice none 0 0) rfl
     rw [htw, mk_append]
     exact ⟨h, S6.out.rows ((HR.out.below HB5.out).below hB6) _ _, S6.out.owns (own_below (own_below HOK.out HB5.out) hB6) (by decide) _ _, S6.out.owns (own_below HPO.out hB6) (by decide) _ _, by simpa using hB6.size⟩
   case rest =>
    obtain ⟨hS7, hR7, hO7, hP7, hs7⟩ := hcut
    have S7 := Lib.hid hS7
    have HO7 := Lib.hid hO7
    have HP7 := Lib.hid (texts_src (own_texts hP7))
    obtain ⟨va7, vc7, hv7, hvf7, hvo7, hvn7⟩ := hR7.at (j := 0) rfl
    have HVO7 := Lib.hid hvo7
    have HVN7 := Lib.hid hvn7
    have hRG7 := hR7.lt
    obtain ⟨cs7, hRGb, _⟩ := (show ∃ cs : List Value, wc.heap[w2.heap.size]? = some (.cells cs.toArray 39) ∧ True from by obtain ⟨cs, h, _⟩ := hR7; exact ⟨cs, h, trivial⟩)
    have hB5s := HB5.out.size
    clear hS7 hO7 hP7 hR7 hvo7 hvn7 o0 o1 o2 o3 o4 o5 o6 p0 p1 p2 p3 p4 p5 p6 hv0' hvf
    go_wp2_with (at_builtin; refine wp_appSA rfl _ _ 39 9 rfl (w2.heap.size + 1) 1 16 (.string ⟨#[]⟩) Tryz.underlying39 info_string rfl (by decide) _ _ _ rfl HVO7.out ra ps.length rc (ps.map tv) rfl (by simp) HP7.out (tvs_one ps) (by omega) (by omega) (by omega) ?_; intro v9 w9 ho9 hb9 hg9 hl9; have S9 := Lib.hid (S7.out.own hb9 (show w1.heap.size < w2.heap.size + 1 by omega)); obtain ⟨va9, vc9, rfl⟩ := own_sliceN ho9; have hc9 := (hb9.cell (p := ⟨w2.heap.size, 0, none⟩) (Nat.lt_succ_self _)).trans hv7; have hc9b := (hb9.block w2.heap.size (Nat.lt_succ_self _)).trans hRGb; have hf9 := (World.frozen?_of_block (a := ⟨w2.heap.size, 0, none⟩) (hb9.block w2.heap.size (Nat.lt_succ_self _))).trans hvf7; have HR9 := Lib.hid (HVN7.out _ _ _ ps (Below.refl _ _) ho9 hg9 hl9); have HO9 := Lib.hid (show w9.ownsRow B0 3 1 (.slice ka ks.length kc) ks.length (natv ks) from own_far2 HO7.out HVO7.out hg9 (by decide)); clear ho9 hg9 hl9)
    refine ⟨⟨q + 1, by omega, by go_num, ?_, ?_, KeepT.own HO9.out (KeepT.set (e' := 39) hc9b (by decide))⟩, by simp [intOf]; omega⟩
    ·rw [HE.out]
     exact S9.out.put _ _ _ hw12
    ·rw [HT.out]
     exact HR9.out
  ·obtain rfl : q = vs.length := by omega
   rw [List.take_length] at hdl hsm hv0 HVO HVN HR
   have hEN := HEN.out
   rw [HST.out, hsm] at hEN
   generalize (Vp.pts [] vs).flatten = D at S hdl HBE0 hEN hv0 HVO HVN HR HKF0
   generalize Vp.starts ms vs.length = E at S hel hEN
   replace hel : E.length ≤ 256 := by omega
   replace hdl : D.length ≤ 4096 := by omega
   rw [← hEN] at HBE0
   clear hsm hEN HE
   have hEz := mk_size E
   have HLO := Lib.hid (fun w => low_str (D.length : Int) 4 w (by decide) (by decide) (by omega) (by omega))
   obtain ⟨o0, o1, o2, o3, o4, o5, o6, p0, p1, p2, p3, p4, p5, p6⟩ := zero_cells S.out.out
   have hRGlt := HR.out.lt
   simp only [tv] at o4
   go_upto_block 5 with (fail)
   go_cut [] (fun wx => RSt W wx w1.heap.size (.slice (some ⟨bk, o, none⟩) ns.length nc) vs.length (Vp.valid vs) (E ++ word (D.length : Int) 4) [] (.slice none 0 0) ∧ RowsD wx (w2.heap.size + 1) w2.heap.size [D] ∧ wx.ownsRow B0 3 1 (.slice ka ks.length kc) ks.length (natv ks))
   case first =>
    go_wp2
    go_region_with (go_at_call 74; refine (HLO.out _).mono ?_; rintro e6 w6 ⟨t, htl, htz, htw, rfl, hb6⟩; have hB6 : Below wr.heap.size wr w6 := (by first | exact hb6 | exact below_drew_then hb6); have S6 := Lib.hid (S.out.below hB6); obtain ⟨z0, z1, z2, z3, z4, z5, z6, y0, y1, y2, y3, y4, y5, y6⟩ := zero_cells S6.out.out; simp only [tv] at z4; have hv6 := (hB6.cell (p := ⟨w2.heap.size, 0, none⟩) hRGlt).trans hv0)
    all_goals
     go_wp2_with fail
     go_meet
     have h := S6.out.set 4 (tv (E ++ t)) (E ++ t) [] (.slice none 0 0) rfl
     rw [htw, mk_append]
     exact ⟨h, S6.out.rows (HR.out.below hB6) _ _, S6.out.owns (own_below HOK.out hB6) (by decide) _ _⟩
   case rest =>
    obtain ⟨hST, hRT, hOT⟩ := hcut
    have ST := Lib.hid hST
    have HRT := Lib.hid hRT
    have HOT := Lib.hid hOT
    obtain ⟨rows, hrows⟩ : ∃ rows, [D] = rows := ⟨_, rfl⟩
    have HBE := Lib.hid (show Vp.build ns i vs = (Vp.seqO ((List.range ks.length).map fun j => Vp.build ns (ks.getD j 0) (rows.getD j []))).map fun ys => .mk 0 0 vs.length (Vp.valid vs) (E ++ word (D.length : Int) 4) [] ys by
     rw [HBE0.out, ← hrows, HK1.out]
     simp only [List.range_one, List.map_cons, List.map_nil, List.getD_cons_zero, Vp.seqO]
     cases Vp.build ns (ks.getD 0 0) D <;> rfl)
    have HRK := Lib.hid (show rows.length = ks.length by rw [HK1.out, ← hrows]; rfl)
    have HRL := Lib.hid (show ∀ j, (rows.getD j []).length ≤ 140737488351232 from fun j => by
     rw [← hrows]
     cases j with
     | zero => rw [List.getD_cons_zero]; omega
     | succ j => rw [List.getD_cons_succ, List.getD_nil]; exact Nat.zero_le _)
    have HKF := Lib.hid (show ∀ j, j < ks.length → ∀ p ∈ rows.getD j [], Vp.Fit ns (ks.getD j 0) p from fun j hj p hp => by
     have h1 := HK1.out
     obtain rfl : j = 0 := by omega
     rw [← hrows, List.getD_cons_zero] at hp
     exact HKF0.out p hp)
    have hel2 : (E ++ word (D.length : Int) 4).length ≤ 260 := by rw [List.length_append, word_length]; omega
    rw [hrows] at HRT
    clear hST hRT hOT hrows o0 o1 o2 o3 o4 o5 o6 p0 p1 p2 p3 p4 p5 p6 HBE0 HKF0 HR HOK S HVO HVN hv0 hvf c4 hg0 HLO hEz hel
    generalize E ++ word (D.length : Int) 4 = E at ST HBE hel2
    clear HK1 hdl h0k
    clear D
    go_wp2
    go_loopw [20] (fun ix w9 => ∃ (q : Nat) (kv : Value) (done : List Arr), q ≤ ks.length ∧ ix = .int .i64 (q : Int) ∧ done.length = q ∧ RSt W w9 w1.heap.size (.slice (some ⟨bk, o, none⟩) ns.length nc) vs.length (Vp.valid vs) E [] kv ∧ KidsOwn w9 (fun g => w1.heap.size < g) done kv ∧ RowsD w9 (w2.heap.size + 1) w2.heap.size rows ∧ w9.ownsRow B0 3 1 (.slice ka ks.length kc) ks.length (natv ks) ∧ Vp.seqO ((List.range q).map fun j => Vp.build ns (ks.getD j 0) (rows.getD j [])) = some done) (fun ix _ => ks.length - (intOf ix).toNat)
    case atStart => exact ⟨0, _, [], Nat.zero_le _, rfl, rfl, ST.out, KidsOwn.nil _ _, HRT.out, HOT.out, rfl⟩
    case round =>
     obtain ⟨q, kv, done, hq, rfl, hdl, hS, hK, hR, hO, hM⟩ := hrel
     rename World => wo
     have S := Lib.hid hS
     have HK := Lib.hid hK
     have HRr := Lib.hid hR
     have HOr := Lib.hid hO
     have HM := Lib.hid hM
     have HDL := Lib.hid hdl
     clear hS hK hR hO hM hdl
     by_cases hlt : q < ks.length
     ·obtain ⟨gk, capk, hrk, hck, hgk⟩ := nat_row HOr.out hlt
      obtain ⟨rfl, _, rfl⟩ := Value.slice.inj hrk
      have hqi : (q : Int) < (ks.length : Int) := by omega
      have HKD := Lib.hid (show ks.getD q 0 = ks[q] by rw [List.getD_eq_getElem?_getD, List.getElem?_eq_getElem hlt]; rfl)
      have hkl := HKLT.out q hlt
      have HKf := Lib.hid (HKF.out q hlt)
      have hrl := HRL.out q
      rw [HKD.out] at hkl HKf
      have hrq : q < rows.length := by rw [HRK.out]; exact hlt
      have HSQ := Lib.hid (show (Vp.seqO ((List.range (q + 1)).map fun j => Vp.build ns (ks.getD j 0) (rows.getD j []))) = (Vp.seqO ((List.range q).map fun j => Vp.build ns (ks.getD j 0) (rows.getD j []))).bind fun ys => (Vp.build ns ks[q] (rows.getD q [])).map fun a => ys ++ [a] by
       rw [List.range_succ, List.map_append, List.map_cons, List.map_nil, Vp.seqO_snoc, HKD.out])
      have HNO := Lib.hid (fun (hn : Vp.build ns ks[q] (rows.getD q []) = none) => show Vp.build ns i vs = none by
       rw [HBE.out]
       have h1 : Vp.seqO ((List.range ks.length).map fun j => Vp.build ns (ks.getD j 0) (rows.getD j [])) = none := by
        have he : ks.length = (q + 1) + (ks.length - (q + 1)) := by omega
        rw [he, List.range_add, List.map_append]
        exact Vp.seqO_none _ _ (by rw [HSQ.out, HM.out, hn]; rfl)
       rw [h1]; rfl)
      have hrd : rows.getD q [] = rows[q] := by rw [List.getD_eq_getElem?_getD, List.getElem?_eq_getElem hrq]; rfl
      obtain ⟨ra, rc, hrc, htx⟩ := HRr.out.text (List.getElem?_eq_getElem hrq)
      rw [hrd] at hrl HKf HSQ HNO
      generalize ks[q] = kd at hck hkl HKf HSQ HNO
      generalize rows[q] = row at hrl HKf HSQ HNO hrc htx
      have c4 := cell_of_one S.out.box
      have hRGlt := HRr.out.lt
      have hbx0 := (Array.getElem?_eq_some_iff.1 S.out.box).1
      have HBU := Lib.hid (fun W' (h : Below wo.heap.size wo W') => HIH.out kd row (.slice ra row.length rc) (.slice (some ⟨bk, o, none⟩) ns.length nc) W' hkl.2 (by omega) (htx.below h) ((HND.out.below S.out.bel).below h) hrl HKf.out)
      clear hrk HKD hrd hkl htx
      have HS := Lib.hid (show ∀ w', Below wo.heap.size wo w' → (fun w' => w'.cell? ⟨W.heap.size, 0, none⟩ = some (.slice (some ⟨bk, o, none⟩) ns.length nc) ∧ w'.cell? ⟨gk, q, none⟩ = some (.int .i64 (kd : Int)) ∧ w'.cell? ⟨w2.heap.size, q, none⟩ = some (.slice ra row.length rc) ∧ Below wo.heap.size wo w') w' from fun w' h => ⟨(h.cell (p := ⟨W.heap.size, 0, none⟩) hbx0).trans c4, (h.cell (p := ⟨gk, q, none⟩) hgk).trans hck, (h.cell (p := ⟨w2.heap.size, q, none⟩) hRGlt).trans hrc, h⟩)
      clear hck hrc
      go_upto_region 42 with (fail)
      go_cut [21, 22] (fun s21 s22 wx => KidR ns kd row wo s21 s22 wx)
      case first =>
       refine wp_region_held_drew (S := (fun w' => w'.cell? ⟨W.heap.size, 0, none⟩ = some (.slice (some ⟨bk, o, none⟩) ns.length nc) ∧ w'.cell? ⟨gk, q, none⟩ = some (.int .i64 (kd : Int)) ∧ w'.cell? ⟨w2.heap.size, q, none⟩ = some (.slice ra row.length rc) ∧ Below wo.heap.size wo w')) (by kernel_rfl) (HS.out _ (below_drew (Below.refl _ _))) (fun hHeld => ?_)
       refine tk 0 (v := ?_) rfl (fun _ _ _ h => h) (Or.inl ⟨by rfl, ?_⟩) (by assumption) ?_; rotate_left; focus (intro w hSw; (try dsimp only at hSw); go_simp; try with_reducible rfl)
       (try simp only [sx])
       refine tk 1 (v := ?_) rfl (fun _ _ _ h => h) (Or.inl ⟨by rfl, ?_⟩) (by assumption) ?_; rotate_left; focus (intro w hSw; (try dsimp only at hSw); go_simp; try with_reducible rfl)
       (try simp only [sx])
       refine tk 2 (v := ?_) rfl (fun _ _ _ h => h) (Or.inl ⟨by rfl, ?_⟩) (by assumption) ?_; rotate_left; focus (intro w hSw; (try dsimp only at hSw); go_simp; try with_reducible rfl)
       (try simp only [sx])
       refine tk 3 (v := ?_) rfl (fun _ _ _ h => h) (Or.inl ⟨by rfl, ?_⟩) (by assumption) ?_; rotate_left; focus (intro w hSw; (try dsimp only at hSw); go_simp; try with_reducible rfl)
       (try simp only [sx])
       refine tk 4 (v := ?_) rfl (fun _ _ _ h => h) (Or.inl ⟨by rfl, ?_⟩) (by assumption) ?_; rotate_left; focus (intro w hSw; (try dsimp only at hSw); go_simp; try with_reducible rfl)
       (try simp only [sx])
       refine tk 5 (v := ?_) rfl (fun _ _ _ h => h) (Or.inl ⟨by rfl, ?_⟩) (by assumption) ?_; rotate_left; focus (intro w hSw; (try dsimp only at hSw); go_simp; try with_reducible rfl)
       (try simp only [sx])
       refine tk 6 (v := ?_) rfl (fun _ _ _ h => h) (Or.inl ⟨by rfl, ?_⟩) (by assumption) ?_; rotate_left; focus (intro w hSw; (try dsimp only at hSw); go_simp; try with_reducible rfl)
       (try simp only [sx])
       refine tk 7 (v := ?_) rfl (fun _ _ _ h => h) (Or.inl ⟨by rfl, ?_⟩) (by assumption) ?_; rotate_left; focus (intro w hSw; (try dsimp only at hSw); go_simp; try with_reducible rfl)
       (try simp only [sx])
       refine tk 8 (v := ?_) rfl (fun _ _ _ h => h) (Or.inl ⟨by rfl, ?_⟩) (by assumption) ?_; rotate_left; focus (intro w hSw; (try dsimp only at hSw); go_simp; try with_reducible rfl)
       (try simp only [sx])
       refine wpAnyH_ready (rs := [9, 13]) (by kernel_rfl) (by simp) ?_
       refine AllReadyH.cons rfl (fun K hK => ?_) (AllReadyH.cons rfl (fun K hK => ?_) AllReadyH.nil)
       ·go_simp
        go_at_call 44; refine (HBU.out _ hHeld.2.2.2).mono ?_; rintro e6 w6 ⟨u6, b6, ar, rfl, hao, hm6, hb6⟩; obtain ⟨k6, ac, cc6, hk6, rfl, hko⟩ := hao.value; subst hk6; have HX4 := below_then hHeld.2.2.2 hb6
        clear hHeld
        refine hK.out _ _ (HS.out _ HX4) (fun hHeld => ?_)
        clear hK K
        (try simp only [sx])
        refine tk 10 (v := ?_) rfl (fun _ _ _ h => h) (Or.inl ⟨by rfl, ?_⟩) (by assumption) ?_; rotate_left; focus (intro w hSw; (try dsimp only at hSw); go_simp; try with_reducible rfl)
        (try simp only [sx])
        refine tk 11 (v := ?_) rfl (fun _ _ _ h => h) (Or.inl ⟨by rfl, ?_⟩) (by assumption) ?_; rotate_left; focus (intro w hSw; (try dsimp only at hSw); go_simp; try with_reducible rfl)
        (try simp only [sx])
        refine tk 12 (v := ?_) rfl (fun _ _ _ h => h) (Or.inl ⟨by rfl, ?_⟩) (by assumption) ?_; rotate_left; focus (intro w hSw; (try dsimp only at hSw); go_simp; try with_reducible rfl)
        (try simp only [sx])
        refine wpAnyH_ready (rs := [13]) (by kernel_rfl) (by simp) ?_
        refine AllReadyH.cons rfl (fun K hK => ?_) AllReadyH.nil
        go_simp
        clear hHeld
        refine hK.out _ _ (HS.out _ (below_alloc HX4 _)) (fun hHeld => ?_)
        clear hK K
        (try simp only [sx])
        refine wpAnyH_ready (rs := [14]) (by kernel_rfl) (by simp) ?_
        refine AllReadyH.cons rfl (fun K hK => ?_) AllReadyH.nil
        go_simp
        clear hHeld
        refine hK.out _ _ (HS.out _ (below_alloc HX4 _)) (fun hHeld => ?_)
        clear hK K
        (try simp only [sx])
        refine tk 15 (v := ?_) rfl (fun _ _ _ h => h) (Or.inl ⟨by rfl, ?_⟩) (by assumption) ?_; rotate_left; focus (intro w hSw; (try dsimp only at hSw); go_simp; try with_reducible rfl)
        (try simp only [sx])
        refine wpAnyH_done (by kernel_rfl) ?_ _
        go_wp2_with fail
        go_meet
        exact kidR_alloc _ (Nat.le_refl _) hko hm6 HX4
       ·go_simp
        clear hHeld
        refine hK.out _ _ (HS.out _ (below_alloc (below_drew (Below.refl _ _)) _)) (fun hHeld => ?_)
        clear hK K
        (try simp only [sx])
        refine wpAnyH_ready (rs := [9]) (by kernel_rfl) (by simp) ?_
        refine AllReadyH.cons rfl (fun K hK => ?_) AllReadyH.nil
        go_simp
        go_at_call 44; refine (HBU.out _ hHeld.2.2.2).mono ?_; rintro e6 w6 ⟨u6, b6, ar, rfl, hao, hm6, hb6⟩; obtain ⟨k6, ac, cc6, hk6, rfl, hko⟩ := hao.value; subst hk6; have HX4 := below_then hHeld.2.2.2 hb6
        have hblk : w6.heap[wo.heap.size]? = some (.cells #[.int .i64 0, .int .i64 0, .int .i64 0, .string ⟨#[]⟩, .string ⟨#[]⟩, .string ⟨#[]⟩, .slice none 0 0] 27) := (hb6.block _ (by show wo.heap.size < (wo.drew.alloc _).heap.size; simp)).trans (heap_alloc_new wo.drew _)
        obtain ⟨z0, z1, z2, z3, z4, z5, z6, y0, y1, y2, y3, y4, y5, y6⟩ := zero_cells hblk
        clear hHeld
        refine hK.out _ _ (HS.out _ HX4) (fun hHeld => ?_)
        clear hK K
        (try simp only [sx])
        refine tk 10 (v := ?_) rfl (fun _ _ _ h => h) (Or.inl ⟨by rfl, ?_⟩) (by assumption) ?_; rotate_left; focus (intro w hSw; (try dsimp only at hSw); go_simp; try with_reducible rfl)
        (try simp only [sx])
        refine tk 11 (v := ?_) rfl (fun _ _ _ h => h) (Or.inl ⟨by rfl, ?_⟩) (by assumption) ?_; rotate_left; focus (intro w hSw; (try dsimp only at hSw); go_simp; try with_reducible rfl)
        (try simp only [sx])
        refine tk 12 (v := ?_) rfl (fun _ _ _ h => h) (Or.inl ⟨by rfl, ?_⟩) (by assumption) ?_; rotate_left; focus (intro w hSw; (try dsimp only at hSw); go_simp; try with_reducible rfl)
        (try simp only [sx])
        refine wpAnyH_ready (rs := [14]) (by kernel_rfl) (by simp) ?_
        refine AllReadyH.cons rfl (fun K hK => ?_) AllReadyH.nil
        go_simp
        clear hHeld
        refine hK.out _ _ (HS.out _ (below_set7 HX4 (Nat.le_refl _) _ _ _ _ _ _ _)) (fun hHeld => ?_)
        clear hK K
        (try simp only [sx])
        refine tk 15 (v := ?_) rfl (fun _ _ _ h => h) (Or.inl ⟨by rfl, ?_⟩) (by assumption) ?_; rotate_left; focus (intro w hSw; (try dsimp only at hSw); go_simp; try with_reducible rfl)
        (try simp only [sx])
        refine wpAnyH_done (by kernel_rfl) ?_ _
        go_wp2_with fail
        go_meet
        exact kidR_set _ (Nat.le_refl _) _ (by show wo.heap.size < (wo.drew.alloc _).heap.size; simp) hko hm6 HX4 hblk
      case rest =>
       obtain ⟨c6, b6, ar, k6, rfl, rfl, hc6, hR6, hko6, hm6, hbx⟩ := hcut
       have SX := Lib.hid (S.out.below hbx)
       have HKX := Lib.hid (KidsOwn.same done _ kv (fun g _ hc => KeepT.below hbx (e := 27) g hc) HK.out)
       have HRX := Lib.hid (HRr.out.below hbx)
       have HOX := Lib.hid (own_below HOr.out hbx)
       have HKO6 := Lib.hid hko6
       obtain ⟨va, vc, hkv⟩ := HK.out.slice
       rw [HDL.out] at hkv
       subst hkv
       obtain ⟨ac, cc6, hk6⟩ := hko6.slice
       subst hk6
       have hwx := hbx.size
       obtain ⟨t0, t1, t2, t3, t4, t5, t6, _⟩ := zero_cells hR6
       obtain ⟨r0, r1, r2, r3, r4, r5, r6, p0, p1, p2, p3, p4, p5, p6⟩ := zero_cells SX.out.res
       obtain ⟨o0, o1, o2, o3, o4, o5, o6, y0, y1, y2, y3, y4, y5, y6⟩ := zero_cells SX.out.out
       have hc6lt := (Array.getElem?_eq_some_iff.1 hR6).1
       clear hko6 HS
       cases b6 with
       | false =>
        have hbn : Vp.build ns kd row = none := by
         cases hb : Vp.build ns kd row with
         | none => rfl
         | some x => rw [hb] at hm6; exact absurd hm6.1 (by decide)
        have hno := HNO.out hbn
        go_wp2
        (try simp only [Exit.inBlock, Exit.then])
        refine bodyPost_ret (results_cell2_row rfl _ _ (W.heap.size + 1) 27 (arrC 0 0 vs.length (Vp.valid vs) E [] (.slice va q vc)) (0, 0) _ rfl SX.out.resAt Tryz.underlying27 rfl info_array_size) rfl ?_
        exact SX.out.done HKX.out (by rw [hno])
       | true =>
        have hby : Vp.build ns kd row = some ar := by
         cases hb : Vp.build ns kd row with
         | none => rw [hb] at hm6; exact Bool.noConfusion (show true = false from hm6)
         | some x => rw [hb] at hm6; rw [hm6.2]
        have HM2 := Lib.hid (show Vp.seqO ((List.range (q + 1)).map fun j => Vp.build ns (ks.getD j 0) (rows.getD j [])) = some (done ++ [ar]) by rw [HSQ.out, HM.out, hby]; rfl)
        obtain ⟨cs, hKC, hKA, hKB⟩ := HKX.out.parts
        rw [HDL.out] at hKC
        have HKC := Lib.hid hKC
        have HKA := Lib.hid hKA
        have HKB := Lib.hid hKB
        clear hKC hKA hKB hm6 hby r0 r1 r2 r3 r4 r5 r6 p0 p1 p2 p3 p4 p5 p6
        have HBA : Below wc.heap.size wc (wc.alloc (.cells (arrC ar.lay ar.off ar.len ar.valid ar.ends ar.data (.slice ac ar.kids.length cc6)) 27)) := (Below.refl _ _).alloc (Nat.le_refl _) _
        have HBA2 := Lib.hid HBA
        have HOX2 := Lib.hid ((Array.getElem?_eq_some_iff.1 SX.out.out).1)
        have hq8 : q ≤ 8 := by omega
        go_wp2_with (at_builtin; refine wp_app_arr rfl _ _ rfl (.slice va q vc) q cs rfl HKC.out ar.lay ar.off ar.len ar.valid ar.ends ar.data ac ar.kids.length cc6 rfl (by omega) ?_; intro va9 vc9 w9 ho9 hg9 hl9; obtain ⟨hS9, o69, y69⟩ := SX.out.app hg9 (fun g e => HKA.out g e); have S9 := Lib.hid hS9; have HO9 := Lib.hid ho9; have HG9 := Lib.hid hg9; have HL9 := Lib.hid hl9; clear hS9 ho9 hg9 hl9 o0 o1 o2 o3 o4 o5 o6 y0 y1 y2 y3 y4 y5 y6)
        have S10 := Lib.hid (S9.out.set 6 (.slice va9 (q + 1) vc9) E [] (.slice va9 (q + 1) vc9) rfl)
        have hkeep : ∀ e : TypeId, e ≠ 27 → KeepT e wc (w9.setCell ⟨w1.heap.size, 6, none⟩ (.slice va9 (q + 1) vc9)) := fun e he =>
         (KeepT.below HBA2.out).trans ((KeepT.row (HKC.out.alloc _) HG9.out he).trans (KeepT.set S9.out.out he))
        have hkvlt : ∀ g, (Value.slice va q vc).ownBlock = some g → g < wo.heap.size := fun g e => by
         obtain ⟨cs5, h1, _⟩ := HK.out.parts
         exact (h1.lt g e).2
        have hKN : KidsOwn w9 (fun g => w1.heap.size < g) (done ++ [ar]) (.slice va9 (q + 1) vc9) := by
         have h1 : KidsOwn (wc.alloc (.cells (arrC ar.lay ar.off ar.len ar.valid ar.ends ar.data (.slice ac ar.kids.length cc6)) 27)) (fun g => w1.heap.size < g ∧ (Value.slice va q vc).ownBlock ≠ some g) ar.kids (.slice ac ar.kids.length cc6) :=
          KidsOwn.same _ _ _ (fun g _ hc => KeepT.below HBA2.out (e := 27) g hc) (KidsOwn.weak _ _ _ _ (fun g hg _ => ⟨by have := S.out.lt; have : wo.heap.size ≤ g := hg; omega, fun e => by have := hkvlt g e; have : wo.heap.size ≤ g := hg; omega⟩) HKO6.out)
         have h2 := KidsOwn.snoc (ks := done) (ys := ar.kids) (l := ar.lay) (f := ar.off) (n := ar.len) (v := ar.valid) (e := ar.ends) (d := ar.data) (A := fun g => w1.heap.size < g) (by rw [HDL.out]; exact HKC.out.alloc _) (CellsOwn.same _ _ _ (fun g _ hc => KeepT.below HBA2.out (e := 27) g hc) HKB.out) h1 (by rw [HDL.out]; exact HO9.out) HG9.out
          (by
           rcases HL9.out with h | h
           ·exact .inl h
           ·exact .inr ⟨_, h, Nat.le_refl _⟩)
          (fun g e => by
           rcases HL9.out with h | h
           ·exact HKA.out g (h.symm.trans e)
           ·have hsz : (wc.alloc (.cells (arrC ar.lay ar.off ar.len ar.valid ar.ends ar.data (.slice ac ar.kids.length cc6)) 27)).heap.size = wc.heap.size + 1 := by simp
            have h' : _ = g := Option.some.inj (h.symm.trans e)
            have := HOX2.out
            omega)
         have e : Arr.mk ar.lay ar.off ar.len ar.valid ar.ends ar.data ar.kids = ar := by obtain ⟨l, f, n, v, e, d, ks⟩ := ar; rfl
         rwa [e] at h2
        refine ⟨⟨q + 1, .slice va9 (q + 1) vc9, done ++ [ar], by omega, by go_num, by rw [List.length_append, HDL.out]; rfl, S10.out, ?_, HRX.out.keep (hkeep _ (by decide)) (hkeep _ (by decide)), (hkeep _ (by decide)).own HOX.out, HM2.out⟩, by simp [intOf]; omega⟩
        exact KidsOwn.same _ _ _ (fun g hg _ => Below.heap_setCell w9 ⟨w1.heap.size, 6, none⟩ _ g (by simp only; omega)) hKN
     ·obtain rfl : q = ks.length := by omega
      obtain ⟨va, vc, hkv⟩ := HK.out.slice
      rw [HDL.out] at hkv
      subst hkv
      obtain ⟨r0, r1, r2, r3, r4, r5, r6, p0, p1, p2, p3, p4, p5, p6⟩ := zero_cells S.out.res
      obtain ⟨o0, o1, o2, o3, o4, o5, o6, y0, y1, y2, y3, y4, y5, y6⟩ := zero_cells S.out.out
      have hEz := mk_size E
      simp only [tv] at o4 o5
      have hd4 : decide ((E.length : Int) ≤ 4096) = true := decide_eq_true (by omega)
      have hd5 : (E.length : Int) ≤ 4096 := by omega
      have hOR : ¬ w1.heap.size = W.heap.size + 1 := by have := S.out.olt; omega
      have hRO : ¬ W.heap.size + 1 = w1.heap.size := by have := S.out.olt; omega
      have HFIN := Lib.hid (show Vp.build ns i vs = some (.mk 0 0 vs.length (Vp.valid vs) E [] done) by rw [HBE.out, HM.out]; rfl)
      go_wp2
      go_region
      all_goals
       go_wp2
       (try simp only [Exit.inBlock, Exit.then])
       have hD := S.out.resAtD
       simp only [tv] at hD
       refine bodyPost_ret (results_cell2_row rfl _ _ (W.heap.size + 1) 27 _ (0, 0) _ rfl hD Tryz.underlying27 rfl info_array_size) rfl ?_
       exact S.out.fin HK.out (b := true) (by rw [HFIN.out]; exact ⟨rfl, rfl⟩) rfl rfl
end Go.Proofs.YtobhjlchpnpleaaGreatDoor
