/- The reference's build of structs, walked. -/
import Derived.Test.YtobhjlchpnpleaaGreatDoorCa13
import Derived.Test.YtobhjlchpnpleaaGreatDoorCa24
namespace Go.Proofs.YtobhjlchpnpleaaGreatDoor
open Go.RowKit
set_option linter.unusedVariables false
set_option linter.unusedSimpArgs false

/-- The columns of rows, the first ones by a row more. -/
def colsTo (R : List (List Vp.Txt)) (m q j : Nat) : List (List Vp.Txt) := (List.range m).map fun k => Vp.col (R.take (if k < j then q + 1 else q)) k
theorem colsTo_zero (R : List (List Vp.Txt)) (m q : Nat) : colsTo R m q 0 = (List.range m).map fun k => Vp.col (R.take q) k := by
 unfold colsTo
 exact List.map_congr_left fun k _ => by rw [if_neg (Nat.not_lt_zero _)]
theorem colsTo_all (R : List (List Vp.Txt)) (m q : Nat) : colsTo R m q m = (List.range m).map fun k => Vp.col (R.take (q + 1)) k := by
 unfold colsTo
 exact List.map_congr_left fun k hk => by rw [if_pos (List.mem_range.1 hk)]
theorem colsTo_at (R : List (List Vp.Txt)) (m q j : Nat) (hj : j < m) : (colsTo R m q j)[j]? = some (Vp.col (R.take q) j) := by
 unfold colsTo
 rw [List.getElem?_map, List.getElem?_range hj]
 simp
theorem colsTo_step (R : List (List Vp.Txt)) (m q j : Nat) (hj : j < m) (hq : q < R.length) : (colsTo R m q j).set j (Vp.col (R.take q) j ++ [R[q].getD j []]) = colsTo R m q (j + 1) := by
 unfold colsTo
 apply List.ext_getElem?
 intro k
 by_cases hkj : k = j
 ·subst hkj
  rw [List.getElem?_set_self (by simpa using hj), List.getElem?_map, List.getElem?_range hj]
  simp only [Option.map_some, if_pos (Nat.lt_succ_self _)]
  rw [col_take R q k hq]
 ·rw [List.getElem?_set_ne (fun e => hkj e.symm), List.getElem?_map, List.getElem?_map]
  by_cases hkm : k < m
  ·rw [List.getElem?_range hkm]
   simp only [Option.map_some]
   by_cases h : k < j
   ·rw [if_pos h, if_pos (by omega)]
   ·rw [if_neg h, if_neg (by omega)]
  ·rw [List.getElem?_eq_none (by simpa using Nat.le_of_not_lt hkm)]; rfl
/-- No row's block is a block of another's. -/
def Apart (w : World) (RG : Nat) (X : Option Nat) : Prop := ∃ cs : List Value, w.heap[RG]? = some (.cells cs.toArray 39) ∧ ∀ (j : Nat) (c : Value) (g : Nat), cs[j]? = some c → c.ownBlock = some g → X ≠ some g
theorem Apart.block {w w' : World} {RG : Nat} {X : Option Nat} (h : Apart w RG X) (hb : w'.heap[RG]? = w.heap[RG]?) : Apart w' RG X := by
 obtain ⟨cs, h1, h2⟩ := h
 exact ⟨cs, hb.trans h1, h2⟩
theorem Apart.set {w : World} {RG j : Nat} {X : Option Nat} {v : Value} (h : Apart w RG X) (hv : ∀ g, v.ownBlock = some g → X ≠ some g) : Apart (w.setCell ⟨RG, j, none⟩ v) RG X := by
 obtain ⟨cs, h1, h2⟩ := h
 refine ⟨cs.set j v, by simp [World.setCell, Array.getElem?_modify, h1], fun k c g hc hg => ?_⟩
 rw [List.getElem?_set] at hc
 split at hc
 ·split at hc
  ·obtain rfl := Option.some.inj hc
   exact hv g hg
  ·cases hc
 ·exact h2 k c g hc hg
theorem Apart.at {w : World} {RG j : Nat} {X : Option Nat} {c : Value} {g : Nat} (h : Apart w RG X) (hc : w.cell? ⟨RG, j, none⟩ = some c) (hg : c.ownBlock = some g) : X ≠ some g := by
 obtain ⟨cs, h1, h2⟩ := h
 simp only [World.cell?, h1, Option.isSome_none, Bool.false_eq_true, if_false, List.getElem?_toArray] at hc
 exact h2 j c g hc hg
theorem Apart.start {w : World} {B RG : Nat} {rows : List (List Vp.Txt)} {X : Option Nat} (h : RowsD w B RG rows) (hX : ∀ g, X = some g → w.heap.size ≤ g) : Apart w RG X := by
 obtain ⟨cs, h1, h2, h3, h4, h5⟩ := h
 refine ⟨cs, h1, fun j c g hc hg e => ?_⟩
 have hr := List.getElem?_eq_getElem (l := rows) (i := j) (by have := (List.getElem?_eq_some_iff.1 hc).1; omega)
 have := ((h4 j _ c hr hc).lt g hg).2
 have := hX g e
 omega
theorem wp_app_txt {ops : Array Oper} {rest : List Oper} {o : Oper} {a : Act} {Q : Exit → Act → World → Prop} {w0 : World} (hgd : o.guard = none) (s x : Operand)
  (ho : o.op = .call { callee := .builtin .append, args := #[s, x], argTypes := #[39, 39] }) (B : Nat) (kv : Value) (q : Nat) (xs : List Vp.Txt) (hs : a.eval s = kv) (hown : w0.ownsRow B 9 1 kv q (xs.map tv))
  (t : Vp.Txt) (hx : a.eval x = .slice (some ⟨w0.heap.size, 0, none⟩) 1 1) (hq : q ≤ 65536) (hB : B ≤ w0.heap.size)
  (h : ∀ va vc w', w'.ownsRow B 9 1 (.slice va (q + 1) vc) (q + 1) (xs.map tv ++ [t].map tv) → Below B (w0.alloc (.cells #[tv t] 9)) w' → (w0.alloc (.cells #[tv t] 9)).grownBy w' kv.ownBlock →
   ((Value.slice va (q + 1) vc).ownBlock = kv.ownBlock ∨ (Value.slice va (q + 1) vc).ownBlock = some (w0.alloc (.cells #[tv t] 9)).heap.size) → wpList Tryz.prog ops Q rest (a.put o.dst (.slice va (q + 1) vc)) w') :
  wpList Tryz.prog ops Q (o :: rest) a (w0.alloc (.cells #[tv t] 9)) := by
 refine wp_appSA hgd s x 39 9 ho B 1 16 (.string ⟨#[]⟩) Tryz.underlying39 info_string rfl (by decide) kv q (xs.map tv) hs (hown.alloc _) (some ⟨w0.heap.size, 0, none⟩) 1 1 ([t].map tv) hx rfl (fun _ => ⟨_, rfl, fun j u hj => ?_⟩) (tvs_one [t]) (by omega) (by omega) (by simp; omega) ?_
 ·rw [add_zero_]
  exact (Row.new w0 9 #[tv t]).cell (i := j) hj
 ·intro v9 w9 ho9 hb9 hg9 hl9
  obtain ⟨va9, vc9, rfl⟩ := own_sliceN ho9
  exact h va9 vc9 w9 ho9 hb9 hg9 hl9
/-- Behind an append to one of the rows, and its store. -/
theorem cols_app {W w7 w9 : World} {O RG j B0 B1 nk np cc : Nat} {vv kvv : Value} {n : Int} {v e d : Vp.Txt} {k v9 pv : Value} {rows : List (List Vp.Txt)} {row : List Vp.Txt} {t : Vp.Txt} {xs ys : List Value} {o : Obj} {a : Option Addr}
  (S7 : RSt W w7 O vv n v e d k) (HR7 : RowsD w7 (RG + 1) RG rows) (hj : rows[j]? = some row) (hO : O < RG)
  (HO7 : w7.ownsRow B0 3 1 kvv nk xs) (HP7 : w7.ownsRow B1 9 1 pv np ys) (HA7 : Apart w7 RG pv.ownBlock)
  (hc : w7.cell? ⟨RG, j, none⟩ = some (.slice a row.length cc))
  (ho9 : w9.ownsRow (RG + 1) 9 1 v9 (row.length + 1) (row.map tv ++ [t].map tv)) (hb9 : Below (RG + 1) (w7.alloc o) w9) (hg9 : (w7.alloc o).grownBy w9 (Value.slice a row.length cc).ownBlock) (hl9 : v9.ownBlock = (Value.slice a row.length cc).ownBlock ∨ v9.ownBlock = some (w7.alloc o).heap.size) :
  w9.cell? ⟨RG, j, none⟩ = some (.slice a row.length cc) ∧ w9.frozen? ⟨RG, j, none⟩ = false ∧ RSt W (w9.setCell ⟨RG, j, none⟩ v9) O vv n v e d k ∧ RowsD (w9.setCell ⟨RG, j, none⟩ v9) (RG + 1) RG (rows.set j (row ++ [t])) ∧
   (w9.setCell ⟨RG, j, none⟩ v9).ownsRow B0 3 1 kvv nk xs ∧ (w9.setCell ⟨RG, j, none⟩ v9).ownsRow B1 9 1 pv np ys ∧ Apart (w9.setCell ⟨RG, j, none⟩ v9) RG pv.ownBlock := by
 obtain ⟨a', c', hc', hf', hvo, hvn⟩ := HR7.at hj
 have he := hc.symm.trans hc'
 obtain ⟨rfl, _, rfl⟩ := Value.slice.inj (Option.some.inj he)
 have hba : Below w7.heap.size w7 (w7.alloc o) := (Below.refl _ _).alloc (Nat.le_refl _) o
 have hRG := HR7.lt
 have HB9 : Below (RG + 1) w7 w9 := (hba.mono (by omega)).trans hb9
 obtain ⟨cs9, h9, hap⟩ := HA7
 have hva := fun (g : Nat) (hg : (Value.slice a row.length cc).ownBlock = some g) => Apart.at ⟨cs9, h9, hap⟩ hc hg
 have h9' := (HB9.block RG (Nat.lt_succ_self _)).trans h9
 have hsz : (w7.alloc o).heap.size = w7.heap.size + 1 := by simp
 refine ⟨(HB9.cell (p := ⟨RG, j, none⟩) (Nat.lt_succ_self _)).trans hc, (World.frozen?_of_block (a := ⟨RG, j, none⟩) (HB9.block RG (Nat.lt_succ_self _))).trans hf', (S7.own HB9 (by omega)).put _ _ _ hO, hvn _ _ _ [t] hba ho9 hg9 hl9, ?_, ?_, ?_⟩
 ·exact (KeepT.set (e' := 39) h9' (by decide)).own (own_far2 (HO7.alloc _) (hvo.alloc _) hg9 (by decide))
 ·refine (KeepT.set (e' := 39) h9' (by decide)).own (own_same (w := w7.alloc o) (HP7.alloc o) fun g hg hcur => ?_)
  obtain ⟨cur, hcur⟩ := hcur
  exact hg9.block g (Array.getElem?_eq_some_iff.1 hcur).1 (fun e => hva g e.symm hg)
 ·refine (Apart.block ⟨cs9, h9, hap⟩ (HB9.block RG (Nat.lt_succ_self _))).set fun g hg => ?_
  rcases hl9 with e | e
  ·exact hva g (e.symm.trans hg)
  ·intro h
   have h1 := (HP7.lt g h).2
   have h2 : _ = g := Option.some.inj (e.symm.trans hg)
   omega
theorem struct_row {ns : List Tp.Nd} (hm : Tp.may ns = true) {i : Nat} (hi : i < ns.length) {x : Vp.Txt} (hk : Tp.kindOf ns i = 4) (h : Vp.Fit ns i x) :
  (Vp.parts x = (-1, [], 0) ∧ Vp.partOr ((Tp.kids ns i).map (Vp.zero ns)) x = (Tp.kids ns i).map (Vp.zero ns)) ∨ ((Vp.parts x).1 = 4 ∧ (Vp.parts x).2.1 = Vp.partOr ((Tp.kids ns i).map (Vp.zero ns)) x ∧ (Vp.parts x).2.1.length = (Tp.kids ns i).length) := by
 rcases (Vp.fit_parts h).2 with ⟨rfl, hp⟩ | ⟨hx, hp, _⟩
 ·exact .inl ⟨hp, Vp.partOr_nul _⟩
 ·have hl := (Vp.row_struct hm hi hk h).1
  rw [Vp.partOr_there _ hx] at hl ⊢
  exact .inr ⟨hp.trans hk, rfl, hl⟩
set_option maxRecDepth 100000 in
set_option maxHeartbeats 12800000 in
theorem refBuild_struct (ns : List Tp.Nd) (i : Nat) (vs : List Vp.Txt) (v vv : Value) (W : World) (ht : TextsAt W v vs) (hnd : NodesAt W vv ns) (hm : Tp.may ns = true) (hi : i < ns.length) (hl : vs.length ≤ 64) (hf : ∀ x ∈ vs, Vp.Fit ns i x) (hk : Tp.kindOf ns i = 4) (n : Nat) (ih : RefBuildOK ns n) (hin : ns.length - i ≤ n + 1) :
  Calls Tryz.prog 44 #[typeV vv, .int .i64 (i : Int), v] W (RefBuildQ ns i vs W) := by
 have hbi : ¬ ((64 : Int) < (vs.length : Int)) := by omega
 have hdec : decide ((64 : Int) < (vs.length : Int)) = false := decide_eq_false hbi
 have HBE0 := Lib.hid (Vp.build_eq ns hm i hi vs)
 rw [if_neg (show ¬ 64 < vs.length by omega), if_neg (show ¬ Tp.kindOf ns i = 0 by omega), if_neg (show ¬ Tp.kindOf ns i = 1 by omega), if_neg (show ¬ Tp.kindOf ns i = 2 by omega), if_neg (show ¬ Tp.kindOf ns i = 3 by omega)] at HBE0
 have HF := Lib.hid hf
 have HKC := Lib.hid (fun w (h : NodesAt w vv ns) => refKids_calls vv ns (i : Int) w h ((Vp.node_of ns i).2 ⟨hm, hi⟩))
 obtain ⟨ks, hks⟩ : ∃ ks, Tp.kids ns (i : Int) = ks := ⟨_, rfl⟩
 have HKLT := Lib.hid (show ∀ j, j < ks.length → i < ks.getD j 0 ∧ ks.getD j 0 < ns.length from fun j hj => by rw [← hks] at hj ⊢; exact Vp.kid_lt hm hj)
 have HKF0 := Lib.hid (show ∀ j, j < ks.length → ∀ p ∈ Vp.col (Vp.pts (ks.map (Vp.zero ns)) vs) j, Vp.Fit ns (ks.getD j 0) p from fun j hj p hp => by
  rw [← hks] at hj hp ⊢
  unfold Vp.col at hp
  obtain ⟨row, hrow, rfl⟩ := List.mem_map.1 hp
  obtain ⟨x, hx, rfl⟩ := List.mem_map.1 hrow
  exact (Vp.row_struct hm hi hk (hf x hx)).2.1 j hj)
 have hksl : ks.length ≤ 8 := by
  have h1 := Vp.kids_many hm i
  have h2 := (Vp.may_len ns hm).2
  rw [hks] at h1
  omega
 have HROW := Lib.hid (show ∀ x ∈ vs, (Vp.parts x = (-1, [], 0) ∧ Vp.partOr (ks.map (Vp.zero ns)) x = ks.map (Vp.zero ns)) ∨ ((Vp.parts x).1 = 4 ∧ (Vp.parts x).2.1 = Vp.partOr (ks.map (Vp.zero ns)) x ∧ (Vp.parts x).2.1.length = ks.length) from fun x hx => by
  rw [← hks]
  exact struct_row hm hi hk (hf x hx))
 have HZ := Lib.hid (fun (k : Nat) (hk : k < ns.length) w (h : NodesAt w vv ns) => refZero_calls ns hm k hk vv w h)
 rw [hks] at HKC HBE0
 have HIH := Lib.hid ih
 obtain ⟨R, hR⟩ : ∃ R, Vp.pts (ks.map (Vp.zero ns)) vs = R := ⟨_, rfl⟩
 have HRLEN := Lib.hid (show R.length = vs.length by rw [← hR]; simp [Vp.pts])
 have HRAT := Lib.hid (show ∀ q, (h : q < vs.length) → (h' : q < R.length) → R[q] = Vp.partOr (ks.map (Vp.zero ns)) vs[q] from fun q h h' => by
  subst hR
  simp [Vp.pts])
 rw [hR] at HKF0 HBE0
 clear hR
 have hb1 : Below W.heap.size W ((W.alloc (.cells #[vv] 24)).alloc (.cells (arrC 0 0 0 [] [] [] (.slice none 0 0)) 27)) := below_alloc (below_alloc (Below.refl _ _) _) _
 have HV := Lib.hid (refValid_calls v vs _ (ht.below hb1) (by omega))
 have HND := Lib.hid hnd
 have HK := Lib.hid hk
 obtain ⟨bk, o, nc, rfl, hc1, hc2, hbk, g0, _⟩ := nodes_open hnd hi
 rw [hk] at g0
 obtain ⟨a, c, rfl, hc, hmx, h3⟩ := ht
 unfold maxLen at hc2 hmx
 have hii : (i : Int) < (ns.length : Int) := by omega
 replace h3 := Lib.hid h3
 clear hnd hks hf hk ih
 have hmk := make_rowsN ks.length (by omega)
 go_enter Tryz.func44, Tryz.ntmps44
 go_wp2_with (fail)
 refine HV.out.mono ?_
 rintro e w1 ⟨rfl, hb2⟩
 have S0 := Lib.hid (RSt.begin (vs.length : Int) (Vp.valid vs) hb2)
 have c4 := cell_of_one S0.out.box
 clear hb2 hb1
 go_wp2_with (fail)
 refine (HKC.out _ (HND.out.below S0.out.bel)).mono ?_
 rintro e w2 ⟨rk, rfl, hko, hb3⟩
 have S2 := Lib.hid (S0.out.below hb3)
 obtain ⟨ka, kc, rfl⟩ := own_slice hko
 have HKO := Lib.hid hko
 clear hko hb3 c4
 go_wp2
 have S3 := Lib.hid (S2.out.below (below_alloc (Below.refl _ _) (.cells (madeCells #[Value.slice none 0 0] ks.length) 39)))
 have HR3 := Lib.hid (RowsD.make (w := w2) ks.length rfl)
 have HK3 := Lib.hid (own_below HKO.out (below_alloc (Below.refl w2.heap.size w2) (.cells (madeCells #[Value.slice none 0 0] ks.length) 39)))
 have hw12 : w1.heap.size < w2.heap.size := S2.out.lt
 obtain ⟨B0, hB0⟩ : ∃ B0, (w1.alloc (.cells (arrC 0 0 vs.length (Vp.valid vs) [] [] (.slice none 0 0)) 27)).heap.size = B0 := ⟨_, rfl⟩
 rw [hB0] at HK3
 clear HKO hB0
 go_loopw [13] (fun ix wr => ∃ q : Nat, q ≤ vs.length ∧ ix = .int .i64 (q : Int) ∧ RSt W wr w1.heap.size (.slice (some ⟨bk, o, none⟩) ns.length nc) vs.length (Vp.valid vs) [] [] (.slice none 0 0) ∧ RowsD wr (w2.heap.size + 1) w2.heap.size ((List.range ks.length).map fun k => Vp.col (R.take q) k) ∧ wr.ownsRow B0 3 1 (.slice ka ks.length kc) ks.length (natv ks)) (fun ix _ => vs.length - (intOf ix).toNat)
 case atStart => exact ⟨0, Nat.zero_le _, rfl, S3.out, by
  have h := HR3.out
  have e : ((List.range ks.length).map fun k => Vp.col (R.take 0) k) = List.replicate ks.length [] := by
   rw [List.eq_replicate_iff]
   refine ⟨by simp, fun b hb => ?_⟩
   obtain ⟨k, _, rfl⟩ := List.mem_map.1 hb
   rfl
  rw [e]; exact h, HK3.out⟩
 case round =>
  obtain ⟨q, hq, rfl, hS, hR, hO⟩ := hrel
  rename World => wo
  have S := Lib.hid hS
  have HR := Lib.hid hR
  have HOK := Lib.hid hO
  clear hS hR hO
  have c4 := cell_of_one S.out.box
  have hg0 := (S.out.bel.cell (p := ⟨bk, o + i * 3, none⟩) hbk).trans g0
  by_cases hlt : q < vs.length
  ·obtain ⟨bt, ot, rfl, hbt, hcell⟩ := h3.out (by intro e; rw [e] at hlt; exact Nat.not_lt_zero _ hlt)
   have c0 := (S.out.bel.cell (p := ⟨bt, ot + q, none⟩) hbt).trans (hcell q _ (List.getElem?_eq_getElem hlt))
   have hqi : (q : Int) < (vs.length : Int) := by omega
   have hlen := Vp.fit_len (HF.out _ (List.getElem_mem hlt))
   have hrow := HROW.out _ (List.getElem_mem hlt)
   have hqR : q < R.length := by rw [HRLEN.out]; exact hlt
   have HRQ := Lib.hid (HRAT.out q hlt hqR)
   have HST := Lib.hid (fun j (hj : j < ks.length) => colsTo_step R ks.length q j hj hqR)
   clear hcell
   generalize vs[q] = x at c0 hlen hrow HRQ
   generalize R[q] = row at HRQ HST
   rw [← HRQ.out] at hrow
   have HP := Lib.hid (fun W' => refParts_calls x W' (by omega))
   generalize (Vp.parts x) = px at HP hrow
   obtain ⟨kx, ps, er⟩ := px
   have HROWX := Lib.hid (show (kx = -1 ∧ row = ks.map (Vp.zero ns)) ∨ (kx = 4 ∧ ps = row ∧ ps.length = ks.length) from by
    rcases hrow with ⟨h1, h2⟩ | h
    ·exact .inl ⟨congrArg Prod.fst h1, h2⟩
    ·exact .inr h)
   simp only at HP
   clear hrow hqR
   go_wp2_with (fail)
   refine (HP.out _).mono ?_; rintro e' w5 ⟨r5, rfl, hpo, hb5⟩
   have S5 := Lib.hid (S.out.below hb5)
   have HPO := Lib.hid hpo
   have c4' := cell_of_one S5.out.box
   have hg0' := (S5.out.bel.cell (p := ⟨bk, o + i * 3, none⟩) hbk).trans g0
   have HR5 := Lib.hid (HR.out.below hb5)
   have HO5 := Lib.hid (own_below HOK.out hb5)
   obtain ⟨ra, rc, rfl⟩ := own_slice hpo
   have HAP := Lib.hid ((Apart.start HR.out (X := (Value.slice ra ps.length rc).ownBlock) (fun g hg => (hpo.lt g hg).1)).block (hb5.block _ HR.out.lt))
   clear c4 hg0 c0 hpo hb5
   go_wp2
   go_loopw [18] (fun jx w6 => ∃ j : Nat, j ≤ ks.length ∧ jx = .int .i64 (j : Int) ∧ RSt W w6 w1.heap.size (.slice (some ⟨bk, o, none⟩) ns.length nc) vs.length (Vp.valid vs) [] [] (.slice none 0 0) ∧ RowsD w6 (w2.heap.size + 1) w2.heap.size (colsTo R ks.length q j) ∧ w6.ownsRow B0 3 1 (.slice ka ks.length kc) ks.length (natv ks) ∧ w6.ownsRow wo.heap.size 9 1 (.slice ra ps.length rc) ps.length (ps.map tv) ∧ Apart w6 w2.heap.size (Value.slice ra ps.length rc).ownBlock) (fun jx _ => ks.length - (intOf jx).toNat)
   case atStart => exact ⟨0, Nat.zero_le _, rfl, S5.out, by rw [colsTo_zero]; exact HR5.out, HO5.out, HPO.out, HAP.out⟩
   case round =>
    obtain ⟨j, hj, rfl, hS6, hR6, hO6, hP6, hA6⟩ := hrel
    rename World => w6
    have HA6 := Lib.hid hA6
    have S6 := Lib.hid hS6
    have HO6 := Lib.hid hO6
    have HP6 := Lib.hid hP6
    have HR6 := Lib.hid hR6
    clear hS6 hO6 hP6 hR6 hA6 c4' hg0'
    by_cases hlj : j < ks.length
    ·have hji : (j : Int) < (ks.length : Int) := by omega
     obtain ⟨gk, capk, hrk, hck, hgk⟩ := nat_row HO6.out hlj
     obtain ⟨rfl, _, rfl⟩ := Value.slice.inj hrk
     have hkl := (HKLT.out j hlj).2
     have hkd : ks.getD j 0 = ks[j] := by rw [List.getD_eq_getElem?_getD, List.getElem?_eq_getElem hlj]; rfl
     have HZV := Lib.hid (show (ks.map (Vp.zero ns)).getD j [] = Vp.zero ns ks[j] by rw [List.getD_eq_getElem?_getD, List.getElem?_map, List.getElem?_eq_getElem hlj]; rfl)
     rw [hkd] at hkl
     generalize ks[j] = kd at hck hkl HZV
     clear hrk hkd
     have c4 := cell_of_one S6.out.box
     have HZC := Lib.hid (fun w' (h : Below w6.heap.size w6 w') => HZ.out kd hkl w' ((HND.out.below S6.out.bel).below h))
     have hw2lt : w2.heap.size + 1 ≤ w6.heap.size := by have := HR6.out.lt; omega
     go_upto_region 15 with (fail)
     go_cut [19] (fun s19 wx => s19 = tv (Vp.zero ns kd) ∧ Below w6.heap.size w6 wx)
     case first =>
      go_region_with (go_at_call 75; refine (HZC.out _ (by first | exact Below.refl _ _ | exact below_drew (Below.refl _ _))).mono ?_; rintro e7 w7 ⟨rfl, hb7⟩; have hB7 : Below w6.heap.size w6 w7 := (by first | exact hb7 | exact below_drew_then hb7))
      all_goals
       go_wp2_with fail
       go_meet
       exact ⟨rfl, by first | exact hB7 | exact below_drew hB7⟩
     case rest =>
      obtain ⟨rfl, hB7⟩ := hcut
      rename World => w7
      have S7 := Lib.hid (S6.out.below hB7)
      have HR7 := Lib.hid (HR6.out.below hB7)
      have HO7 := Lib.hid (own_below HO6.out hB7)
      have HP7 := Lib.hid (own_below HP6.out hB7)
      have HA7 := Lib.hid (HA6.out.block (hB7.block _ (by omega)))
      have hs7 := hB7.size
      clear c4 hck hB7 S6 HR6 HO6 HP6 HA6 HZC
      have hrx := HROWX.out
      rcases hrx with ⟨rfl, hrow⟩ | ⟨rfl, hrow, hpl⟩
      ·have HV := Lib.hid (show row.getD j [] = Vp.zero ns kd by rw [hrow]; exact HZV.out)
       clear hrow

       obtain ⟨va, vc, hv0, hvf, hvo, hvn⟩ := HR7.out.at (colsTo_at R ks.length q j hlj)
       have HVO := Lib.hid hvo
       have HRG := Lib.hid HR7.out.lt
       have HC0 := Lib.hid hv0
       have HCL := Lib.hid (show (Vp.col (R.take q) j).length ≤ 64 by unfold Vp.col; rw [List.length_map, List.length_take]; omega)
       have HHO := Lib.hid hw12
       clear hvo hvn
       go_wp2_with (at_builtin; refine wp_app_txt rfl _ _ rfl (w2.heap.size + 1) (.slice va (Vp.col (R.take q) j).length vc) (Vp.col (R.take q) j).length (Vp.col (R.take q) j) rfl HVO.out (Vp.zero ns kd) rfl (by have := HCL.out; omega) HRG.out ?_; intro va9 vc9 w9 ho9 hb9 hg9 hl9; obtain ⟨hc9, hf9, hnext⟩ := cols_app S7.out HR7.out (colsTo_at R ks.length q j hlj) HHO.out HO7.out HP7.out HA7.out HC0.out ho9 hb9 hg9 hl9; have HNX := Lib.hid hnext; clear hnext ho9 hb9 hg9 hl9)
       obtain ⟨n1, n2, n3, n4, n5⟩ := HNX.out
       have hst := HST.out j hlj
       rw [HV.out] at hst
       rw [hst] at n2
       exact ⟨⟨j + 1, by omega, by go_num, n1, n2, n3, n4, n5⟩, by simp [intOf]; omega⟩
      ·have HV := Lib.hid (show row.getD j [] = ps.getD j [] by rw [hrow])
       obtain ⟨gp, capp, hpv, _, _, _, hprow⟩ := own_row HP7.out (by omega)
       obtain ⟨rfl, _, rfl⟩ := Value.slice.inj hpv
       have hpc := hprow.cell (i := j) (v := tv (ps.getD j [])) (by rw [List.getElem?_map, List.getElem?_eq_getElem (by omega), List.getD_eq_getElem?_getD, List.getElem?_eq_getElem (by omega)]; rfl)
       have hpji : (j : Int) < (ps.length : Int) := by omega
       clear hrow hpv hprow hpl
       generalize ps.getD j [] = pv at HV hpc

       obtain ⟨va, vc, hv0, hvf, hvo, hvn⟩ := HR7.out.at (colsTo_at R ks.length q j hlj)
       have HVO := Lib.hid hvo
       have HRG := Lib.hid HR7.out.lt
       have HC0 := Lib.hid hv0
       have HCL := Lib.hid (show (Vp.col (R.take q) j).length ≤ 64 by unfold Vp.col; rw [List.length_map, List.length_take]; omega)
       have HHO := Lib.hid hw12
       clear hvo hvn
       go_wp2_with (at_builtin; refine wp_app_txt rfl _ _ rfl (w2.heap.size + 1) (.slice va (Vp.col (R.take q) j).length vc) (Vp.col (R.take q) j).length (Vp.col (R.take q) j) rfl HVO.out (pv) rfl (by have := HCL.out; omega) HRG.out ?_; intro va9 vc9 w9 ho9 hb9 hg9 hl9; obtain ⟨hc9, hf9, hnext⟩ := cols_app S7.out HR7.out (colsTo_at R ks.length q j hlj) HHO.out HO7.out HP7.out HA7.out HC0.out ho9 hb9 hg9 hl9; have HNX := Lib.hid hnext; clear hnext ho9 hb9 hg9 hl9)
       obtain ⟨n1, n2, n3, n4, n5⟩ := HNX.out
       have hst := HST.out j hlj
       rw [HV.out] at hst
       rw [hst] at n2
       exact ⟨⟨j + 1, by omega, by go_num, n1, n2, n3, n4, n5⟩, by simp [intOf]; omega⟩
    ·obtain rfl : j = ks.length := by omega
     have hR7 := HR6.out
     rw [colsTo_all] at hR7
     go_wp2
     exact ⟨⟨q + 1, by omega, by go_num, S6.out, hR7, HO6.out⟩, by simp [intOf]; omega⟩
  ·obtain rfl : q = vs.length := by omega
   obtain ⟨E, hE⟩ : ∃ E : Vp.Txt, [] = E := ⟨_, rfl⟩
   obtain ⟨rows, hrows⟩ : ∃ rows, ((List.range ks.length).map fun k => Vp.col (R.take vs.length) k) = rows := ⟨_, rfl⟩
   rw [hrows] at HR
   rw [← HRLEN.out, List.take_length] at hrows
   have hcol : ∀ j, j < ks.length → rows.getD j [] = Vp.col R j := fun j hj => by
    rw [← hrows, List.getD_eq_getElem?_getD, List.getElem?_map, List.getElem?_range hj]; rfl
   have HBE := Lib.hid (show Vp.build ns i vs = (Vp.seqO ((List.range ks.length).map fun j => Vp.build ns (ks.getD j 0) (rows.getD j []))).map fun ys => .mk 0 0 vs.length (Vp.valid vs) E [] ys by
    rw [HBE0.out, ← hE]
    have e : ((List.range ks.length).map fun j => Vp.build ns (ks.getD j 0) (rows.getD j [])) = (List.range ks.length).map fun j => Vp.build ns (ks.getD j 0) (Vp.col R j) := List.map_congr_left fun j hj => by rw [hcol j (List.mem_range.1 hj)]
    rw [e])
   have HRK := Lib.hid (show rows.length = ks.length by rw [← hrows]; simp)
   have HRL := Lib.hid (show ∀ j, (rows.getD j []).length ≤ 140737488351232 from fun j => by
    by_cases hj : j < ks.length
    ·rw [hcol j hj]
     unfold Vp.col
     rw [List.length_map, HRLEN.out]; omega
    ·rw [List.getD_eq_getElem?_getD, List.getElem?_eq_none (by rw [HRK.out]; omega)]; exact Nat.zero_le _)
   have HKF := Lib.hid (show ∀ j, j < ks.length → ∀ p ∈ rows.getD j [], Vp.Fit ns (ks.getD j 0) p from fun j hj p hp => by
    rw [hcol j hj] at hp
    exact HKF0.out j hj p hp)
   have hel2 : E.length ≤ 260 := by rw [← hE]; simp
   have ST := Lib.hid (show RSt W wo w1.heap.size (.slice (some ⟨bk, o, none⟩) ns.length nc) vs.length (Vp.valid vs) E [] (.slice none 0 0) from by rw [← hE]; exact S.out)
   have HRT := HR
   have HOT := HOK
   clear hrows hcol hE HBE0 HKF0 HR HOK S
   go_upto_block 5 with (fail)
   go_cut [] (fun wx => wo = wx)
   case first =>
    go_wp2_with fail
    go_meet
    rfl
   case rest =>
    subst hcut
    clear c4 hg0
    go_wp2
    go_loopw [20] (fun ix w9 => ∃ (q : Nat) (kv : Value) (done : List Arr), q ≤ ks.length ∧ ix = .int .i64 (q : Int) ∧ done.length = q ∧ RSt W w9 w1.heap.size (.slice (some ⟨bk, o, none⟩) ns.length nc) vs.length (Vp.valid vs) E [] kv ∧ KidsOwn w9 (fun g => w1.heap.size < g) done kv ∧ RowsD w9 (w2.heap.size + 1) w2.heap.size rows ∧ w9.ownsRow B0 3 1 (.slice ka ks.length kc) ks.length (natv ks) ∧ Vp.seqO ((List.range q).map fun j => Vp.build ns (ks.getD j 0) (rows.getD j [])) = some done) (fun ix _ => ks.length - (intOf ix).toNat)
    case atStart => exact ⟨0, _, [], Nat.zero_le _, rfl, rfl, ST.out, KidsOwn.nil _ _, HRT.out, HOT.out, rfl⟩
    case round =>
     obtain ⟨q, kv, done, hq, rfl, hdl, hS, hK, hR, hO, hM⟩ := hrel
     rename World => wo
     have S := Lib.hid hS
     have HK := Lib.hid hK
     have HRr := Lib.hid hR
     have HOr := Lib.hid hO
     have HM := Lib.hid hM
     have HDL := Lib.hid hdl
     clear hS hK hR hO hM hdl
     by_cases hlt : q < ks.length
     ·obtain ⟨gk, capk, hrk, hck, hgk⟩ := nat_row HOr.out hlt
      obtain ⟨rfl, _, rfl⟩ := Value.slice.inj hrk
      have hqi : (q : Int) < (ks.length : Int) := by omega
      have HKD := Lib.hid (show ks.getD q 0 = ks[q] by rw [List.getD_eq_getElem?_getD, List.getElem?_eq_getElem hlt]; rfl)
      have hkl := HKLT.out q hlt
      have HKf := Lib.hid (HKF.out q hlt)
      have hrl := HRL.out q
      rw [HKD.out] at hkl HKf
      have hrq : q < rows.length := by rw [HRK.out]; exact hlt
      have HSQ := Lib.hid (show (Vp.seqO ((List.range (q + 1)).map fun j => Vp.build ns (ks.getD j 0) (rows.getD j []))) = (Vp.seqO ((List.range q).map fun j => Vp.build ns (ks.getD j 0) (rows.getD j []))).bind fun ys => (Vp.build ns ks[q] (rows.getD q [])).map fun a => ys ++ [a] by
       rw [List.range_succ, List.map_append, List.map_cons, List.map_nil, Vp.seqO_snoc, HKD.out])
      have HNO := Lib.hid (fun (hn : Vp.build ns ks[q] (rows.getD q []) = none) => show Vp.build ns i vs = none by
       rw [HBE.out]
       have h1 : Vp.seqO ((List.range ks.length).map fun j => Vp.build ns (ks.getD j 0) (rows.getD j [])) = none := by
        have he : ks.length = (q + 1) + (ks.length - (q + 1)) := by omega
        rw [he, List.range_add, List.map_append]
        exact Vp.seqO_none _ _ (by rw [HSQ.out, HM.out, hn]; rfl)
       rw [h1]; rfl)
      have hrd : rows.getD q [] = rows[q] := by rw [List.getD_eq_getElem?_getD, List.getElem?_eq_getElem hrq]; rfl
      obtain ⟨ra, rc, hrc, htx⟩ := HRr.out.text (List.getElem?_eq_getElem hrq)
      rw [hrd] at hrl HKf HSQ HNO
      generalize ks[q] = kd at hck hkl HKf HSQ HNO
      generalize rows[q] = row at hrl HKf HSQ HNO hrc htx
      have c4 := cell_of_one S.out.box
      have hRGlt := HRr.out.lt
      have hbx0 := (Array.getElem?_eq_some_iff.1 S.out.box).1
      have HBU := Lib.hid (fun W' (h : Below wo.heap.size wo W') => HIH.out kd row (.slice ra row.length rc) (.slice (some ⟨bk, o, none⟩) ns.length nc) W' hkl.2 (by omega) (htx.below h) ((HND.out.below S.out.bel).below h) hrl HKf.out)
      clear hrk HKD hrd hkl htx
      have HS := Lib.hid (show ∀ w', Below wo.heap.size wo w' → (fun w' => w'.cell? ⟨W.heap.size, 0, none⟩ = some (.slice (some ⟨bk, o, none⟩) ns.length nc) ∧ w'.cell? ⟨gk, q, none⟩ = some (.int .i64 (kd : Int)) ∧ w'.cell? ⟨w2.heap.size, q, none⟩ = some (.slice ra row.length rc) ∧ Below wo.heap.size wo w') w' from fun w' h => ⟨(h.cell (p := ⟨W.heap.size, 0, none⟩) hbx0).trans c4, (h.cell (p := ⟨gk, q, none⟩) hgk).trans hck, (h.cell (p := ⟨w2.heap.size, q, none⟩) hRGlt).trans hrc, h⟩)
      clear hck hrc
      go_upto_region 42 with (fail)
      go_cut [21, 22] (fun s21 s22 wx => KidR ns kd row wo s21 s22 wx)
      case first =>
       refine wp_region_held_drew (S := (fun w' => w'.cell? ⟨W.heap.size, 0, none⟩ = some (.slice (some ⟨bk, o, none⟩) ns.length nc) ∧ w'.cell? ⟨gk, q, none⟩ = some (.int .i64 (kd : Int)) ∧ w'.cell? ⟨w2.heap.size, q, none⟩ = some (.slice ra row.length rc) ∧ Below wo.heap.size wo w')) (by kernel_rfl) (HS.out _ (below_drew (Below.refl _ _))) (fun hHeld => ?_)
       refine tk 0 (v := ?_) rfl (fun _ _ _ h => h) (Or.inl ⟨by rfl, ?_⟩) (by assumption) ?_; rotate_left; focus (intro w hSw; (try dsimp only at hSw); go_simp; try with_reducible rfl)
       (try simp only [sx])
       refine tk 1 (v := ?_) rfl (fun _ _ _ h => h) (Or.inl ⟨by rfl, ?_⟩) (by assumption) ?_; rotate_left; focus (intro w hSw; (try dsimp only at hSw); go_simp; try with_reducible rfl)
       (try simp only [sx])
       refine tk 2 (v := ?_) rfl (fun _ _ _ h => h) (Or.inl ⟨by rfl, ?_⟩) (by assumption) ?_; rotate_left; focus (intro w hSw; (try dsimp only at hSw); go_simp; try with_reducible rfl)
       (try simp only [sx])
       refine tk 3 (v := ?_) rfl (fun _ _ _ h => h) (Or.inl ⟨by rfl, ?_⟩) (by assumption) ?_; rotate_left; focus (intro w hSw; (try dsimp only at hSw); go_simp; try with_reducible rfl)
       (try simp only [sx])
       refine tk 4 (v := ?_) rfl (fun _ _ _ h => h) (Or.inl ⟨by rfl, ?_⟩) (by assumption) ?_; rotate_left; focus (intro w hSw; (try dsimp only at hSw); go_simp; try with_reducible rfl)
       (try simp only [sx])
       refine tk 5 (v := ?_) rfl (fun _ _ _ h => h) (Or.inl ⟨by rfl, ?_⟩) (by assumption) ?_; rotate_left; focus (intro w hSw; (try dsimp only at hSw); go_simp; try with_reducible rfl)
       (try simp only [sx])
       refine tk 6 (v := ?_) rfl (fun _ _ _ h => h) (Or.inl ⟨by rfl, ?_⟩) (by assumption) ?_; rotate_left; focus (intro w hSw; (try dsimp only at hSw); go_simp; try with_reducible rfl)
       (try simp only [sx])
       refine tk 7 (v := ?_) rfl (fun _ _ _ h => h) (Or.inl ⟨by rfl, ?_⟩) (by assumption) ?_; rotate_left; focus (intro w hSw; (try dsimp only at hSw); go_simp; try with_reducible rfl)
       (try simp only [sx])
       refine tk 8 (v := ?_) rfl (fun _ _ _ h => h) (Or.inl ⟨by rfl, ?_⟩) (by assumption) ?_; rotate_left; focus (intro w hSw; (try dsimp only at hSw); go_simp; try with_reducible rfl)
       (try simp only [sx])
       refine wpAnyH_ready (rs := [9, 13]) (by kernel_rfl) (by simp) ?_
       refine AllReadyH.cons rfl (fun K hK => ?_) (AllReadyH.cons rfl (fun K hK => ?_) AllReadyH.nil)
       ·go_simp
        go_at_call 44; refine (HBU.out _ hHeld.2.2.2).mono ?_; rintro e6 w6 ⟨u6, b6, ar, rfl, hao, hm6, hb6⟩; obtain ⟨k6, ac, cc6, hk6, rfl, hko⟩ := hao.value; subst hk6; have HX4 := below_then hHeld.2.2.2 hb6
        clear hHeld
        refine hK.out _ _ (HS.out _ HX4) (fun hHeld => ?_)
        clear hK K
        (try simp only [sx])
        refine tk 10 (v := ?_) rfl (fun _ _ _ h => h) (Or.inl ⟨by rfl, ?_⟩) (by assumption) ?_; rotate_left; focus (intro w hSw; (try dsimp only at hSw); go_simp; try with_reducible rfl)
        (try simp only [sx])
        refine tk 11 (v := ?_) rfl (fun _ _ _ h => h) (Or.inl ⟨by rfl, ?_⟩) (by assumption) ?_; rotate_left; focus (intro w hSw; (try dsimp only at hSw); go_simp; try with_reducible rfl)
        (try simp only [sx])
        refine tk 12 (v := ?_) rfl (fun _ _ _ h => h) (Or.inl ⟨by rfl, ?_⟩) (by assumption) ?_; rotate_left; focus (intro w hSw; (try dsimp only at hSw); go_simp; try with_reducible rfl)
        (try simp only [sx])
        refine wpAnyH_ready (rs := [13]) (by kernel_rfl) (by simp) ?_
        refine AllReadyH.cons rfl (fun K hK => ?_) AllReadyH.nil
        go_simp
        clear hHeld
        refine hK.out _ _ (HS.out _ (below_alloc HX4 _)) (fun hHeld => ?_)
        clear hK K
        (try simp only [sx])
        refine wpAnyH_ready (rs := [14]) (by kernel_rfl) (by simp) ?_
        refine AllReadyH.cons rfl (fun K hK => ?_) AllReadyH.nil
        go_simp
        clear hHeld
        refine hK.out _ _ (HS.out _ (below_alloc HX4 _)) (fun hHeld => ?_)
        clear hK K
        (try simp only [sx])
        refine tk 15 (v := ?_) rfl (fun _ _ _ h => h) (Or.inl ⟨by rfl, ?_⟩) (by assumption) ?_; rotate_left; focus (intro w hSw; (try dsimp only at hSw); go_simp; try with_reducible rfl)
        (try simp only [sx])
        refine wpAnyH_done (by kernel_rfl) ?_ _
        go_wp2_with fail
        go_meet
        exact kidR_alloc _ (Nat.le_refl _) hko hm6 HX4
       ·go_simp
        clear hHeld
        refine hK.out _ _ (HS.out _ (below_alloc (below_drew (Below.refl _ _)) _)) (fun hHeld => ?_)
        clear hK K
        (try simp only [sx])
        refine wpAnyH_ready (rs := [9]) (by kernel_rfl) (by simp) ?_
        refine AllReadyH.cons rfl (fun K hK => ?_) AllReadyH.nil
        go_simp
        go_at_call 44; refine (HBU.out _ hHeld.2.2.2).mono ?_; rintro e6 w6 ⟨u6, b6, ar, rfl, hao, hm6, hb6⟩; obtain ⟨k6, ac, cc6, hk6, rfl, hko⟩ := hao.value; subst hk6; have HX4 := below_then hHeld.2.2.2 hb6
        have hblk : w6.heap[wo.heap.size]? = some (.cells #[.int .i64 0, .int .i64 0, .int .i64 0, .string ⟨#[]⟩, .string ⟨#[]⟩, .string ⟨#[]⟩, .slice none 0 0] 27) := (hb6.block _ (by show wo.heap.size < (wo.drew.alloc _).heap.size; simp)).trans (heap_alloc_new wo.drew _)
        obtain ⟨z0, z1, z2, z3, z4, z5, z6, y0, y1, y2, y3, y4, y5, y6⟩ := zero_cells hblk
        clear hHeld
        refine hK.out _ _ (HS.out _ HX4) (fun hHeld => ?_)
        clear hK K
        (try simp only [sx])
        refine tk 10 (v := ?_) rfl (fun _ _ _ h => h) (Or.inl ⟨by rfl, ?_⟩) (by assumption) ?_; rotate_left; focus (intro w hSw; (try dsimp only at hSw); go_simp; try with_reducible rfl)
        (try simp only [sx])
        refine tk 11 (v := ?_) rfl (fun _ _ _ h => h) (Or.inl ⟨by rfl, ?_⟩) (by assumption) ?_; rotate_left; focus (intro w hSw; (try dsimp only at hSw); go_simp; try with_reducible rfl)
        (try simp only [sx])
        refine tk 12 (v := ?_) rfl (fun _ _ _ h => h) (Or.inl ⟨by rfl, ?_⟩) (by assumption) ?_; rotate_left; focus (intro w hSw; (try dsimp only at hSw); go_simp; try with_reducible rfl)
        (try simp only [sx])
        refine wpAnyH_ready (rs := [14]) (by kernel_rfl) (by simp) ?_
        refine AllReadyH.cons rfl (fun K hK => ?_) AllReadyH.nil
        go_simp
        clear hHeld
        refine hK.out _ _ (HS.out _ (below_set7 HX4 (Nat.le_refl _) _ _ _ _ _ _ _)) (fun hHeld => ?_)
        clear hK K
        (try simp only [sx])
        refine tk 15 (v := ?_) rfl (fun _ _ _ h => h) (Or.inl ⟨by rfl, ?_⟩) (by assumption) ?_; rotate_left; focus (intro w hSw; (try dsimp only at hSw); go_simp; try with_reducible rfl)
        (try simp only [sx])
        refine wpAnyH_done (by kernel_rfl) ?_ _
        go_wp2_with fail
        go_meet
        exact kidR_set _ (Nat.le_refl _) _ (by show wo.heap.size < (wo.drew.alloc _).heap.size; simp) hko hm6 HX4 hblk
      case rest =>
       obtain ⟨c6, b6, ar, k6, rfl, rfl, hc6, hR6, hko6, hm6, hbx⟩ := hcut
       have SX := Lib.hid (S.out.below hbx)
       have HKX := Lib.hid (KidsOwn.same done _ kv (fun g _ hc => KeepT.below hbx (e := 27) g hc) HK.out)
       have HRX := Lib.hid (HRr.out.below hbx)
       have HOX := Lib.hid (own_below HOr.out hbx)
       have HKO6 := Lib.hid hko6
       obtain ⟨va, vc, hkv⟩ := HK.out.slice
       rw [HDL.out] at hkv
       subst hkv
       obtain ⟨ac, cc6, hk6⟩ := hko6.slice
       subst hk6
       have hwx := hbx.size
       obtain ⟨t0, t1, t2, t3, t4, t5, t6, _⟩ := zero_cells hR6
       obtain ⟨r0, r1, r2, r3, r4, r5, r6, p0, p1, p2, p3, p4, p5, p6⟩ := zero_cells SX.out.res
       obtain ⟨o0, o1, o2, o3, o4, o5, o6, y0, y1, y2, y3, y4, y5, y6⟩ := zero_cells SX.out.out
       have hc6lt := (Array.getElem?_eq_some_iff.1 hR6).1
       clear hko6 HS
       cases b6 with
       | false =>
        have hbn : Vp.build ns kd row = none := by
         cases hb : Vp.build ns kd row with
         | none => rfl
         | some x => rw [hb] at hm6; exact absurd hm6.1 (by decide)
        have hno := HNO.out hbn
        go_wp2
        (try simp only [Exit.inBlock, Exit.then])
        refine bodyPost_ret (results_cell2_row rfl _ _ (W.heap.size + 1) 27 (arrC 0 0 vs.length (Vp.valid vs) E [] (.slice va q vc)) (0, 0) _ rfl SX.out.resAt Tryz.underlying27 rfl info_array_size) rfl ?_
        exact SX.out.done HKX.out (by rw [hno])
       | true =>
        have hby : Vp.build ns kd row = some ar := by
         cases hb : Vp.build ns kd row with
         | none => rw [hb] at hm6; exact Bool.noConfusion (show true = false from hm6)
         | some x => rw [hb] at hm6; rw [hm6.2]
        have HM2 := Lib.hid (show Vp.seqO ((List.range (q + 1)).map fun j => Vp.build ns (ks.getD j 0) (rows.getD j [])) = some (done ++ [ar]) by rw [HSQ.out, HM.out, hby]; rfl)
        obtain ⟨cs, hKC, hKA, hKB⟩ := HKX.out.parts
        rw [HDL.out] at hKC
        have HKC := Lib.hid hKC
        have HKA := Lib.hid hKA
        have HKB := Lib.hid hKB
        clear hKC hKA hKB hm6 hby r0 r1 r2 r3 r4 r5 r6 p0 p1 p2 p3 p4 p5 p6
        have HBA : Below wc.heap.size wc (wc.alloc (.cells (arrC ar.lay ar.off ar.len ar.valid ar.ends ar.data (.slice ac ar.kids.length cc6)) 27)) := (Below.refl _ _).alloc (Nat.le_refl _) _
        have HBA2 := Lib.hid HBA
        have HOX2 := Lib.hid ((Array.getElem?_eq_some_iff.1 SX.out.out).1)
        have hq8 : q ≤ 8 := by omega
        go_wp2_with (at_builtin; refine wp_app_arr rfl _ _ rfl (.slice va q vc) q cs rfl HKC.out ar.lay ar.off ar.len ar.valid ar.ends ar.data ac ar.kids.length cc6 rfl (by omega) ?_; intro va9 vc9 w9 ho9 hg9 hl9; obtain ⟨hS9, o69, y69⟩ := SX.out.app hg9 (fun g e => HKA.out g e); have S9 := Lib.hid hS9; have HO9 := Lib.hid ho9; have HG9 := Lib.hid hg9; have HL9 := Lib.hid hl9; clear hS9 ho9 hg9 hl9 o0 o1 o2 o3 o4 o5 o6 y0 y1 y2 y3 y4 y5 y6)
        have S10 := Lib.hid (S9.out.set 6 (.slice va9 (q + 1) vc9) E [] (.slice va9 (q + 1) vc9) rfl)
        have hkeep : ∀ e : TypeId, e ≠ 27 → KeepT e wc (w9.setCell ⟨w1.heap.size, 6, none⟩ (.slice va9 (q + 1) vc9)) := fun e he =>
         (KeepT.below HBA2.out).trans ((KeepT.row (HKC.out.alloc _) HG9.out he).trans (KeepT.set S9.out.out he))
        have hkvlt : ∀ g, (Value.slice va q vc).ownBlock = some g → g < wo.heap.size := fun g e => by
         obtain ⟨cs5, h1, _⟩ := HK.out.parts
         exact (h1.lt g e).2
        have hKN : KidsOwn w9 (fun g => w1.heap.size < g) (done ++ [ar]) (.slice va9 (q + 1) vc9) := by
         have h1 : KidsOwn (wc.alloc (.cells (arrC ar.lay ar.off ar.len ar.valid ar.ends ar.data (.slice ac ar.kids.length cc6)) 27)) (fun g => w1.heap.size < g ∧ (Value.slice va q vc).ownBlock ≠ some g) ar.kids (.slice ac ar.kids.length cc6) :=
          KidsOwn.same _ _ _ (fun g _ hc => KeepT.below HBA2.out (e := 27) g hc) (KidsOwn.weak _ _ _ _ (fun g hg _ => ⟨by have := S.out.lt; have : wo.heap.size ≤ g := hg; omega, fun e => by have := hkvlt g e; have : wo.heap.size ≤ g := hg; omega⟩) HKO6.out)
         have h2 := KidsOwn.snoc (ks := done) (ys := ar.kids) (l := ar.lay) (f := ar.off) (n := ar.len) (v := ar.valid) (e := ar.ends) (d := ar.data) (A := fun g => w1.heap.size < g) (by rw [HDL.out]; exact HKC.out.alloc _) (CellsOwn.same _ _ _ (fun g _ hc => KeepT.below HBA2.out (e := 27) g hc) HKB.out) h1 (by rw [HDL.out]; exact HO9.out) HG9.out
          (by
           rcases HL9.out with h | h
           ·exact .inl h
           ·exact .inr ⟨_, h, Nat.le_refl _⟩)
          (fun g e => by
           rcases HL9.out with h | h
           ·exact HKA.out g (h.symm.trans e)
           ·have hsz : (wc.alloc (.cells (arrC ar.lay ar.off ar.len ar.valid ar.ends ar.data (.slice ac ar.kids.length cc6)) 27)).heap.size = wc.heap.size + 1 := by simp
            have h' : _ = g := Option.some.inj (h.symm.trans e)
            have := HOX2.out
            omega)
         have e : Arr.mk ar.lay ar.off ar.len ar.valid ar.ends ar.data ar.kids = ar := by obtain ⟨l, f, n, v, e, d, ks⟩ := ar; rfl
         rwa [e] at h2
        refine ⟨⟨q + 1, .slice va9 (q + 1) vc9, done ++ [ar], by omega, by go_num, by rw [List.length_append, HDL.out]; rfl, S10.out, ?_, HRX.out.keep (hkeep _ (by decide)) (hkeep _ (by decide)), (hkeep _ (by decide)).own HOX.out, HM2.out⟩, by simp [intOf]; omega⟩
        exact KidsOwn.same _ _ _ (fun g hg _ => Below.heap_setCell w9 ⟨w1.heap.size, 6, none⟩ _ g (by simp only; omega)) hKN
     ·obtain rfl : q = ks.length := by omega
      obtain ⟨va, vc, hkv⟩ := HK.out.slice
      rw [HDL.out] at hkv
      subst hkv
      obtain ⟨r0, r1, r2, r3, r4, r5, r6, p0, p1, p2, p3, p4, p5, p6⟩ := zero_cells S.out.res
      obtain ⟨o0, o1, o2, o3, o4, o5, o6, y0, y1, y2, y3, y4, y5, y6⟩ := zero_cells S.out.out
      have hEz := mk_size E
      simp only [tv] at o4 o5
      have hd4 : decide ((E.length : Int) ≤ 4096) = true := decide_eq_true (by omega)
      have hd5 : (E.length : Int) ≤ 4096 := by omega
      have hOR : ¬ w1.heap.size = W.heap.size + 1 := by have := S.out.olt; omega
      have hRO : ¬ W.heap.size + 1 = w1.heap.size := by have := S.out.olt; omega
      have HFIN := Lib.hid (show Vp.build ns i vs = some (.mk 0 0 vs.length (Vp.valid vs) E [] done) by rw [HBE.out, HM.out]; rfl)
      go_wp2
      go_region
      all_goals
       go_wp2
       (try simp only [Exit.inBlock, Exit.then])
       have hD := S.out.resAtD
       simp only [tv] at hD
       refine bodyPost_ret (results_cell2_row rfl _ _ (W.heap.size + 1) 27 _ (0, 0) _ rfl hD Tryz.underlying27 rfl info_array_size) rfl ?_
       exact S.out.fin HK.out (b := true) (by rw [HFIN.out]; exact ⟨rfl, rfl⟩) rfl rfl
end Go.Proofs.YtobhjlchpnpleaaGreatDoor
