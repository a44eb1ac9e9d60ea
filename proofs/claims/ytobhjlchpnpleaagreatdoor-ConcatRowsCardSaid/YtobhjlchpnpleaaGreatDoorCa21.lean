/- Package build: the builder's build at a struct, walked. -/
import Derived.Test.YtobhjlchpnpleaaGreatDoorCa20
import Derived.Deep.RegionLaw
namespace Go.Proofs.YtobhjlchpnpleaaGreatDoor
open Go.RowKit
set_option linter.unusedVariables false
set_option linter.unusedSimpArgs false

/-- The rows of one element type stay. -/
def KeepT (e : TypeId) (w w' : World) : Prop := ∀ g : Nat, (∃ cur, w.heap[g]? = some (Obj.cells cur e (0, 0))) → w'.heap[g]? = w.heap[g]?
theorem KeepT.own {w w' : World} {B n s : Nat} {e : TypeId} {v : Value} {xs : List Value} (h : w.ownsRow B e s v n xs) (hk : KeepT e w w') : w'.ownsRow B e s v n xs := own_same h fun g _ hc => hk g hc
theorem KeepT.rows {w w' : World} {B : Nat} {v : Value} {rows : List (List Vp.Txt)} (h : RowsOwn w B v rows) (h1 : KeepT 39 w w') (h2 : KeepT 9 w w') : RowsOwn w' B v rows := by
 obtain ⟨cs, q1, q2⟩ := h
 exact ⟨cs, h1.own q1, fun j row hj => by obtain ⟨c, q3, q4⟩ := q2 j row hj; exact ⟨c, q3, h2.own q4⟩⟩
theorem KeepT.below {e : TypeId} {w w' : World} (hb : Below w.heap.size w w') : KeepT e w w' := fun g hc => by
 obtain ⟨cur, hc⟩ := hc
 exact hb.block g (Array.getElem?_eq_some_iff.1 hc).1
theorem KeepT.trans {e : TypeId} {w w1 w2 : World} (h : KeepT e w w1) (k : KeepT e w1 w2) : KeepT e w w2 := fun g hc => by
 obtain ⟨cur, hc⟩ := hc
 have h1 := h g ⟨cur, hc⟩
 exact (k g ⟨cur, h1.trans hc⟩).trans h1
theorem KeepT.bld {e : TypeId} {w w' : World} {b : Nat} {vv : Value} {fl : Bool} (hb : BldAt w b vv fl) (hg : w.grownBy w' (some b)) (he : e ≠ 89) : KeepT e w w' := fun g hc => by
 obtain ⟨cur, hc⟩ := hc
 refine hg.block g (Array.getElem?_eq_some_iff.1 hc).1 fun h => he ?_
 have hb' : w.heap[b]? = _ := hb
 rw [Option.some.inj h, hb'] at hc
 simp only [Option.some.injEq, Obj.cells.injEq] at hc
 exact hc.2.1.symm
theorem KeepT.row {e e' : TypeId} {w w' : World} {B n s : Nat} {v : Value} {xs : List Value} (ho : w.ownsRow B e' s v n xs) (hg : w.grownBy w' v.ownBlock) (he : e ≠ e') : KeepT e w w' := fun g hc => by
 obtain ⟨cur, hc⟩ := hc
 refine hg.block g (Array.getElem?_eq_some_iff.1 hc).1 fun h => he ?_
 rcases ho.2 with ⟨rfl, _⟩ | ⟨g', cap, cur', rfl, _, hh, _⟩
 ·simp [Value.ownBlock] at h
 ·have : g = g' := by simpa [Value.ownBlock] using h
  subst this
  rw [hh] at hc
  simp only [Option.some.injEq, Obj.cells.injEq] at hc
  exact hc.2.1.symm
theorem KeepT.set {e e' : TypeId} {w : World} {O j : Nat} {x : Value} {cs : Array Value} (hO : w.heap[O]? = some (.cells cs e')) (he : e ≠ e') : KeepT e w (w.setCell ⟨O, j, none⟩ x) := fun g hc => by
 obtain ⟨cur, hc⟩ := hc
 refine Below.heap_setCell w ⟨O, j, none⟩ x g fun h => he ?_
 simp only at h
 subst h
 rw [hO] at hc
 simp only [Option.some.injEq, Obj.cells.injEq] at hc
 exact hc.2.1.symm
theorem BSt.far {W w w' : World} {b O : Nat} {vv : Value} {fl : Bool} {n : Int} {v e d : Vp.Txt} {k : Value} {row : Option Nat} (h : BSt W w b O vv fl n v e d k) (hg : w.grownBy w' row) (hr : ∀ g, row = some g → O < g) : BSt W w' b O vv fl n v e d k := by
 have ne : ∀ j, j ≤ O → some j ≠ row := fun j hj e => by have := hr j e.symm; omega
 have h1 := h.blt
 have h2 := h.olt
 have h3 := h.lt
 exact {
  grown := ⟨hg.os.trans h.grown.os, hg.tape.trans h.grown.tape, hg.output.trans h.grown.output, Nat.le_trans h.grown.size hg.size, fun j hj hb => (hg.block j (by omega) (ne j (by omega))).trans (h.grown.block j hj hb)⟩
  bld := (hg.block b (by omega) (ne b (by omega))).trans h.bld
  blt := h.blt
  res := (hg.block _ (by omega) (ne _ (by omega))).trans h.res
  out := (hg.block _ (by omega) (ne _ (by omega))).trans h.out
  olt := h.olt }
theorem info_arr : (Tryz.prog.info? 27).map (fun i => (i.zero, i.size, i.bytes)) = some (some (.agg #[.int .i64 0, .int .i64 0, .int .i64 0, .string ⟨#[]⟩, .string ⟨#[]⟩, .string ⟨#[]⟩, .slice none 0 0]), 7, 96) := by kernel_rfl
/-- 'append(v, u)' at a step of a region that draws its order: where the row lies. -/
theorem step_appK {P : Program} {w : World} {ops : Array Oper} {o : Oper} {a : Act} {K : Act → World → Prop} {Q : Exit → Act → World → Prop} {E : Prop} (hgd : o.guard = none) (s x : Operand) (t e : TypeId)
  (ho : o.op = .call { callee := .builtin .append, args := #[s, x], argTypes := #[t, t] })
  (base size bytes : Nat) (z : Value) (ht : P.underlying t = some (.slice e)) (hi : (P.info? e).map (fun i => (i.zero, i.size, i.bytes)) = some (some z, size, bytes)) (hz : z.cells.size = size) (hsz : 0 < size)
  (v : Value) (n : Nat) (xs us : List Value) (hul : us.length = size) (hu : ∀ u ∈ us, u.oneCell' = true) (hs : a.eval s = v) (nb : Nat) (hx : a.eval x = .slice (some ⟨nb, 0, none⟩) 1 1) (hnb : w.heap[nb]? = some (.cells us.toArray e))
  (hown : w.ownsRow base e size v n xs) (hn : (n + 1) * bytes ≤ 140737488355328) (hm : n < 140737488355328) (hb : base ≤ w.heap.size)
  (h : ∀ g cap w', w'.ownsRow base e size (.slice (some ⟨g, 0, none⟩) (n + 1) cap) (n + 1) (xs ++ us) → w.grownBy w' v.ownBlock → (v.ownBlock = some g ∨ g = w.heap.size) → K (a.put o.dst (.slice (some ⟨g, 0, none⟩) (n + 1) cap)) w') :
  if Region.wanted o (yielded ops a.tmps) = true then Oper.wp P o a w K Q else E := by
 obtain ⟨i0, hi, hz0, hz1, hz2⟩ := info_parts hi
 refine step_append_lies w hgd s x t ho base e i0 z size bytes ht hi hz0 hz1 hz2 hz hsz v n xs hs hown ⟨nb, 0, none⟩ 1 1 us hx (by rw [hul, Nat.one_mul]) ?_ hu (by decide) (by unfold maxLen; omega) hn hb w.heap.size rfl ?_
 ·intro j y hy
  exact World.news_of_block hnb j y (by simpa using hy)
 ·intro g cap w' ho' hg hl _
  exact h g cap w' ho' hg hl
/-- A call by its contract, at a step of a region that draws its order. -/
theorem step_call3 {P : Program} {w : World} {ops : Array Oper} {o : Oper} {a : Act} {K : Act → World → Prop} {Q : Exit → Act → World → Prop} {E : Prop} (hgd : o.guard = none) (f : FuncId) (s0 s1 s2 : Operand) (ats : Array TypeId)
  (ho : o.op = .call { callee := .value (.func f), args := #[s0, s1, s2], argTypes := ats }) (v0 v1 v2 : Value) (h0 : a.eval s0 = v0) (h1 : a.eval s1 = v1) (h2 : a.eval s2 = v2)
  (hent : ∀ xs W, (callFunc f xs).run P W = .ok (.enter f xs) W) {R : Ending → World → Prop} (hc : Calls P f #[v0, v1, v2] w R) (hR : ∀ e w', R e w' → ∃ v, e = .returned v ∧ K (a.put o.dst v) w') :
  if Region.wanted o (yielded ops a.tmps) = true then Oper.wp P o a w K Q else E := by
 have hw : Region.wanted o (yielded ops a.tmps) = true := by simp [Region.wanted, hgd]
 rw [if_pos hw]
 unfold Oper.wp
 have hrun : (execOp a.eval o).run P w = .ok (.enter f #[v0, v1, v2]) w := by
  simp [execOp, ho, resolve, Deferred.ofValue, invoke, Act.eval, hent] at h0 h1 h2 ⊢
  simp [h0, h1, h2]
 rw [hrun, Oper.upon_enter]
 refine hc.mono fun e w' h => ?_
 obtain ⟨v, rfl, hk⟩ := hR e w' h
 exact hk
theorem enter_build : ∀ xs W, (callFunc 62 xs).run Tryz.prog W = .ok (.enter 62 xs) W := fun _ _ => by kernel_rfl
theorem frozen_alloc {w : World} {p : Addr} {x : Bool} (h : w.frozen? p = x) (hp : p.block < w.heap.size) (o : Obj) : (w.alloc o).frozen? p = x := by rw [World.frozen?_of_block (w := w) (a := p) (Below.heap_alloc w o p.block hp), h]
theorem arr_one (l f n : Int) (v e d : Vp.Txt) (a : Option Addr) (m c : Nat) : ∀ y ∈ ([.int .i64 l, .int .i64 f, .int .i64 n, tv v, tv e, tv d, .slice a m c] : List Value), y.oneCell' = true := by
 intro y hy
 simp only [List.mem_cons, List.not_mem_nil, or_false] at hy
 rcases hy with rfl | rfl | rfl | rfl | rfl | rfl | rfl <;> rfl
theorem KidsOwn.grown {w w' : World} {A : Nat → Prop} {ks : List Arr} {k vv : Value} {b : Nat} {fl : Bool} (h : KidsOwn w A ks k) (hb : BldAt w b vv fl) (hg : w.grownBy w' (some b)) : KidsOwn w' A ks k :=
 KidsOwn.same ks A k (fun g _ hc => KeepT.bld hb hg (e := 27) (by decide) g hc) h
theorem KidsOwn.parts {w : World} {A : Nat → Prop} {ks : List Arr} {k : Value} (h : KidsOwn w A ks k) : ∃ cs : List Value, w.ownsRow 0 27 7 k ks.length cs ∧ (∀ g, k.ownBlock = some g → A g) ∧ CellsOwn w (fun g => A g ∧ k.ownBlock ≠ some g) ks cs := by
 rw [KidsOwn] at h
 exact h
theorem col_take (rows : List (List Vp.Txt)) (k q : Nat) (h : k < rows.length) : Vp.col (rows.take (k + 1)) q = Vp.col (rows.take k) q ++ [(rows[k]).getD q []] := by
 unfold Vp.col
 rw [List.take_succ_eq_append_getElem h, List.map_append]; rfl

set_option maxRecDepth 100000 in
set_option maxHeartbeats 6400000 in
theorem build_struct (ns : List Tp.Nd) (i b : Nat) (vs : List Vp.Txt) (v vv : Value) (W : World) (hb : BldAt W b vv false) (ht : TextsAt W v vs) (hnd : NodesAt W vv ns) (hv : Vars W) (hm : Tp.may ns = true) (hi : i < ns.length) (h6 : 6 ≤ b) (hl : vs.length ≤ 64) (hf : ∀ x ∈ vs, Vp.Fit ns i x) (hk : Tp.kindOf ns i = 4) (n : Nat) (ih : BuildOK ns n) (hin : ns.length - i ≤ n + 1) :
  Calls Tryz.prog 62 #[.pointer (some ⟨b, 0, none⟩), .int .i64 (i : Int), v] W (BuildQ ns i vs vv b false W) := by
 have hbi : ¬ ((64 : Int) < (vs.length : Int)) := by omega
 have hdec : decide ((64 : Int) < (vs.length : Int)) = false := decide_eq_false hbi
 have HL := Lib.hid (fun x (h : x ∈ vs) => Vp.fit_len (hf x h))
 have HF := Lib.hid hf
 have HBE := Lib.hid (Vp.build_eq ns hm i hi vs)
 rw [if_neg (show ¬ 64 < vs.length by omega), if_neg (show ¬ Tp.kindOf ns i = 0 by omega), if_neg (show ¬ Tp.kindOf ns i = 1 by omega), if_neg (show ¬ Tp.kindOf ns i = 2 by omega), if_neg (show ¬ Tp.kindOf ns i = 3 by omega)] at HBE
 have hkm := Vp.kids_many hm i
 have hl8 := (Vp.may_len ns hm).2
 have HRLEN := Lib.hid (show ∀ row ∈ Vp.pts ((Tp.kids ns (i : Int)).map (Vp.zero ns)) vs, row.length = (Tp.kids ns (i : Int)).length from fun row hr => by
  obtain ⟨x, hx, rfl⟩ := List.mem_map.1 hr
  exact (Vp.row_struct hm hi hk (hf x hx)).1)
 have HKF := Lib.hid (show ∀ j, j < (Tp.kids ns (i : Int)).length → ∀ p ∈ Vp.col (Vp.pts ((Tp.kids ns (i : Int)).map (Vp.zero ns)) vs) j, Vp.Fit ns ((Tp.kids ns (i : Int)).getD j 0) p from fun j hj p hp => by
  unfold Vp.col at hp
  obtain ⟨row, hrow, rfl⟩ := List.mem_map.1 hp
  obtain ⟨x, hx, rfl⟩ := List.mem_map.1 hrow
  exact (Vp.row_struct hm hi hk (hf x hx)).2.1 j hj)
 have HKLT := Lib.hid (show ∀ j, j < (Tp.kids ns (i : Int)).length → i < (Tp.kids ns (i : Int)).getD j 0 ∧ (Tp.kids ns (i : Int)).getD j 0 < ns.length from fun j hj => Vp.kid_lt hm hj)
 have HBZ := Lib.hid (fun W' (h1 : BldAt W' b vv false) (h2 : NodesAt W' vv ns) (h3 : Vars W') => bzeros_calls ns hm i b vv false W' hi h1 h2 h3)
 have HBK := Lib.hid (fun W' (h1 : BldAt W' b vv false) (h2 : NodesAt W' vv ns) => bkids_calls b vv false ns i W' h1 h2 hm hi)
 obtain ⟨ks, hks⟩ : ∃ ks, Tp.kids ns (i : Int) = ks := ⟨_, rfl⟩
 rw [hks] at HBE HRLEN HKF HKLT HBZ HBK hkm
 obtain ⟨zs, hzs⟩ : ∃ zs, ks.map (Vp.zero ns) = zs := ⟨_, rfl⟩
 have hzl : zs.length = ks.length := by rw [← hzs, List.length_map]
 rw [hzs] at HBE HRLEN HKF HBZ
 obtain ⟨rows, hrows⟩ : ∃ rows, Vp.pts zs vs = rows := ⟨_, rfl⟩
 have HRL := Lib.hid (show rows.length ≤ 64 by rw [← hrows]; simp [Vp.pts]; omega)
 rw [hrows] at HBE HRLEN HKF
 have HROWS := Lib.hid hrows
 have HZL := Lib.hid hzl
 have HIH := Lib.hid ih
 have hksl : ks.length ≤ 8 := by omega
 clear hks hzs hrows hzl ih hkm
 clear hf
 have hb1 : Below W.heap.size W (W.alloc (.cells #[.int .i64 0, .int .i64 0, .int .i64 0, .string ⟨#[]⟩, .string ⟨#[]⟩, .string ⟨#[]⟩, .slice none 0 0] 27)) := (Below.refl _ _).alloc (Nat.le_refl _) _
 have HV := Lib.hid (valid_calls v vs _ (ht.below hb1) (by omega))
 have HBL := Lib.hid hb
 have HTX := Lib.hid ht
 have HND := Lib.hid hnd
 have HVV := Lib.hid hv
 obtain ⟨bk, o, nc, rfl, hbkb, hbk, hkc, hnl, hnc⟩ := nodes_at_b hnd hb hi
 rw [hk] at hkc
 have hbkb' : ¬ b = bk := fun e => hbkb e.symm
 obtain ⟨a, c, rfl, hc, hmx, h3⟩ := ht
 unfold maxLen at hnc hmx
 have hii : (i : Int) < (ns.length : Int) := by omega
 clear h3 hb hnd hv
 go_enter Tryz.func62, Tryz.ntmps62
 go_wp2_with (fail)
 refine HV.out.mono ?_
 rintro e w1 ⟨rfl, hb2⟩
 have HB := Lib.hid (below_then hb1 hb2)
 have hbl1 := HBL.out.below HB.out
 have hR : w1.heap[W.heap.size]? = some (.cells #[.int .i64 0, .int .i64 0, .int .i64 0, .string ⟨#[]⟩, .string ⟨#[]⟩, .string ⟨#[]⟩, .slice none 0 0] 27) := (hb2.block _ (by simp)).trans (heap_alloc_new W _)
 have S0 := Lib.hid (BSt.begin false (vs.length : Int) (Vp.valid vs) HBL.out HB.out hR)
 have hkc1 := (HB.out.cell (p := ⟨bk, o + i * 3, none⟩) hbk).trans hkc
 have c0 := hbl1.c0
 have c1 := hbl1.c1
 have hbf := hbl1.f1
 have hblt := hbl1.lt
 have hbk1 : bk < w1.heap.size := by have := HB.out.size; omega
 have hn2 : W.heap.size ≤ w1.heap.size := HB.out.size
 clear hR hb2 hb1 hkc hbl1
 go_wp2_with (fail)
 refine (HBZ.out _ S0.out.bld (nodes_grown HND.out HBL.out S0.out.grown) (six_b HVV.out S0.out h6)).mono ?_
 rintro e w2 ⟨rz, rfl, hoz, hb3⟩
 have S2 := Lib.hid (S0.out.below hb3)
 rw [← HZL.out] at hoz
 obtain ⟨za, zc, hz⟩ := own_slice hoz
 rw [HZL.out] at hz
 subst hz
 have HOZ := Lib.hid (own_weak hoz (Nat.zero_le _))
 clear hoz hb3
 go_wp2_with (fail)
 refine (pts_calls _ _ vs zs _ (six_b HVV.out S2.out h6) (texts_grown HTX.out HBL.out rfl S2.out.grown) HOZ.out HL.out (by omega)).mono ?_
 rintro e w3 ⟨r, rfl, hro, hb4⟩
 have S3 := Lib.hid (S2.out.below hb4)
 rw [HROWS.out] at hro
 have HRO := Lib.hid hro
 obtain ⟨ra, rc, rfl⟩ := hro.slice
 clear hro hb4
 go_wp2_with (fail)
 refine (HBK.out _ S3.out.bld (nodes_grown HND.out HBL.out S3.out.grown)).mono ?_
 rintro e w4 ⟨rk, rfl, hok, hb5⟩
 have S4 := Lib.hid (S3.out.below hb5)
 have HRO4 := Lib.hid (HRO.out.below hb5)
 obtain ⟨ka, kc, rfl⟩ := own_slice hok
 have HOK := Lib.hid hok
 clear hok hb5 c0 c1 hbf hkc1 HRO HBZ HBK
 generalize (((w1.setCell ⟨b, 1, none⟩ (.bool false)).alloc (.cells (arrC 0 0 (vs.length : Int) (Vp.valid vs) [] [] (.slice none 0 0)) 27)).heap.size) = B0 at HOZ
 obtain ⟨B1, hB1⟩ : ∃ B1, w2.heap.size = B1 := ⟨_, rfl⟩
 obtain ⟨B2, hB2⟩ : ∃ B2, w3.heap.size = B2 := ⟨_, rfl⟩
 rw [hB1] at HRO4
 rw [hB2] at HOK
 clear hB1 hB2
 go_wp2
 go_loopw [56] (fun idx wr => ∃ (q : Nat) (kv : Value) (done : List Arr) (fl : Bool), q ≤ ks.length ∧ idx = .int .i64 (q : Int) ∧ done.length = q ∧ BSt W wr b w1.heap.size (.slice (some ⟨bk, o, none⟩) ns.length nc) fl vs.length (Vp.valid vs) [] [] kv ∧ KidsOwn wr (fun g => w1.heap.size < g) done kv ∧
   RowsOwn wr B1 (.slice ra rows.length rc) rows ∧ wr.ownsRow B2 3 1 (.slice ka ks.length kc) ks.length (natv ks) ∧
   (match Vp.seqO ((List.range q).map fun j => Vp.build ns (ks.getD j 0) (Vp.col rows j)) with | none => fl = true | some ys => fl = false ∧ done = ys)) (fun idx _ => ks.length - (intOf idx).toNat)
 case atStart => exact ⟨0, _, [], false, Nat.zero_le _, rfl, rfl, S4.out, KidsOwn.nil _ _, HRO4.out, HOK.out, ⟨rfl, rfl⟩⟩
 case round =>
  obtain ⟨q, kv, done, fl, hq, rfl, hdl, hS, hK, hRO, hOK, hM⟩ := hrel
  rename World => wo
  have S := Lib.hid hS
  have HK := Lib.hid hK
  have HRr := Lib.hid hRO
  have HOr := Lib.hid hOK
  have HM := Lib.hid hM
  have HDL := Lib.hid hdl
  clear hS hK hRO hOK hM hdl
  by_cases hlt : q < ks.length
  ·obtain ⟨gk, capk, hrk, hck, hgk⟩ := nat_row HOr.out hlt
   obtain ⟨rfl, _, rfl⟩ := Value.slice.inj hrk
   have hqi : (q : Int) < (ks.length : Int) := by omega
   have HKD := Lib.hid (show ks.getD q 0 = ks[q] by rw [List.getD_eq_getElem?_getD, List.getElem?_eq_getElem hlt]; rfl)
   have hkl := HKLT.out q hlt
   have HKf := Lib.hid (HKF.out q hlt)
   rw [HKD.out] at hkl HKf
   have HSQ := Lib.hid (show (Vp.seqO ((List.range (q + 1)).map fun j => Vp.build ns (ks.getD j 0) (Vp.col rows j))) = (Vp.seqO ((List.range q).map fun j => Vp.build ns (ks.getD j 0) (Vp.col rows j))).bind fun ys => (Vp.build ns ks[q] (Vp.col rows q)).map fun a => ys ++ [a] by
    rw [List.range_succ, List.map_append, List.map_cons, List.map_nil, Vp.seqO_snoc, HKD.out])
   generalize ks[q] = kd at hck hkl HKf HSQ
   clear hrk HKD
   go_wp2
   go_loopw [13, 63] (fun u idx w5 => ∃ k : Nat, k ≤ rows.length ∧ idx = .int .i64 (k : Int) ∧ w5.ownsRow wo.heap.size 9 1 u k ((Vp.col (rows.take k) q).map tv) ∧ Below wo.heap.size wo w5) (fun _ idx _ => rows.length - (intOf idx).toNat)
   case atStart => exact ⟨0, Nat.zero_le _, rfl, own_nil, Below.refl _ _⟩
   case round =>
    obtain ⟨k, hk5, rfl, hu, hb⟩ := hrel
    replace hu := Lib.hid hu
    have hrl := HRL.out
    by_cases hltk : k < rows.length
    ·obtain ⟨gg, cap, c5, hv, hc5, ho, hg2⟩ := HRr.out.at (List.getElem?_eq_getElem hltk)
     obtain ⟨rfl, _, rfl⟩ := Value.slice.inj hv
     have cc0 := (hb.cell (p := ⟨gg, k, none⟩) hg2).trans hc5
     have hrow := HRLEN.out _ (List.getElem_mem hltk)
     have HT := Lib.hid (col_take rows k q hltk)
     generalize rows[k] = row at ho hrow HT
     obtain ⟨g, cap2, hcv, _, _, _, hrw⟩ := own_row ho (by omega)
     rw [hrow] at hcv
     subst hcv
     have hd0 := (hb.cell (p := ⟨g, q, none⟩) hrw.lt).trans (hrw.cell (i := q) (v := tv (row.getD q [])) (by rw [List.getElem?_map, List.getElem?_eq_getElem (by omega), List.getD_eq_getElem?_getD, List.getElem?_eq_getElem (by omega)]; rfl))
     generalize row.getD q [] = x at hd0 HT
     have hki : (k : Int) < (rows.length : Int) := by omega
     clear hc5 ho hv hrw hrow
     go_wp2_with (at_builtin; refine wp_app1 rfl _ _ 39 9 rfl wo.heap.size 16 (.string ⟨#[]⟩) Tryz.underlying39 info_string rfl _ _ _ rfl rfl rfl hu.out (by omega) (by omega) hb.size ?_; intro v6 w6 ho6 hb6 hg6)
     exact ⟨⟨k + 1, by omega, by go_num, by rw [HT.out, List.map_append]; exact ho6, hb.trans hb6⟩, by simp [intOf]; omega⟩
    ·obtain rfl : k = rows.length := by omega
     have hu2 := hu.out
     rw [List.take_length] at hu2
     have hcl : (Vp.col rows q).length = rows.length := by simp [Vp.col]
     obtain ⟨va, vc, hkv⟩ := HK.out.slice
     rw [HDL.out] at hkv
     subst hkv
     have S5 := Lib.hid (S.out.below hb)
     have HK5 := Lib.hid (KidsOwn.same done _ _ (fun g _ hc => KeepT.below hb (e := 27) g hc) HK.out)
     have HR5 := Lib.hid (HRr.out.below hb)
     have HO5 := Lib.hid (own_below HOr.out hb)
     have htx : TextsAt wr u13 (Vp.col rows q) := own_texts (by rw [hcl]; exact hu2)
     obtain ⟨ua, uc, hua⟩ := own_slice hu2
     subst hua
     have HBU := Lib.hid (fun W' (h : Below wr.heap.size wr W') => HIH.out kd b (Vp.col rows q) _ (.slice (some ⟨bk, o, none⟩) ns.length nc) fl W' hkl.2 (by omega) (S5.out.bld.below h) (htx.below h) ((nodes_grown HND.out HBL.out S5.out.grown).below h) ((six_b HVV.out S5.out h6).below h (six_b HVV.out S5.out h6).six) h6 (by have := HRL.out; omega) HKf.out)
     have hOlt := S5.out.lt
     have ho6 := (zero_cells S5.out.out).2.2.2.2.2.2.1
     have HKG := Lib.hid (show ∀ wb, wr.drew.grownBy wb (some b) → KidsOwn wb (fun g => w1.heap.size < g) done (.slice va q vc) from fun wb hg => KidsOwn.grown (KidsOwn.same (w := wr) (w' := wr.drew) done _ _ (fun g _ _ => rfl) HK5.out) (show BldAt wr.drew b (.slice (some ⟨bk, o, none⟩) ns.length nc) fl from S5.out.bld) hg)
     clear hu2 htx hb
     go_wp2
     go_region_law (first | (refine step_call3 (by rfl) 62 (.tmp 77) (.tmp 78) (.tmp 79) _ (by rfl) (.pointer (some ⟨b, 0, none⟩)) (.int .i64 (kd : Int)) (.slice ua rows.length uc) (by simp [Act.eval, Act.put]) (by simp [Act.eval, Act.put]) (by simp [Act.eval, Act.put]) enter_build (HBU.out _ (below_drew (Below.refl _ _))) ?_; rintro e wb ⟨ar, u6, f', rfl, hao, hbl6, hg6, hf6, hm6⟩; refine ⟨_, rfl, ?_⟩; obtain ⟨k6, ac, cc6, hk6, rfl, hko⟩ := hao.value; subst hk6; have S6 := Lib.hid ((S5.out.below (below_drew (Below.refl _ _))).call hg6 hbl6); replace hOlt := S6.out.lt; replace ho6 := (zero_cells S6.out.out).2.2.2.2.2.2.1; have hp6 := (zero_cells S6.out.out).2.2.2.2.2.2.2.2.2.2.2.2.2; replace hf6 := Lib.hid hf6; replace hm6 := Lib.hid hm6; have HK6 := Lib.hid (HKG.out wb hg6); obtain ⟨cs6, hKC, hKA, hKB⟩ := HK6.out.parts; rw [HDL.out] at hKC; have hOne : ∀ y ∈ ([.int .i64 ar.lay, .int .i64 ar.off, .int .i64 ar.len, tv ar.valid, tv ar.ends, tv ar.data, .slice ac ar.kids.length cc6] : List Value), y.oneCell' = true := arr_one _ _ _ _ _ _ _ _ _) | (refine step_appK (by rfl) (.tmp 76) (.tmp 81) 25 27 (by rfl) 0 7 96 _ Tryz.underlying25 info_arr rfl (by decide) (.slice va q vc) q cs6 [.int .i64 ar.lay, .int .i64 ar.off, .int .i64 ar.len, tv ar.valid, tv ar.ends, tv ar.data, .slice ac ar.kids.length cc6] rfl hOne (by simp [Act.eval, Act.put]) wb.heap.size (by simp [Act.eval, Act.put]) (blk_new _ _) (hKC.alloc _) (by omega) (by omega) (Nat.zero_le _) ?_; intro g4 cap4 w5 ho5 hg5 hl5; have ho7 := (hg5.cell_far ⟨w1.heap.size, 6, none⟩ (by simp; omega) (fun e => Nat.lt_irrefl _ (hKA _ e.symm))).trans (cell_alloc ho6 _); have hp7 := (hg5.frozen_far ⟨w1.heap.size, 6, none⟩ (by simp; omega) (fun e => Nat.lt_irrefl _ (hKA _ e.symm))).trans (frozen_alloc hp6 hOlt _)))
     all_goals
      have HBA : Below wb.heap.size wb ((wb.alloc (.cells (arrC ar.lay ar.off ar.len ar.valid ar.ends ar.data (.slice ac ar.kids.length cc6)) 27))) := (Below.refl _ _).alloc (Nat.le_refl _) _
      have S7 := Lib.hid ((S6.out.below HBA).far hg5 (fun g e => hKA g e))
      have S8 := Lib.hid (S7.out.set 6 (.slice (some ⟨g4, 0, none⟩) (q + 1) cap4) [] [] (.slice (some ⟨g4, 0, none⟩) (q + 1) cap4) rfl)
      have hkeep : ∀ e : TypeId, e ≠ 89 → e ≠ 27 → KeepT e wr (w5.setCell ⟨w1.heap.size, 6, none⟩ (.slice (some ⟨g4, 0, none⟩) (q + 1) cap4)) := fun e he1 he2 =>
       KeepT.trans (show KeepT e wr wb from KeepT.bld (w := wr.drew) S5.out.bld hg6 he1) ((KeepT.below HBA).trans ((KeepT.row (hKC.alloc _) hg5 he2).trans (KeepT.set S7.out.out he2)))
      have hkvlt : ∀ g, (Value.slice va q vc).ownBlock = some g → g < wr.heap.size := fun g e => by
       obtain ⟨cs5, h1, _⟩ := HK5.out.parts
       exact (h1.lt g e).2
      have hKN : KidsOwn w5 (fun g => w1.heap.size < g) (done ++ [ar]) (.slice (some ⟨g4, 0, none⟩) (q + 1) cap4) := by
       have h1 : KidsOwn (wb.alloc (.cells (arrC ar.lay ar.off ar.len ar.valid ar.ends ar.data (.slice ac ar.kids.length cc6)) 27)) (fun g => w1.heap.size < g ∧ (Value.slice va q vc).ownBlock ≠ some g) ar.kids (.slice ac ar.kids.length cc6) :=
        KidsOwn.same _ _ _ (fun g _ hc => KeepT.below HBA (e := 27) g hc) (KidsOwn.weak _ _ _ _ (fun g hg _ => ⟨by have := S5.out.lt; have : wr.heap.size ≤ g := hg; omega, fun e => by have := hkvlt g e; have : wr.heap.size ≤ g := hg; omega⟩) hko)
       have h2 := KidsOwn.snoc (ks := done) (ys := ar.kids) (l := ar.lay) (f := ar.off) (n := ar.len) (v := ar.valid) (e := ar.ends) (d := ar.data) (A := fun g => w1.heap.size < g) (by rw [HDL.out]; exact hKC.alloc _) (CellsOwn.same _ _ _ (fun g _ hc => KeepT.below HBA (e := 27) g hc) hKB) h1 (by rw [HDL.out]; exact ho5) hg5
        (by
         rcases hl5 with h | h
         ·exact .inl h.symm
         ·exact .inr ⟨g4, rfl, by rw [h]; exact Nat.le_refl _⟩)
        (fun g e => by
         have e' : g4 = g := by simpa [Value.ownBlock] using e
         rcases hl5 with h | h
         ·exact hKA g (by rw [← e']; exact h)
         ·have hsz : (wb.alloc (.cells (arrC ar.lay ar.off ar.len ar.valid ar.ends ar.data (.slice ac ar.kids.length cc6)) 27)).heap.size = wb.heap.size + 1 := by simp
          have h' : g4 = (wb.alloc (.cells (arrC ar.lay ar.off ar.len ar.valid ar.ends ar.data (.slice ac ar.kids.length cc6)) 27)).heap.size := h
          omega)
       have e : Arr.mk ar.lay ar.off ar.len ar.valid ar.ends ar.data ar.kids = ar := by obtain ⟨l, f, n, v, e, d, ks⟩ := ar; rfl
       rwa [e] at h2
      have HKN := Lib.hid hKN
      have HKP := Lib.hid hkeep
      clear hKN hkeep hkvlt HBU
      go_wp2
      refine ⟨⟨q + 1, .slice (some ⟨g4, 0, none⟩) (q + 1) cap4, done ++ [ar], f', by omega, by go_num, by rw [List.length_append, HDL.out]; rfl, S8.out, ?_, KeepT.rows HR5.out (HKP.out _ (by decide) (by decide)) (HKP.out _ (by decide) (by decide)), (HKP.out _ (by decide) (by decide)).own HO5.out, ?_⟩, by simp [intOf]; omega⟩
      ·exact KidsOwn.same _ _ _ (fun g hg _ => Below.heap_setCell w5 ⟨w1.heap.size, 6, none⟩ _ g (by simp only; omega)) HKN.out
      ·rw [HSQ.out]
       have hm0 := HM.out
       have hm1 := hm6.out
       have hf1 := hf6.out
       cases hsq : Vp.seqO ((List.range q).map fun j => Vp.build ns (ks.getD j 0) (Vp.col rows j)) with
       | none =>
        rw [hsq] at hm0
        exact hf1 hm0
       | some ys =>
        rw [hsq] at hm0
        obtain ⟨rfl, rfl⟩ := hm0
        have hm2 := hm1 rfl
        cases hbq : Vp.build ns kd (Vp.col rows q) with
        | none => rw [hbq] at hm2; exact hm2
        | some x =>
         rw [hbq] at hm2
         obtain ⟨h1, rfl⟩ := hm2
         exact ⟨h1, rfl⟩
  ·obtain rfl : q = ks.length := by omega
   obtain ⟨va, vc, hkv⟩ := HK.out.slice
   rw [HDL.out] at hkv
   subst hkv
   obtain ⟨r0, r1, r2, r3, r4, r5, r6, q0, q1, q2, q3, q4, q5, q6⟩ := zero_cells S.out.res
   obtain ⟨o0, o1, o2, o3, o4, o5, o6, p0, p1, p2, p3, p4, p5, p6⟩ := zero_cells S.out.out
   have hOR : ¬ w1.heap.size = W.heap.size := by have := S.out.olt; omega
   have hRO : ¬ W.heap.size = w1.heap.size := by have := S.out.olt; omega
   go_wp2
   (try simp only [Exit.inBlock, Exit.then])
   refine bodyPost_ret (results_cell_row rfl _ _ W.heap.size 27 (arrC 0 0 vs.length (Vp.valid vs) [] [] _) (0, 0) _ rfl S.out.resAt Tryz.underlying27 rfl info_array_size) rfl ?_
   refine S.out.done HK.out (fun h => by cases h) (fun _ => ?_)
   rw [HBE.out]
   have hm2 := HM.out
   cases hsq : Vp.seqO ((List.range ks.length).map fun j => Vp.build ns (ks.getD j 0) (Vp.col rows j)) with
   | none => rw [hsq] at hm2; exact hm2
   | some ys =>
    rw [hsq] at hm2
    obtain ⟨h1, rfl⟩ := hm2
    exact ⟨h1, rfl⟩
end Go.Proofs.YtobhjlchpnpleaaGreatDoor
