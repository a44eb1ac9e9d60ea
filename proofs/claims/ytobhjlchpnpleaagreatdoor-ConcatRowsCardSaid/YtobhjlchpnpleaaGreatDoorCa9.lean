/- Several texts in one: Slices, Word, BldA. -/
import Derived.Test.YtobhjlchpnpleaaGreatDoorCa7
import Derived.Test.YtobhjlchpnpleaaGreatDoorCa8
import Derived.Test.YtobhjlchpnpleaaGreatDoorCa1
import Derived.Deep.RegionHeld3
import Derived.Deep.AppendLies
/- Package slices at chapter 10's types, walked. -/
namespace Go.Proofs.YtobhjlchpnpleaaGreatDoor
open Go.RowKit
set_option linter.unusedVariables false
set_option linter.unusedSimpArgs false

set_option maxHeartbeats 800000 in
theorem indexB_calls (v : Value) (xs : List Bool) (b : Bool) (base : Nat) (W : World) (ho : W.ownsRow base 4 1 v xs.length (bools xs)) :
  Calls Tryz.prog 146 #[v, .bool b] W fun e w' => ∃ r : Int, e = .returned (.int .i64 r) ∧ (0 ≤ r ↔ b ∈ xs) ∧ W = w' := by
 have hm := own_max ho
 unfold maxLen at hm
 obtain ⟨a, c, rfl⟩ := own_slice ho
 have HO := Lib.hid ho
 clear ho
 go_enter Tryz.func146, Tryz.ntmps146
 go_wp2
 go_loopw [5, 8] (fun _ i wr => ∃ k : Nat, k ≤ xs.length ∧ i = .int .i64 k ∧ W = wr ∧ (∀ j, j < k → xs[j]? ≠ some b)) (fun _ i _ => xs.length - (intOf i).toNat)
 case atStart => exact ⟨0, Nat.zero_le _, rfl, rfl, fun j h => absurd h (Nat.not_lt_zero _)⟩
 case round =>
  obtain ⟨k, hk, rfl, rfl, hall⟩ := hrel
  have HA := Lib.hid hall
  clear hall
  by_cases hlt : k < xs.length
  ·obtain ⟨g, cap, hv, _, _, _, hrow⟩ := own_row HO.out (by omega)
   obtain ⟨rfl, _, rfl⟩ := Value.slice.inj hv
   have hx := List.getElem?_eq_getElem hlt
   have hc := hrow.cell (i := k) (v := .bool xs[k]) (by rw [bools, List.getElem?_map, hx]; rfl)
   have HX := Lib.hid hx
   clear hx hv hrow
   have hlti : (k : Int) < (xs.length : Int) := by omega
   generalize xs[k] = x at hc HX
   by_cases hxb : b = x
   ·have hb : (b == x) = true := by simp [hxb]
    have HB := Lib.hid hxb
    clear hxb
    go_wp2
    go_ret
    refine ⟨_, rfl, ?_, rfl⟩
    rw [HB.out]
    exact ⟨fun _ => List.mem_of_getElem? HX.out, fun _ => by omega⟩
   ·have hb : (b == x) = false := by simp [hxb]
    have HB := Lib.hid hxb
    clear hxb
    go_wp2
    have hnext : ∀ j, j < k + 1 → xs[j]? ≠ some b := fun j hj => by
     by_cases hjk : j = k
     ·rw [hjk, HX.out]; exact fun h => HB.out (Option.some.inj h).symm
     ·exact HA.out j (by omega)
    refine ⟨⟨k + 1, by omega, by go_num, ?_⟩, by simp [intOf]; omega⟩
    exact ⟨trivial, hnext⟩
  ·obtain rfl : k = xs.length := by omega
   go_wp2
   go_ret
   refine ⟨_, rfl, ?_, rfl⟩
   refine ⟨fun h => absurd h (by omega), fun h => ?_⟩
   obtain ⟨j, hj⟩ := List.getElem?_of_mem h
   exact absurd hj (HA.out j (List.getElem?_eq_some_iff.1 hj).1)
theorem containsB_calls (v : Value) (xs : List Bool) (b : Bool) (base : Nat) (W : World) (ho : W.ownsRow base 4 1 v xs.length (bools xs)) :
  Calls Tryz.prog 123 #[v, .bool b] W fun e w' => e = .returned (.bool (xs.contains b)) ∧ W = w' := by
 have HI := Lib.hid (indexB_calls v xs b base W ho)
 obtain ⟨a, c, rfl⟩ := own_slice ho
 clear ho
 go_enter Tryz.func123, Tryz.ntmps123
 go_wp2_with (go_at_call 146; refine HI.out.mono ?_; rintro e w' ⟨r, rfl, hr, rfl⟩; have HR := Lib.hid hr; clear hr)
 go_ret
 exact ⟨ret_bool (by rw [Bool.eq_iff_iff, decide_eq_true_eq, HR.out, List.contains_iff_mem]), rfl⟩
end Go.Proofs.YtobhjlchpnpleaaGreatDoor

/- num.Word, walked. -/
namespace Go.Proofs.YtobhjlchpnpleaaGreatDoor
open Go.RowKit
set_option linter.unusedVariables false
set_option linter.unusedSimpArgs false

theorem bv_word (x : Int) (i : Nat) : bv (wordB x i) = .int .u8 (x / 2 ^ (8 * i) % 256) := by
 unfold bv wordB
 generalize x / 2 ^ (8 * i) = y
 have h : (UInt8.ofNat (y % 256).toNat).toNat = (y % 256).toNat := by
  rw [UInt8.toNat_ofNat']
  exact Nat.mod_eq_of_lt (by omega)
 rw [h]
 congr 1
 omega
theorem info_u8_ : (Tryz.prog.info? 5).map (fun i => (i.zero, i.size, i.bytes)) = some (some (.int .u8 0), 1, 1) := by kernel_rfl
set_option maxHeartbeats 1600000 in
theorem word_calls (x : Int) (n : Nat) (W : World) (hp : 0 < n) (hn : n ≤ 8) (h0 : -9223372036854775808 ≤ x) (h1 : x ≤ 9223372036854775807) :
  Calls Tryz.prog 127 #[.int .i64 x, .int .i64 (n : Int)] W fun e w' => e = .returned (tv (word x n)) ∧ Below W.heap.size W w' := by
 have hmk := fun w => run_makeBytes (P := Tryz.prog) 132 5 Tryz.underlying132 info_u8_ n (by omega) w
 have HK := Lib.hid (fill_none n (wordB x) (fun _ => (0 : UInt8)))
 have HA := Lib.hid (fill_all n n (wordB x) (fun _ => (0 : UInt8)) (Nat.le_refl _))
 go_enter Tryz.func127, Tryz.ntmps127
 go_wp2
 clear hmk
 go_loopw [6, 11] (fun _ i wr => ∃ k : Nat, k ≤ n ∧ i = .int .i64 k ∧ Row wr W.heap.size 5 ((fill n k (wordB x) (fun _ => 0)).map bv) ∧ Below W.heap.size W wr) (fun _ i _ => n - (intOf i).toNat)
 case atStart => exact ⟨0, Nat.zero_le _, rfl, by have := Row.new W 5 (List.map bv (List.replicate n 0)).toArray; rw [HK.out]; simpa [List.map_const'] using this, (Below.refl _ _).alloc (Nat.le_refl _) _⟩
 case round =>
  obtain ⟨k, hk, rfl, hout, hb⟩ := hrel
  have hfl := fill_length n k (wordB x) (fun _ => (0 : UInt8))
  by_cases hlt : k < n
  ·have hlti : (k : Int) < (n : Int) := by omega
   have hf := hout.free (i := k) (by rw [List.length_map, hfl]; exact hlt)
   obtain ⟨v0, hc⟩ := hout.has (i := k) (by rw [List.length_map, hfl]; exact hlt)
   have HR := Lib.hid hout
   clear hout hfl
   go_wp2
   refine ⟨⟨k + 1, by omega, by go_num, ?_, hb.setCell (Nat.le_refl _) _⟩, by simp [intOf]; omega⟩
   have := HR.out.set k (bv (wordB x k))
   rw [← List.map_set, fill_set _ _ _ _ _ rfl, bv_word] at this
   exact this
  ·obtain rfl : k = n := by omega
   have hs := run_string (P := Tryz.prog) (w := wr) 132 9 5 Tryz.underlying132 Tryz.underlying5 Tryz.underlying9 W.heap.size k k _ hfl.symm hout
   go_wp2
   go_ret
   exact ⟨by rw [HA.out]; rfl, hb⟩
end Go.Proofs.YtobhjlchpnpleaaGreatDoor

/- Package build: the builder's kids, zeros; parts, valid, walked. -/
namespace Go.Proofs.YtobhjlchpnpleaaGreatDoor
open Go.RowKit
set_option linter.unusedVariables false
set_option linter.unusedSimpArgs false

/-- 'append(v, u)' at a step of a region that draws its order: onto a row of the call's own; the argument's block is known. -/
theorem step_app {P : Program} {w : World} {ops : Array Oper} {o : Oper} {a : Act} {K : Act → World → Prop} {Q : Exit → Act → World → Prop} {E : Prop} (hgd : o.guard = none) (s x : Operand) (t e : TypeId)
  (ho : o.op = .call { callee := .builtin .append, args := #[s, x], argTypes := #[t, t] })
  (base size bytes : Nat) (z : Value) (ht : P.underlying t = some (.slice e)) (hi : (P.info? e).map (fun i => (i.zero, i.size, i.bytes)) = some (some z, size, bytes)) (hz : z.cells.size = size) (hsz : 0 < size)
  (v : Value) (n : Nat) (xs us : List Value) (hul : us.length = size) (hu : ∀ u ∈ us, u.oneCell' = true) (hs : a.eval s = v) (nb : Nat) (hx : a.eval x = .slice (some ⟨nb, 0, none⟩) 1 1) (hnb : w.heap[nb]? = some (.cells us.toArray e))
  (hown : w.ownsRow base e size v n xs) (hn : (n + 1) * bytes ≤ 140737488355328) (hm : n < 140737488355328) (hb : base ≤ w.heap.size)
  (h : ∀ g cap w', w'.ownsRow base e size (.slice (some ⟨g, 0, none⟩) (n + 1) cap) (n + 1) (xs ++ us) → Below base w w' → w.grownBy w' v.ownBlock → K (a.put o.dst (.slice (some ⟨g, 0, none⟩) (n + 1) cap)) w') :
  if Region.wanted o (yielded ops a.tmps) = true then Oper.wp P o a w K Q else E := by
 obtain ⟨i0, hi, hz0, hz1, hz2⟩ := info_parts hi
 refine step_append_lies w hgd s x t ho base e i0 z size bytes ht hi hz0 hz1 hz2 hz hsz v n xs hs hown ⟨nb, 0, none⟩ 1 1 us hx (by rw [hul, Nat.one_mul]) ?_ hu (by decide) (by unfold maxLen; omega) hn hb w.heap.size rfl ?_
 ·intro j y hy
  exact World.news_of_block hnb j y (by simpa using hy)
 ·intro g cap w' ho' hg _ _
  refine h g cap w' ho' ⟨hg.os, hg.tape, hg.output, hg.size, fun k hk => hg.block k (by omega) (fun e => ?_)⟩ hg
  have := (hown.lt k e.symm).1
  omega
theorem blk_new (w : World) (o : Obj) : (w.alloc o).heap[w.heap.size]? = some o := heap_alloc_new w o
theorem cell_alloc {w : World} {p : Addr} {v : Value} (h : w.cell? p = some v) (o : Obj) : (w.alloc o).cell? p = some v := by rw [World.cell?_of_block (w := w) (a := p) (Below.heap_alloc w o p.block (cell_lt h)), h]
/-- A builder: a type, whether it is full. -/
def BldAt (w : World) (b : Nat) (vv : Value) (full : Bool) : Prop := w.heap[b]? = some (.cells #[vv, .bool full] 89)
theorem BldAt.lt {w : World} {b : Nat} {vv : Value} {full : Bool} (h : BldAt w b vv full) : b < w.heap.size := (Array.getElem?_eq_some_iff.1 h).1
theorem BldAt.c0 {w : World} {b : Nat} {vv : Value} {full : Bool} (h : BldAt w b vv full) : w.cell? ⟨b, 0, none⟩ = some vv := by
 have h' : w.heap[b]? = _ := h
 simp [World.cell?, h']
theorem BldAt.c1 {w : World} {b : Nat} {vv : Value} {full : Bool} (h : BldAt w b vv full) : w.cell? ⟨b, 1, none⟩ = some (.bool full) := by
 have h' : w.heap[b]? = _ := h
 simp [World.cell?, h']
theorem BldAt.f1 {w : World} {b : Nat} {vv : Value} {full : Bool} (h : BldAt w b vv full) : w.frozen? ⟨b, 1, none⟩ = false := by
 have h' : w.heap[b]? = _ := h
 simp [World.frozen?, h']
theorem BldAt.below {w w' : World} {b : Nat} {vv : Value} {full : Bool} (h : BldAt w b vv full) (hb : Below w.heap.size w w') : BldAt w' b vv full := (hb.block b h.lt).trans h
theorem BldAt.drew {w : World} {b : Nat} {vv : Value} {full : Bool} (h : BldAt w b vv full) : BldAt w.drew b vv full := h

/-- A row of rows of texts, all of the call's own. -/
def RowsOwn (w : World) (base : Nat) (v : Value) (rows : List (List Vp.Txt)) : Prop :=
 ∃ cs : List Value, w.ownsRow base 39 1 v rows.length cs ∧ ∀ (j : Nat) (row : List Vp.Txt), rows[j]? = some row → ∃ c, cs[j]? = some c ∧ w.ownsRow 0 9 1 c row.length (row.map tv)
theorem RowsOwn.below {w w' : World} {base : Nat} {v : Value} {rows : List (List Vp.Txt)} (h : RowsOwn w base v rows) (hb : Below w.heap.size w w') : RowsOwn w' base v rows := by
 obtain ⟨cs, h1, h2⟩ := h
 exact ⟨cs, own_below h1 hb, fun j row hj => by obtain ⟨c, h3, h4⟩ := h2 j row hj; exact ⟨c, h3, own_below h4 hb⟩⟩
theorem own_apart {w : World} {b1 b2 n1 n2 s1 s2 : Nat} {e1 e2 : TypeId} {v1 v2 : Value} {x1 x2 : List Value} (h1 : w.ownsRow b1 e1 s1 v1 n1 x1) (h2 : w.ownsRow b2 e2 s2 v2 n2 x2) (hne : e1 ≠ e2) : v1.ownBlock = none ∨ v1.ownBlock ≠ v2.ownBlock := by
 rcases h2.2 with ⟨rfl, _⟩ | ⟨g, cap, cur, rfl, _, hh, _⟩
 ·rcases h1.2 with ⟨rfl, _⟩ | ⟨g', cap', cur', rfl, _, hh', _⟩
  ·exact .inl rfl
  ·exact .inr (by simp [Value.ownBlock])
 ·exact own_ne h1 hh hne
/-- A row more. -/
theorem RowsOwn.snoc {w w' : World} {base : Nat} {v v' c : Value} {rows : List (List Vp.Txt)} {row : List Vp.Txt} {cs : List Value} (h1 : w.ownsRow base 39 1 v rows.length cs) (h2 : ∀ (j : Nat) (row : List Vp.Txt), rows[j]? = some row → ∃ c, cs[j]? = some c ∧ w.ownsRow 0 9 1 c row.length (row.map tv))
  (hc : w.ownsRow 0 9 1 c row.length (row.map tv)) (ho : w'.ownsRow base 39 1 v' (rows.length + 1) (cs ++ [c])) (hg : w.grownBy w' v.ownBlock) : RowsOwn w' base v' (rows ++ [row]) := by
 have hcs : cs.length = rows.length := by have := h1.1; omega
 have hk : ∀ (x : Value) (r : List Vp.Txt), w.ownsRow 0 9 1 x r.length (r.map tv) → w'.ownsRow 0 9 1 x r.length (r.map tv) := fun x r hx => hx.kept hg (own_apart hx h1 (by decide))
 refine ⟨cs ++ [c], by rw [List.length_append]; exact ho, fun j r hj => ?_⟩
 rcases Nat.lt_or_ge j rows.length with hlt | hge
 ·rw [List.getElem?_append_left hlt] at hj
  obtain ⟨x, h3, h4⟩ := h2 j r hj
  exact ⟨x, by rw [List.getElem?_append_left (by omega)]; exact h3, hk x r h4⟩
 ·rw [List.getElem?_append_right hge] at hj
  obtain ⟨hj0, rfl⟩ : j - rows.length = 0 ∧ row = r := by
   cases hq : j - rows.length with
   | zero => rw [hq] at hj; simpa using hj
   | succ q => rw [hq] at hj; simp at hj
  exact ⟨c, by rw [List.getElem?_append_right (by omega), show j - cs.length = 0 by omega]; rfl, hk c row hc⟩
theorem RowsOwn.nil (w : World) (base : Nat) : RowsOwn w base (.slice none 0 0) [] := ⟨[], ⟨rfl, .inl ⟨rfl, rfl⟩⟩, fun j row hj => by simp at hj⟩
theorem RowsOwn.slice {w : World} {base : Nat} {v : Value} {rows : List (List Vp.Txt)} (h : RowsOwn w base v rows) : ∃ a c, v = .slice a rows.length c := by
 obtain ⟨cs, h1, _⟩ := h
 exact own_slice h1
/-- One of the rows. -/
theorem RowsOwn.at {w : World} {base : Nat} {j : Nat} {v : Value} {rows : List (List Vp.Txt)} {row : List Vp.Txt} (h : RowsOwn w base v rows) (hj : rows[j]? = some row) :
  ∃ g cap c, v = .slice (some ⟨g, 0, none⟩) rows.length cap ∧ w.cell? ⟨g, j, none⟩ = some c ∧ w.ownsRow 0 9 1 c row.length (row.map tv) ∧ g < w.heap.size := by
 obtain ⟨cs, h1, h2⟩ := h
 obtain ⟨c, h3, h4⟩ := h2 j row hj
 have hlt := (List.getElem?_eq_some_iff.1 hj).1
 obtain ⟨g, cap, hv, _, _, _, hrow⟩ := own_row h1 (by omega)
 exact ⟨g, cap, c, hv, hrow.cell h3, h4, hrow.lt⟩
theorem info_strings : (Tryz.prog.info? 39).map (fun i => (i.zero, i.size, i.bytes)) = some (some (.slice none 0 0), 1, 24) := by kernel_rfl
theorem own_weak {w : World} {b b' n s : Nat} {e : TypeId} {v : Value} {xs : List Value} (h : w.ownsRow b e s v n xs) (hb : b' ≤ b) : w.ownsRow b' e s v n xs := by
 obtain ⟨h1, h2⟩ := h
 refine ⟨h1, h2.imp id ?_⟩
 rintro ⟨g, cap, cur, h3, h4, h5⟩
 exact ⟨g, cap, cur, h3, Nat.le_trans hb h4, h5⟩

set_option maxHeartbeats 800000 in
theorem bkids_calls (b : Nat) (vv : Value) (full : Bool) (ns : List Tp.Nd) (i : Nat) (W : World) (hb : BldAt W b vv full) (hn : NodesAt W vv ns) (hm : Tp.may ns = true) (hi : i < ns.length) :
  Calls Tryz.prog 102 #[.pointer (some ⟨b, 0, none⟩), .int .i64 (i : Int)] W fun e w' => ∃ r, e = .returned r ∧ w'.ownsRow W.heap.size 3 1 r (Tp.kids ns i).length (natv (Tp.kids ns i)) ∧ Below W.heap.size W w' := by
 have HK := Lib.hid (kidsOk_calls vv ns i W hn ((Vp.node_of ns i).2 ⟨hm, hi⟩))
 have h0 := hb.c0
 go_enter Tryz.func102, Tryz.ntmps102
 go_wp2_with (go_at_call 87; refine HK.out.mono ?_; rintro e w' ⟨r, rfl, ho, hb2⟩)
 go_ret
 exact ⟨_, rfl, ho, hb2⟩

set_option maxHeartbeats 1600000 in
theorem pts_calls (v ov : Value) (vs other : List Vp.Txt) (W : World) (hv : Vars W) (ht : TextsAt W v vs) (ho : W.ownsRow 0 9 1 ov other.length (other.map tv)) (hl : ∀ x ∈ vs, x.length ≤ 65536) (hn : vs.length ≤ 65536) :
  Calls Tryz.prog 94 #[v, ov] W fun e w' => ∃ r, e = .returned r ∧ RowsOwn w' W.heap.size r (Vp.pts other vs) ∧ Below W.heap.size W w' := by
 obtain ⟨a, c, rfl, hc, hm, h3⟩ := ht
 unfold maxLen at hm
 replace h3 := Lib.hid h3
 have HL := Lib.hid hl
 obtain ⟨oa, oc, rfl⟩ := own_slice ho
 have HOV := Lib.hid ho
 have HV := Lib.hid hv
 clear hl ho hv
 go_enter Tryz.func94, Tryz.ntmps94
 go_wp2
 go_loopw [5, 13] (fun u i wr => ∃ k : Nat, k ≤ vs.length ∧ i = .int .i64 k ∧ RowsOwn wr W.heap.size u (Vp.pts other (vs.take k)) ∧ Below W.heap.size W wr) (fun _ i _ => vs.length - (intOf i).toNat)
 case atStart => exact ⟨0, Nat.zero_le _, rfl, RowsOwn.nil _ _, Below.refl _ _⟩
 case round =>
  obtain ⟨k, hk, rfl, hr, hb⟩ := hrel
  by_cases hlt : k < vs.length
  ·obtain ⟨bk, o, rfl, hbk, hcell⟩ := h3.out (by intro e; rw [e] at hlt; exact Nat.not_lt_zero _ hlt)
   have c0 := (hb.cell (p := ⟨bk, o + k, none⟩) hbk).trans (hcell k _ (List.getElem?_eq_getElem hlt))
   have hxl := HL.out _ (List.getElem_mem hlt)
   have HT := Lib.hid (show vs.take (k + 1) = vs.take k ++ [vs[k]] from List.take_succ_eq_append_getElem hlt)
   have hkl : (Vp.pts other (vs.take k)).length = k := by simp [Vp.pts]; omega
   have hlti : (k : Int) < (vs.length : Int) := by omega
   clear hcell h3 HL
   generalize vs[k] = x at c0 hxl HT
   obtain ⟨ua, uc, hu⟩ := hr.slice
   rw [hkl] at hu
   subst hu
   obtain ⟨cs, hr1, hr2⟩ := hr
   have H2 := Lib.hid hr2
   clear hr2
   rw [hkl] at hr1
   have HR1 := Lib.hid hr1
   clear hr1
   have hnext : ∀ (w1 w2 : World) (c v' : Value) (row : List Vp.Txt), Below wr.heap.size wr w1 → w1.ownsRow 0 9 1 c row.length (row.map tv) → w2.ownsRow W.heap.size 39 1 v' (k + 1) (cs ++ [c]) → w1.grownBy w2 (Value.slice ua k uc).ownBlock → Vp.partOr other x = row → RowsOwn w2 W.heap.size v' (Vp.pts other (vs.take (k + 1))) := by
    intro w1 w2 c v' row hb1 hc ho hg hp
    rw [HT.out]
    unfold Vp.pts at hkl ⊢
    rw [List.map_append, List.map_cons, List.map_nil, hp]
    refine RowsOwn.snoc (rows := (vs.take k).map (Vp.partOr other)) (by rw [hkl]; exact own_below HR1.out hb1) (fun j r hj => ?_) hc (by rw [hkl]; exact ho) hg
    obtain ⟨y, q1, q2⟩ := H2.out j r hj
    exact ⟨y, q1, own_below q2 hb1⟩
   have HNX := Lib.hid hnext
   clear hnext hkl
   by_cases hx : x = Vp.nul
   ·have HP := Lib.hid (show Vp.partOr other x = other by rw [hx, Vp.partOr_nul])
    have heq : (x == [110]) = true := by rw [hx]; rfl
    have HX := Lib.hid hx
    clear hx
    go_wp2_with (first
     | (go_at_call 116; refine (null_calls _).mono ?_; rintro e w' ⟨rfl, rfl⟩)
     | (at_builtin; refine wp_app1 rfl _ _ 101 39 rfl W.heap.size 24 (.slice none 0 0) Tryz.underlying101 info_strings rfl _ _ _ rfl rfl rfl HR1.out (by omega) (by omega) hb.size ?_; intro v2 w3 ho3 hb3 hg3))
    refine ⟨⟨k + 1, by omega, by go_num, HNX.out _ _ _ _ other (Below.refl _ _) (own_below HOV.out (below_then (Below.refl _ _) (hb.mono (Nat.le_refl _)))) ho3 hg3 HP.out, hb.trans hb3⟩, by simp [intOf]; omega⟩
   ·have HP := Lib.hid (show Vp.partOr other x = (Vp.parts x).2.1 by rw [Vp.partOr, if_neg hx])
    have heq : (x == [110]) = false := beq_eq_false_iff_ne.2 hx
    have HQ := Lib.hid (parts_calls x wr (HV.out.below hb HV.out.six) (by omega))
    clear hx
    go_wp2_with (first
     | (go_at_call 116; refine (null_calls _).mono ?_; rintro e w' ⟨rfl, rfl⟩)
     | (go_at_call 86; refine HQ.out.mono ?_; rintro e w1 ⟨r, rfl, hpo, hb1⟩; obtain ⟨pa, pc, rfl⟩ := own_slice hpo; replace hpo := Lib.hid hpo)
     | (at_builtin; refine wp_app1 rfl _ _ 101 39 rfl W.heap.size 24 (.slice none 0 0) Tryz.underlying101 info_strings rfl _ _ _ rfl rfl rfl (own_below HR1.out hb1) (by omega) (by omega) (Nat.le_trans hb.size hb1.size) ?_; intro v2 w3 ho3 hb3 hg3))
    refine ⟨⟨k + 1, by omega, by go_num, HNX.out _ _ _ _ _ hb1 (own_weak hpo.out (Nat.zero_le _)) ho3 hg3 HP.out, (below_then hb hb1).trans hb3⟩, by simp [intOf]; omega⟩
  ·obtain rfl : k = vs.length := by omega
   rw [List.take_length] at hr
   go_wp2
   go_ret
   exact ⟨_, rfl, hr, hb⟩

def ZeroOK (ns : List Tp.Nd) (n : Nat) : Prop := ∀ (i b : Nat) (vv : Value) (full : Bool) (W : World), i < ns.length → ns.length - i ≤ n → BldAt W b vv full → NodesAt W vv ns → Vars W →
 Calls Tryz.prog 131 #[.pointer (some ⟨b, 0, none⟩), .int .i64 (i : Int)] W fun e w' => e = .returned (tv (Vp.zero ns i)) ∧ Below W.heap.size W w'
theorem nat_row {w : World} {base j : Nat} {v : Value} {xs : List Nat} (h : w.ownsRow base 3 1 v xs.length (natv xs)) (hj : j < xs.length) :
  ∃ g cap, v = .slice (some ⟨g, 0, none⟩) xs.length cap ∧ w.cell? ⟨g, j, none⟩ = some (.int .i64 (xs[j] : Int)) ∧ g < w.heap.size := by
 obtain ⟨g, cap, hv, _, _, _, hrow⟩ := own_row h (by omega)
 exact ⟨g, cap, hv, hrow.cell (by rw [natv, List.getElem?_map, List.getElem?_eq_getElem hj]; rfl), hrow.lt⟩
set_option maxHeartbeats 1600000 in
theorem zeros_calls (ns : List Tp.Nd) (n : Nat) (ih : ZeroOK ns n) (hm : Tp.may ns = true) (i b : Nat) (vv : Value) (full : Bool) (W : World) (hi : i < ns.length) (hin : ns.length - i ≤ n + 1) (hb : BldAt W b vv full) (hn : NodesAt W vv ns) (hv : Vars W) :
  Calls Tryz.prog 103 #[.pointer (some ⟨b, 0, none⟩), .int .i64 (i : Int)] W fun e w' => ∃ r, e = .returned r ∧ w'.ownsRow W.heap.size 9 1 r (Tp.kids ns i).length (((Tp.kids ns i).map (Vp.zero ns)).map tv) ∧ Below W.heap.size W w' := by
 have HK := Lib.hid (bkids_calls b vv full ns i W hb hn hm hi)
 have hkb := (Vp.kids_many hm i)
 have hl8 := (Vp.may_len ns hm).2
 obtain ⟨ks, hks⟩ : ∃ ks, Tp.kids ns (i : Int) = ks := ⟨_, rfl⟩
 have HG := Lib.hid (fun k (h : k ∈ ks) => Vp.kids_gt ns hm i k (hks ▸ h))
 rw [hks] at HK hkb ⊢
 clear hks
 go_enter Tryz.func103, Tryz.ntmps103
 go_wp2_with (go_at_call 102; refine HK.out.mono ?_; rintro e w1 ⟨r, rfl, ho, hb1⟩; obtain ⟨ra, rc, rfl⟩ := own_slice ho; replace ho := Lib.hid ho)
 go_loopw [5, 12] (fun u j wr => ∃ q : Nat, q ≤ ks.length ∧ j = .int .i64 q ∧ wr.ownsRow w1.heap.size 9 1 u q (((ks.take q).map (Vp.zero ns)).map tv) ∧ Below w1.heap.size w1 wr) (fun _ j _ => ks.length - (intOf j).toNat)
 case atStart => exact ⟨0, Nat.zero_le _, rfl, own_nil, Below.refl _ _⟩
 case round =>
  obtain ⟨q, hq, rfl, hu, hb2⟩ := hrel
  replace hu := Lib.hid hu
  by_cases hlt : q < ks.length
  ·obtain ⟨g, cap, hr, hc, hg⟩ := nat_row ho.out hlt
   obtain ⟨rfl, _, rfl⟩ := Value.slice.inj hr
   have c0 := (hb2.cell (p := ⟨g, q, none⟩) hg).trans hc
   have hk := HG.out _ (List.getElem_mem hlt)
   have HT := Lib.hid (show ks.take (q + 1) = ks.take q ++ [ks[q]] from List.take_succ_eq_append_getElem hlt)
   have hB := below_then hb1 hb2
   generalize ks[q] = k at c0 hk HT
   have HZ := Lib.hid (ih k b vv full wr hk.2 (by omega) (hb.below hB) (hn.below hB) (hv.below hB hv.six))
   have hlti : (q : Int) < (ks.length : Int) := by omega
   clear hc hr
   go_wp2_with (first
    | (go_at_call 131; refine HZ.out.mono ?_; rintro e w3 ⟨rfl, hb3⟩)
    | (at_builtin; refine wp_app1 rfl _ _ 39 9 rfl w1.heap.size 16 (.string ⟨#[]⟩) Tryz.underlying39 info_string rfl _ _ _ rfl rfl rfl (own_below hu.out hb3) (by omega) (by omega) (Nat.le_trans hb2.size hb3.size) ?_; intro v4 w4 ho4 hb4 hg4))
   refine ⟨⟨q + 1, by omega, by go_num, ?_, (below_then hb2 hb3).trans hb4⟩, by simp [intOf]; omega⟩
   rw [HT.out, List.map_append, List.map_append]
   exact ho4
  ·obtain rfl : q = ks.length := by omega
   have hz := hu.out
   rw [List.take_length] at hz
   go_wp2
   go_ret
   exact ⟨_, rfl, own_weak hz hb1.size, below_then hb1 hb2⟩

theorem zero_size {ns : List Tp.Nd} (hm : Tp.may ns = true) {i : Nat} (hi : i < ns.length) : (Vp.zero ns i).length ≤ 65536 := Vp.fit_len (Vp.zero_fit hm _ i hi (Nat.le_refl _)).1
set_option maxHeartbeats 1600000 in
theorem zero_succ (ns : List Tp.Nd) (hm : Tp.may ns = true) (n : Nat) (ih : ZeroOK ns n) : ZeroOK ns (n + 1) := by
 intro i b vv full W hi hin hb hn hv
 have hzs := zero_size hm hi
 have HE := Lib.hid (Vp.zero_eq ns hm i hi)
 have hb1 : Below W.heap.size W (W.alloc (.cells #[.int .i64 0, .int .i64 0, .bool false] 47)) := (Below.refl _ _).alloc (Nat.le_refl _) _
 have hB : ∀ a b c, Below W.heap.size W (W.alloc (.cells #[.int .i64 a, .int .i64 b, .bool c] 47)) := fun _ _ _ => (Below.refl _ _).alloc (Nat.le_refl _) _
 have HB := Lib.hid hB
 clear hB hb1
 have c0 := hb.c0
 have hn' := hn
 obtain ⟨a, c, rfl, hc, hmx, h3⟩ := hn'
 obtain ⟨bk, o, rfl, hbk, hcell⟩ := h3 (by intro e; rw [e] at hi; exact Nat.not_lt_zero _ hi)
 obtain ⟨g0, g1, g2⟩ := hcell i _ (List.getElem?_eq_getElem hi)
 have hk0 : (ns[i]).kind = Tp.kindOf ns i := by unfold Tp.kindOf; rw [List.getD_eq_getElem?_getD, List.getElem?_eq_getElem hi]; rfl
 have hn0 : (ns[i]).null = Vp.isNull ns i := by unfold Vp.isNull; rw [List.getD_eq_getElem?_getD, List.getElem?_eq_getElem hi]; rfl
 have hkind := Vp.may_kind ns hm i hi
 rw [hk0] at g0
 rw [hn0] at g2
 unfold maxLen at hmx
 have HN := Lib.hid hn
 have HBl := Lib.hid hb
 have HVv := Lib.hid hv
 clear hcell h3 hk0 hn0 hn hb hv
 generalize (ns[i]).parent = pr at g1
 obtain ⟨z, hz⟩ : ∃ z, Vp.zero ns i = z := ⟨_, rfl⟩
 rw [hz] at HE hzs ⊢
 clear hz
 have HK := Lib.hid (fun W' (h : Below W.heap.size W W') => zeros_calls ns n ih hm i b _ full W' hi hin (HBl.out.below h) (HN.out.below h) (HVv.out.below h HVv.out.six))
 cases hnu : Vp.isNull ns i with
 | true =>
  rw [hnu] at g2
  rw [hnu, if_pos rfl] at HE
  go_enter Tryz.func131, Tryz.ntmps131
  go_wp2_with (go_at_call 116; refine (null_calls _).mono ?_; rintro e w' ⟨rfl, rfl⟩)
  go_ret
  exact ⟨by rw [HE.out]; rfl, HB.out _ _ _⟩
 | false =>
  rw [hnu] at g2
  rw [hnu, if_neg (by decide)] at HE
  obtain ⟨kd, hkd⟩ : ∃ kd, Tp.kindOf ns i = kd := ⟨_, rfl⟩
  rw [hkd] at g0 HE hkind
  clear hkd hnu
  by_cases k0 : kd = 0
  ·subst k0
   rw [if_pos rfl] at HE
   have HI := Lib.hid (fun W' (h : Below W.heap.size W W') => int_calls 0 W' (HVv.out.below h HVv.out.six) (by decide) (by decide))
   go_enter Tryz.func131, Tryz.ntmps131
   go_wp2_with (go_at_call 136; refine (HI.out _ (HB.out _ _ _)).mono ?_; rintro e w' ⟨rfl, hb2⟩)
   go_ret
   exact ⟨by rw [HE.out]; rfl, below_then (HB.out _ _ _) hb2⟩
  by_cases k1 : kd = 1
  ·subst k1
   rw [if_neg (by decide), if_pos rfl] at HE
   go_enter Tryz.func131, Tryz.ntmps131
   go_wp2_with (go_at_call 96; refine (bool_calls false _).mono ?_; rintro e w' ⟨rfl, rfl⟩)
   go_ret
   exact ⟨by rw [HE.out]; rfl, HB.out _ _ _⟩
  by_cases k2 : kd = 2
  ·subst k2
   rw [if_neg (by decide), if_neg (by decide), if_pos rfl] at HE
   have HI := Lib.hid (fun W' (h : Below W.heap.size W W') => str_calls [] W' (HVv.out.below h HVv.out.six) (by decide))
   go_enter Tryz.func131, Tryz.ntmps131
   go_wp2_with (go_at_call 138; refine (HI.out _ (HB.out _ _ _)).mono ?_; rintro e w' ⟨rfl, hb2⟩)
   go_ret
   exact ⟨by rw [HE.out]; rfl, below_then (HB.out _ _ _) hb2⟩
  by_cases k3 : kd = 3
  ·subst k3
   rw [if_neg (by decide), if_neg (by decide), if_neg (by decide), if_pos rfl] at HE
   have HI := Lib.hid (fun W' => list_calls (.slice none 0 0) [] W' ⟨none, 0, rfl, Nat.le_refl _, by decide, fun h => absurd rfl h⟩ (by decide) (by decide))
   go_enter Tryz.func131, Tryz.ntmps131
   go_wp2_with (go_at_call 139; refine (HI.out _).mono ?_; rintro e w' ⟨rfl, hb2⟩)
   go_ret
   exact ⟨by rw [HE.out]; rfl, below_then (HB.out _ _ _) hb2⟩
  ·obtain rfl : kd = 4 := by omega
   rw [if_neg (by decide), if_neg (by decide), if_neg (by decide), if_neg (by decide)] at HE
   have hjl : (Vp.join ((Tp.kids ns (i : Int)).map (Vp.zero ns))).length ≤ 65536 := by
    have := HE.out
    rw [this] at hzs
    simp [Vp.struct] at hzs
    omega
   have hkm := Vp.kids_many hm i
   have hl8 := (Vp.may_len ns hm).2
   obtain ⟨zs, hzs⟩ : ∃ zs, (Tp.kids ns (i : Int)).map (Vp.zero ns) = zs := ⟨_, rfl⟩
   have hzl : (Tp.kids ns (i : Int)).length = zs.length := by rw [← hzs, List.length_map]
   rw [hzl] at HK hkm
   rw [hzs] at HK HE hjl
   clear hzs hzl
   go_enter Tryz.func131, Tryz.ntmps131
   go_wp2_with (first
    | (go_at_call 103; refine (HK.out _ (HB.out _ _ _)).mono ?_; rintro e w1 ⟨r, rfl, ho, hb2⟩; obtain ⟨ra, rc, rfl⟩ := own_slice ho; replace ho := Lib.hid ho)
    | (go_at_call 140; refine (struct_calls _ zs _ (own_texts ho.out) (by omega) (by omega)).mono ?_; rintro e w2 ⟨rfl, hb3⟩))
   go_ret
   exact ⟨by rw [HE.out]; rfl, below_then (below_then (HB.out _ _ _) hb2) hb3⟩
theorem zero_all (ns : List Tp.Nd) (hm : Tp.may ns = true) : ∀ n, ZeroOK ns n
 | 0 => fun i b vv full W hi h => by omega
 | n + 1 => zero_succ ns hm n (zero_all ns hm n)
theorem bzeros_calls (ns : List Tp.Nd) (hm : Tp.may ns = true) (i b : Nat) (vv : Value) (full : Bool) (W : World) (hi : i < ns.length) (hb : BldAt W b vv full) (hn : NodesAt W vv ns) (hv : Vars W) :
  Calls Tryz.prog 103 #[.pointer (some ⟨b, 0, none⟩), .int .i64 (i : Int)] W fun e w' => ∃ r, e = .returned r ∧ w'.ownsRow W.heap.size 9 1 r (Tp.kids ns i).length (((Tp.kids ns i).map (Vp.zero ns)).map tv) ∧ Below W.heap.size W w' :=
 zeros_calls ns ns.length (zero_all ns hm _) hm i b vv full W hi (by omega) hb hn hv
end Go.Proofs.YtobhjlchpnpleaaGreatDoor
