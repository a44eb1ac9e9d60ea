/- Several texts in one: BldC, ArrO. -/
import Derived.Test.YtobhjlchpnpleaaGreatDoorCa10
import Derived.Lib.AppendZerosOnto
import Derived.Lib.SliceRun
import Derived.Lib.Walk
import Derived.Test.YtobhjlchpnpleaaGreatDoorCa7
import Derived.Test.YtobhjlchpnpleaaGreatDoorCa1
/- Package build: slices.Grow, Concat, IndexFunc, ContainsFunc; the closures of build, walked. -/
namespace Go.Proofs.YtobhjlchpnpleaaGreatDoor
open Go.RowKit
set_option linter.unusedVariables false
set_option linter.unusedSimpArgs false

set_option maxHeartbeats 4000000 in
set_option maxRecDepth 100000 in
/-- slices.Grow of nothing. -/
theorem grow_calls (n : Nat) (w : World) (hn : n ≤ 1048576) :
  Calls Tryz.prog 130 #[.slice none 0 0, .int .i64 (n : Int)] w fun e w' => ∃ r, e = .returned r ∧ w'.ownsRow w.heap.size 9 1 r 0 [] ∧ Below w.heap.size w w' := by
 rcases Nat.eq_zero_or_pos n with h0 | h0
 ·subst h0
  go_enter Tryz.func130, Tryz.ntmps130
  go_wp2
  go_ret
  exact ⟨_, rfl, own_nil, Below.refl _ _⟩
 ·obtain ⟨i0, hi, hz0, hz1, hz2⟩ := info_parts info_string
  have hz3 : i0.zero = some (.string ⟨#[]⟩) := hz0
  have hold : (Builtin.firstCells i0.size 0 (.slice none 0 0)).run Tryz.prog w.drew = .ok ([] : List Value).toArray w.drew := rfl
  have hgr : ∀ ty, (Builtin.append_ #[39, 3] ty #[.slice none 0 0, .int .i64 (n : Int)]).run Tryz.prog w = .ok (.slice (some ⟨w.heap.size, 0, none⟩) n (grownCap w n 0 9)) (w.drew.alloc (.cells (([] : List Value).toArray ++ Builtin.zeroCells (Value.string ⟨#[]⟩).cells n ++ Builtin.zeroCells (Value.string ⟨#[]⟩).cells (grownCap w n 0 9 - n)) 9)) := fun ty => by
   have h := Lib.run_append_grow_zeros w 39 3 ty 9 i0 (.string ⟨#[]⟩) .i64 .i64 Tryz.underlying39 Tryz.underlying3 hi hz0 none 0 0 [] hold n h0 (by rw [hz1]; decide) (by omega) (by omega) (by rw [hz2]; omega) (by
    refine growslice_fits (by omega) ?_
    rw [hz2]; omega)
   simpa using h
  have hGn : n ≤ grownCap w n 0 9 := grownCap_ge w _ _ _
  have hG63 := grownCap_le_maxLen w n 0 9 (by unfold maxLen; omega)
  obtain ⟨G, hG⟩ : ∃ G, G = grownCap w n 0 9 := ⟨_, rfl⟩
  rw [← hG] at hgr hGn hG63
  unfold maxLen at hG63
  have HG := Lib.hid hG
  clear hG hold
  have hi0 : ¬ ((n : Int) < 0) := by omega
  have hi1 : (n : Int) > 0 := by omega
  obtain ⟨cs, hcs⟩ : ∃ cs, ([] : List Value).toArray ++ Builtin.zeroCells (Value.string ⟨#[]⟩).cells n ++ Builtin.zeroCells (Value.string ⟨#[]⟩).cells (G - n) = cs := ⟨_, rfl⟩
  rw [hcs] at hgr
  have hsz : cs.size = G := by
   rw [← hcs]
   simp [Builtin.zeroCells, Value.cells]
   omega
  have HS := Lib.hid hsz
  clear hcs hsz
  go_enter Tryz.func130, Tryz.ntmps130
  go_wp2_with (at_builtin; refine Lib.wpList_append_run _ rfl _ _ _ _ rfl _ _ rfl rfl _ _ (hgr _) ?_)
  go_ret
  refine ⟨_, rfl, ⟨rfl, .inr ⟨w.heap.size, G, cs, rfl, Nat.le_refl _, ?_, by omega, by unfold maxLen; omega, by rw [HS.out, Nat.mul_one], by simp⟩⟩, below_alloc (below_drew (Below.refl _ _)) _⟩
  exact heap_alloc_new w.drew _
theorem flatten_take_succ (rows : List (List Vp.Txt)) (k : Nat) (h : k < rows.length) : (rows.take (k + 1)).flatten = (rows.take k).flatten ++ rows[k] := by
 rw [List.take_succ_eq_append_getElem h, List.flatten_append]; simp
theorem flatten_take_le (rows : List (List Vp.Txt)) (k : Nat) : (rows.take k).flatten.length ≤ rows.flatten.length := by
 have h : rows.flatten = (rows.take k).flatten ++ (rows.drop k).flatten := by rw [← List.flatten_append, List.take_append_drop]
 rw [h, List.length_append]; omega
/-- The cells of an own row of texts. -/
theorem own_srcT {w : World} {b : Nat} {a : Option Addr} {c : Nat} {row : List Vp.Txt} (h : w.ownsRow b 9 1 (.slice a row.length c) row.length (row.map tv)) :
  row.length ≠ 0 → ∃ ad, a = some ad ∧ ∀ (j : Nat) u, (row.map tv)[j]? = some u → w.cell? (ad.add j) = some u := fun hn => by
 obtain ⟨g, cap, hv, _, _, _, hrow⟩ := own_row h (by omega)
 obtain ⟨rfl, _, rfl⟩ := Value.slice.inj hv
 exact ⟨_, rfl, fun j u hu => by rw [add_zero_]; exact hrow.cell hu⟩
set_option maxHeartbeats 4000000 in
set_option maxRecDepth 100000 in
theorem concat_calls (v : Value) (base : Nat) (rows : List (List Vp.Txt)) (W : World) (hr : RowsOwn W base v rows) (hn : rows.length ≤ 65536) (hs : rows.flatten.length ≤ 65536) :
  Calls Tryz.prog 100 #[v] W fun e w' => ∃ r, e = .returned r ∧ w'.ownsRow W.heap.size 9 1 r rows.flatten.length (rows.flatten.map tv) ∧ Below W.heap.size W w' := by
 have HR := Lib.hid hr
 obtain ⟨ra, rc, rfl⟩ := hr.slice
 clear hr
 obtain ⟨N, hN⟩ : ∃ N, rows.flatten.length = N := ⟨_, rfl⟩
 have HN := Lib.hid hN
 rw [hN] at hs ⊢
 clear hN
 have HG := Lib.hid (grow_calls N W (by omega))
 go_enter Tryz.func100, Tryz.ntmps100
 go_wp2
 go_loopw [3, 11] (fun z i wr => ∃ k : Nat, k ≤ rows.length ∧ i = .int .i64 k ∧ z = .int .i64 ((rows.take k).flatten.length : Nat) ∧ W = wr) (fun _ i _ => rows.length - (intOf i).toNat)
 case atStart => exact ⟨0, Nat.zero_le _, rfl, by simp, rfl⟩
 case round =>
  obtain ⟨k, hk, rfl, rfl, rfl⟩ := hrel
  by_cases hlt : k < rows.length
  ·obtain ⟨gg, cap, c, hv, hc, ho, hg2⟩ := HR.out.at (List.getElem?_eq_getElem hlt)
   obtain ⟨rfl, _, rfl⟩ := Value.slice.inj hv
   have hst := congrArg List.length (flatten_take_succ rows k hlt)
   rw [List.length_append] at hst
   have hle := flatten_take_le rows (k + 1)
   rw [HN.out] at hle
   obtain ⟨ca, cc, rfl⟩ := own_slice ho
   clear ho hv
   generalize rows[k].length = m at hst hc
   generalize (rows.take k).flatten.length = s0 at hst
   have HST := Lib.hid hst
   have hb1 : s0 + m ≤ 65536 := by omega
   have hb2 : ¬ ((s0 : Int) + (m : Int) < 0) := by omega
   have hlti : (k : Int) < (rows.length : Int) := by omega
   clear hst hle
   go_wp2
   exact ⟨⟨k + 1, by omega, by go_num, by rw [HST.out]; simp, trivial⟩, by simp [intOf]; omega⟩
  ·obtain rfl : k = rows.length := by omega
   have hz : (rows.take rows.length).flatten.length = N := by rw [List.take_length, HN.out]
   rw [hz]
   go_wp2_with (go_at_call 130; refine HG.out.mono ?_; rintro e w1 ⟨r, rfl, ho1, hb1⟩)
   have HB1 := Lib.hid hb1
   go_loopw [6, 27] (fun u i wr => ∃ k : Nat, k ≤ rows.length ∧ i = .int .i64 k ∧ wr.ownsRow W.heap.size 9 1 u (rows.take k).flatten.length ((rows.take k).flatten.map tv) ∧ Below W.heap.size W wr) (fun _ i _ => rows.length - (intOf i).toNat)
   case atStart => exact ⟨0, Nat.zero_le _, rfl, ho1, hb1⟩
   case round =>
    obtain ⟨k, hk, rfl, hu, hb⟩ := hrel
    replace hu := Lib.hid hu
    by_cases hlt : k < rows.length
    ·obtain ⟨gg, cap, c, hv, hc, ho, hg2⟩ := HR.out.at (List.getElem?_eq_getElem hlt)
     obtain ⟨rfl, _, rfl⟩ := Value.slice.inj hv
     have c0 := (hb.cell (p := ⟨gg, k, none⟩) hg2).trans hc
     have HT := Lib.hid (flatten_take_succ rows k hlt)
     have hst := congrArg List.length (flatten_take_succ rows k hlt)
     rw [List.length_append] at hst
     have hle := flatten_take_le rows (k + 1)
     rw [HN.out] at hle
     have ho2 := own_below ho (below_then (Below.refl _ _) hb)
     obtain ⟨ca, cc, rfl⟩ := own_slice ho
     have HSR := Lib.hid (own_srcT ho2)
     clear hv hc ho ho2
     obtain ⟨row, hrow⟩ : ∃ row, rows[k] = row := ⟨_, rfl⟩
     rw [hrow] at HT HSR hst c0
     clear hrow
     have hb2 : (rows.take k).flatten.length + row.length ≤ 65536 := by omega
     have hlti : (k : Int) < (rows.length : Int) := by omega
     have HST := Lib.hid hst
     clear hst hle
     go_wp2_with (at_builtin; refine wp_appS rfl _ _ 39 9 rfl W.heap.size 1 16 (.string ⟨#[]⟩) Tryz.underlying39 info_string rfl (by decide) _ _ _ rfl hu.out ca row.length cc (row.map tv) rfl (by simp) HSR.out (tvs_one row) (by omega) (by omega) hb.size ?_; intro v2 w3 ho3 hb3 hg3)
     refine ⟨⟨k + 1, by omega, by go_num, ?_, hb.trans hb3⟩, by simp [intOf]; omega⟩
     rw [HT.out, List.length_append, List.map_append]
     exact ho3
    ·obtain rfl : k = rows.length := by omega
     have hu2 := hu.out
     rw [List.take_length, HN.out] at hu2
     go_wp2
     go_ret
     exact ⟨_, rfl, hu2, hb⟩

set_option maxRecDepth 100000 in
set_option maxHeartbeats 1600000 in
theorem indexF_calls (v : Value) (xs : List Vp.Txt) (p : Vp.Txt → Bool) (W : World) (g : FuncId) (caps : Array Value) (c1 c2 : Value) (hc : caps = #[c1, c2]) (hx : TextsAt W v xs) (hg : ∀ xs W, (callFunc g xs).run Tryz.prog W = .ok (.enter g xs) W)
  (hstep : ∀ x ∈ xs, ∀ W', Below W.heap.size W W' → Calls Tryz.prog g #[tv x, c1, c2] W' fun e w' => e = .returned (.bool (p x)) ∧ Below W'.heap.size W' w') :
  Calls Tryz.prog 91 #[v, .func (.func g) #[] caps] W fun e w' => ∃ r : Int, e = .returned (.int .i64 r) ∧ (0 ≤ r ↔ xs.any p = true) ∧ Below W.heap.size W w' := by
 subst hc
 obtain ⟨a, c, rfl, hcap, hm, h3⟩ := hx
 unfold maxLen at hm
 replace h3 := Lib.hid h3
 have HS := Lib.hid hstep
 clear hstep
 go_enter Tryz.func91, Tryz.ntmps91
 go_wp2
 go_loopw [5, 8] (fun _ i wr => ∃ k : Nat, k ≤ xs.length ∧ i = .int .i64 k ∧ Below W.heap.size W wr ∧ (∀ (j : Nat) x, j < k → xs[j]? = some x → p x = false)) (fun _ i _ => xs.length - (intOf i).toNat)
 case atStart => exact ⟨0, Nat.zero_le _, rfl, Below.refl _ _, fun j x h => absurd h (Nat.not_lt_zero _)⟩
 case round =>
  obtain ⟨k, hk, rfl, hb, hall⟩ := hrel
  have HA := Lib.hid hall
  clear hall
  by_cases hlt : k < xs.length
  ·obtain ⟨bk, o, rfl, hbk, hcell⟩ := h3.out (by intro e; rw [e] at hlt; exact Nat.not_lt_zero _ hlt)
   have c0 := (hb.cell (p := ⟨bk, o + k, none⟩) hbk).trans (hcell k _ (List.getElem?_eq_getElem hlt))
   have HX := Lib.hid (List.getElem?_eq_getElem hlt)
   have HC := Lib.hid (HS.out xs[k] (List.getElem_mem hlt) wr hb)
   have hlti : (k : Int) < (xs.length : Int) := by omega
   clear hcell
   generalize xs[k] = x at c0 HX HC
   cases hp : p x with
   | true =>
    rw [hp] at HC
    have HP := Lib.hid hp
    clear hp
    go_wp2_with (refine HC.out.mono ?_; rintro e w1 ⟨rfl, hb1⟩)
    go_ret
    refine ⟨_, rfl, ⟨fun _ => ?_, fun _ => by omega⟩, below_then hb hb1⟩
    rw [List.any_eq_true]
    exact ⟨x, List.mem_of_getElem? HX.out, HP.out⟩
   | false =>
    rw [hp] at HC
    have HP := Lib.hid hp
    clear hp
    go_wp2_with (refine HC.out.mono ?_; rintro e w1 ⟨rfl, hb1⟩)
    refine ⟨⟨k + 1, by omega, by go_num, below_then hb hb1, fun j y hj hy => ?_⟩, by simp [intOf]; omega⟩
    by_cases hjk : j = k
    ·rw [hjk, HX.out] at hy
     rw [← Option.some.inj hy]
     exact HP.out
    ·exact HA.out j y (by omega) hy
  ·obtain rfl : k = xs.length := by omega
   go_wp2
   go_ret
   refine ⟨_, rfl, ⟨fun h => absurd h (by omega), fun h => ?_⟩, hb⟩
   rw [List.any_eq_true] at h
   obtain ⟨x, hx, hp⟩ := h
   obtain ⟨j, hj⟩ := List.getElem?_of_mem hx
   have := HA.out j x (List.getElem?_eq_some_iff.1 hj).1 hj
   rw [hp] at this
   cases this
theorem containsF_calls (v : Value) (xs : List Vp.Txt) (p : Vp.Txt → Bool) (W : World) (g : FuncId) (caps : Array Value) (c1 c2 : Value) (hc : caps = #[c1, c2]) (hx : TextsAt W v xs) (hg : ∀ xs W, (callFunc g xs).run Tryz.prog W = .ok (.enter g xs) W)
  (hstep : ∀ x ∈ xs, ∀ W', Below W.heap.size W W' → Calls Tryz.prog g #[tv x, c1, c2] W' fun e w' => e = .returned (.bool (p x)) ∧ Below W'.heap.size W' w') :
  Calls Tryz.prog 61 #[v, .func (.func g) #[] caps] W fun e w' => e = .returned (.bool (xs.any p)) ∧ Below W.heap.size W w' := by
 have HI := Lib.hid (indexF_calls v xs p W g caps c1 c2 hc hx hg hstep)
 obtain ⟨a, c, rfl, _, _, _⟩ := hx
 subst hc
 clear hstep hg
 go_enter Tryz.func61, Tryz.ntmps61
 go_wp2_with (go_at_call 91; refine HI.out.mono ?_; rintro e w' ⟨r, rfl, hr, hb⟩; have HR := Lib.hid hr; clear hr)
 go_ret
 exact ⟨ret_bool (by rw [Bool.eq_iff_iff, decide_eq_true_eq, HR.out]), hb⟩

/-- What does not fit. -/
theorem odd_calls (B1 B2 : Nat) (vv : Value) (ns : List Tp.Nd) (x : Int) (v : Vp.Txt) (W : World) (h1 : W.cell? ⟨B1, 0, none⟩ = some vv) (h2 : W.cell? ⟨B2, 0, none⟩ = some (.int .i64 x)) (hn : NodesAt W vv ns) (hv : Vars W) (hx : x ≤ 9223372036854775807) (hl : v.length ≤ 140737488351232) :
  Calls Tryz.prog 58 #[tv v, .pointer (some ⟨B1, 0, none⟩), .pointer (some ⟨B2, 0, none⟩)] W fun e w' => e = .returned (.bool (!Vp.fits ns (v.length + 1) x v)) ∧ Below W.heap.size W w' := by
 have HC := Lib.hid (fits_calls vv ns x v W hn hv hx hl)
 clear hn hv
 go_enter Tryz.func58, Tryz.ntmps58
 go_wp2_with (go_at_call 59; refine HC.out.mono ?_; rintro e w' ⟨rfl, hb⟩)
 go_ret
 exact ⟨rfl, hb⟩
theorem enter_odd : ∀ xs W, (callFunc 58 xs).run Tryz.prog W = .ok (.enter 58 xs) W := fun _ _ => by kernel_rfl
theorem enter_many1 : ∀ xs W, (callFunc 98 xs).run Tryz.prog W = .ok (.enter 98 xs) W := fun _ _ => by kernel_rfl
theorem enter_many2 : ∀ xs W, (callFunc 101 xs).run Tryz.prog W = .ok (.enter 101 xs) W := fun _ _ => by kernel_rfl
theorem many1_calls (row : List Vp.Txt) (c : Value) (W : World) (hr : ∃ d : Vp.Txt, row = [d]) (ho : W.ownsRow 0 9 1 c row.length (row.map tv)) :
  Calls Tryz.prog 98 #[c] W fun e w' => e = .returned (.int .i64 (Vp.size0 row : Nat)) ∧ W = w' := by
 obtain ⟨d, rfl⟩ := hr
 obtain ⟨g, cap2, hcv, _, _, _, hrow⟩ := own_row (n := 1) ho (by decide)
 subst hcv
 have d0 := hrow.cell (i := 0) (v := tv d) rfl
 have hz := mk_size d
 go_enter Tryz.func98, Tryz.ntmps98
 go_wp2
 go_ret
 exact ⟨rfl, rfl⟩
theorem many2_calls (row : List Vp.Txt) (c : Value) (W : World) (ho : W.ownsRow 0 9 1 c row.length (row.map tv)) :
  Calls Tryz.prog 101 #[c] W fun e w' => e = .returned (.int .i64 (row.length : Nat)) ∧ W = w' := by
 obtain ⟨a, cc, rfl⟩ := own_slice ho
 clear ho
 go_enter Tryz.func101, Tryz.ntmps101
 go_wp2
 go_ret
 exact ⟨rfl, rfl⟩
end Go.Proofs.YtobhjlchpnpleaaGreatDoor

/- Arrays of the call's own memory. -/
namespace Go.Proofs.YtobhjlchpnpleaaGreatDoor
open Go.RowKit
set_option linter.unusedVariables false
set_option linter.unusedSimpArgs false

mutual
/-- The kids' slice is a row of the call's own, and so are theirs, in blocks of which A holds; none is written over by a write to one above it. -/
def KidsOwn (w : World) : (Nat → Prop) → List Arr → Value → Prop
 | A, ks, k => ∃ cs : List Value, w.ownsRow 0 27 7 k ks.length cs ∧ (∀ g, k.ownBlock = some g → A g) ∧ CellsOwn w (fun g => A g ∧ k.ownBlock ≠ some g) ks cs
def CellsOwn (w : World) : (Nat → Prop) → List Arr → List Value → Prop
 | _, [], cs => cs = []
 | A, .mk l f n v e d ks :: r, cs => ∃ k rest, cs = .int .i64 l :: .int .i64 f :: .int .i64 n :: tv v :: tv e :: tv d :: k :: rest ∧ KidsOwn w A ks k ∧ CellsOwn w A r rest
end
def ArrOwn (w : World) (A : Nat → Prop) : Arr → Value → Prop
 | .mk l f n v e d ks, u => ∃ k, u = arrV l f n v e d k ∧ KidsOwn w A ks k

theorem own_same {w w' : World} {B n s : Nat} {e : TypeId} {v : Value} {xs : List Value} (h : w.ownsRow B e s v n xs) (hs : ∀ g, v.ownBlock = some g → (∃ cur, w.heap[g]? = some (.cells cur e (0, 0))) → w'.heap[g]? = w.heap[g]?) : w'.ownsRow B e s v n xs := by
 obtain ⟨h1, h2⟩ := h
 refine ⟨h1, h2.imp id ?_⟩
 rintro ⟨g, cap, cur, rfl, h4, h5, h6⟩
 exact ⟨g, cap, cur, rfl, h4, (hs g rfl ⟨cur, h5⟩).trans h5, h6⟩
mutual
theorem KidsOwn.same {w w' : World} : ∀ (ks : List Arr) (A : Nat → Prop) (k : Value), (∀ g, A g → (∃ cur, w.heap[g]? = some (.cells cur 27 (0, 0))) → w'.heap[g]? = w.heap[g]?) → KidsOwn w A ks k → KidsOwn w' A ks k
 | ks, A, k, hs, h => by
  rw [KidsOwn] at h ⊢
  obtain ⟨cs, h1, h2, h3⟩ := h
  exact ⟨cs, own_same h1 (fun g hg hc => hs g (h2 g hg) hc), h2, CellsOwn.same ks _ cs (fun g hg hc => hs g hg.1 hc) h3⟩
theorem CellsOwn.same {w w' : World} : ∀ (ks : List Arr) (A : Nat → Prop) (cs : List Value), (∀ g, A g → (∃ cur, w.heap[g]? = some (.cells cur 27 (0, 0))) → w'.heap[g]? = w.heap[g]?) → CellsOwn w A ks cs → CellsOwn w' A ks cs
 | [], A, cs, _, h => by rw [CellsOwn] at h ⊢; exact h
 | .mk l f n v e d ks :: r, A, cs, hs, h => by
  rw [CellsOwn] at h ⊢
  obtain ⟨k, rest, rfl, h1, h2⟩ := h
  exact ⟨k, rest, rfl, KidsOwn.same ks A k hs h1, CellsOwn.same r A rest hs h2⟩
end
mutual
theorem KidsOwn.weak {w : World} : ∀ (ks : List Arr) (A A' : Nat → Prop) (k : Value), (∀ g, A g → g < w.heap.size → A' g) → KidsOwn w A ks k → KidsOwn w A' ks k
 | ks, A, A', k, hs, h => by
  rw [KidsOwn] at h ⊢
  obtain ⟨cs, h1, h2, h3⟩ := h
  exact ⟨cs, h1, fun g hg => hs g (h2 g hg) (h1.lt g hg).2, CellsOwn.weak ks _ _ cs (fun g hg hc => ⟨hs g hg.1 hc, hg.2⟩) h3⟩
theorem CellsOwn.weak {w : World} : ∀ (ks : List Arr) (A A' : Nat → Prop) (cs : List Value), (∀ g, A g → g < w.heap.size → A' g) → CellsOwn w A ks cs → CellsOwn w A' ks cs
 | [], A, A', cs, _, h => by rw [CellsOwn] at h ⊢; exact h
 | .mk l f n v e d ks :: r, A, A', cs, hs, h => by
  rw [CellsOwn] at h ⊢
  obtain ⟨k, rest, rfl, h1, h2⟩ := h
  exact ⟨k, rest, rfl, KidsOwn.weak ks A A' k hs h1, CellsOwn.weak r A A' rest hs h2⟩
end
theorem KidsOwn.nil (w : World) (A : Nat → Prop) : KidsOwn w A [] (.slice none 0 0) := by
 rw [KidsOwn]
 exact ⟨[], ⟨rfl, .inl ⟨rfl, rfl⟩⟩, fun g hg => by simp [Value.ownBlock] at hg, by rw [CellsOwn]⟩
theorem KidsOwn.slice {w : World} {A : Nat → Prop} {ks : List Arr} {k : Value} (h : KidsOwn w A ks k) : ∃ a c, k = .slice a ks.length c := by
 rw [KidsOwn] at h
 obtain ⟨cs, h1, _⟩ := h
 exact own_sliceN h1
theorem CellsOwn.snoc {w : World} {l f n : Int} {v e d : Vp.Txt} {ys : List Arr} {k : Value} : ∀ (ks : List Arr) (A : Nat → Prop) (cs : List Value), CellsOwn w A ks cs → KidsOwn w A ys k → CellsOwn w A (ks ++ [.mk l f n v e d ys]) (cs ++ [.int .i64 l, .int .i64 f, .int .i64 n, tv v, tv e, tv d, k])
 | [], A, cs, h, hk => by
  rw [CellsOwn] at h
  subst h
  rw [List.nil_append, List.nil_append, CellsOwn]
  exact ⟨k, [], rfl, hk, by rw [CellsOwn]⟩
 | .mk l' f' n' v' e' d' ks' :: r, A, cs, h, hk => by
  rw [CellsOwn] at h
  obtain ⟨k', rest, rfl, h1, h2⟩ := h
  rw [List.cons_append, CellsOwn]
  exact ⟨k', rest ++ [.int .i64 l, .int .i64 f, .int .i64 n, tv v, tv e, tv d, k], rfl, h1, CellsOwn.snoc r A rest h2 hk⟩
/-- A kid more, behind an append onto the row. -/
theorem KidsOwn.snoc {w w' : World} {A : Nat → Prop} {ks ys : List Arr} {kv kv' k : Value} {cs : List Value} {l f n : Int} {v e d : Vp.Txt}
  (h1 : w.ownsRow 0 27 7 kv ks.length cs) (h3 : CellsOwn w (fun g => A g ∧ kv.ownBlock ≠ some g) ks cs)
  (hk : KidsOwn w (fun g => A g ∧ kv.ownBlock ≠ some g) ys k)
  (ho : w'.ownsRow 0 27 7 kv' (ks.length + 1) (cs ++ [.int .i64 l, .int .i64 f, .int .i64 n, tv v, tv e, tv d, k])) (hg : w.grownBy w' kv.ownBlock) (hb : kv'.ownBlock = kv.ownBlock ∨ ∃ g, kv'.ownBlock = some g ∧ w.heap.size ≤ g) (hA : ∀ g, kv'.ownBlock = some g → A g) :
  KidsOwn w' A (ks ++ [.mk l f n v e d ys]) kv' := by
 have h1' : ∀ g, (A g ∧ kv.ownBlock ≠ some g) → g < w.heap.size → ((A g ∧ kv.ownBlock ≠ some g) ∧ kv'.ownBlock ≠ some g) := fun g h hlt => ⟨h, fun e => by
  rcases hb with hb | ⟨g', hb, hle⟩
  ·exact h.2 (hb.symm.trans e)
  ·rw [hb] at e
   have := Option.some.inj e
   omega⟩
 have hsame : ∀ g, ((A g ∧ kv.ownBlock ≠ some g) ∧ kv'.ownBlock ≠ some g) → (∃ cur, w.heap[g]? = some (.cells cur 27 (0, 0))) → w'.heap[g]? = w.heap[g]? := fun g h hc => by
  obtain ⟨cur, hc⟩ := hc
  exact hg.block g (Array.getElem?_eq_some_iff.1 hc).1 (fun e => h.1.2 e.symm)
 have h2' : ∀ g, ((A g ∧ kv.ownBlock ≠ some g) ∧ kv'.ownBlock ≠ some g) → g < w'.heap.size → (A g ∧ kv'.ownBlock ≠ some g) := fun g h _ => ⟨h.1.1, h.2⟩
 rw [KidsOwn]
 exact ⟨_, by rw [List.length_append]; exact ho, hA, CellsOwn.snoc ks _ cs (CellsOwn.weak ks _ _ cs h2' (CellsOwn.same ks _ cs hsame (CellsOwn.weak ks _ _ cs h1' h3))) (KidsOwn.weak ys _ _ k h2' (KidsOwn.same ys _ k hsame (KidsOwn.weak ys _ _ k h1' hk)))⟩
/-- One kid in a literal. -/
theorem KidsOwn.one {w : World} {A : Nat → Prop} {ys : List Arr} {k : Value} {l f n : Int} {v e d : Vp.Txt} (hk : KidsOwn w (fun g => A g ∧ g < w.heap.size) ys k) (hA : A w.heap.size) :
  KidsOwn (w.alloc (.cells #[.int .i64 l, .int .i64 f, .int .i64 n, tv v, tv e, tv d, k] 27)) A [.mk l f n v e d ys] (.slice (some ⟨w.heap.size, 0, none⟩) 1 1) := by
 rw [KidsOwn]
 refine ⟨[.int .i64 l, .int .i64 f, .int .i64 n, tv v, tv e, tv d, k], own_litN w 0 _ 7 1 [.int .i64 l, .int .i64 f, .int .i64 n, tv v, tv e, tv d, k] (Nat.zero_le _) rfl (by decide), fun g hg => ?_, ?_⟩
 ·have : w.heap.size = g := by simpa [Value.ownBlock] using hg
  rw [← this]; exact hA
 ·rw [CellsOwn]
  refine ⟨k, [], rfl, ?_, by rw [CellsOwn]⟩
  refine KidsOwn.weak ys _ _ k (fun g hg _ => ⟨hg.1, fun e => ?_⟩) (KidsOwn.same ys _ k (fun g hg _ => Below.heap_alloc w _ g hg.2) hk)
  have : w.heap.size = g := by simpa [Value.ownBlock] using e
  have := hg.2
  omega
theorem KidsOwn.lt {w : World} {A : Nat → Prop} {ks : List Arr} {k : Value} (h : KidsOwn w A ks k) : KidsOwn w (fun g => A g ∧ g < w.heap.size) ks k := KidsOwn.weak ks _ _ k (fun g h1 h2 => ⟨h1, h2⟩) h

/-! Read as arrays. -/
mutual
theorem KidsOwn.at {w : World} : ∀ (ks : List Arr) (A : Nat → Prop) (k : Value), KidsOwn w A ks k → KidsAt w ks k
 | ks, A, k, h => by
  rw [KidsOwn] at h
  rw [KidsAt]
  obtain ⟨cs, h1, _, h3⟩ := h
  obtain ⟨hl, h2⟩ := h1
  rcases h2 with ⟨rfl, hx⟩ | ⟨g, cap, cur, rfl, _, hh, hnc, hm, hcs, htake⟩
  ·exact ⟨none, 0, by rw [hx], by omega, by decide, fun hne => absurd (List.eq_nil_of_length_eq_zero hx) hne⟩
  ·refine ⟨_, cap, rfl, hnc, hm, fun _ => ⟨g, 0, rfl, (Array.getElem?_eq_some_iff.1 hh).1, CellsOwn.at g 0 ks _ cs (fun j u hj => ?_) h3⟩⟩
   have hj2 := (List.getElem?_eq_some_iff.1 hj).1
   rw [Nat.zero_add]
   simp only [World.cell?, hh, Option.isSome_none, Bool.false_eq_true, if_false]
   rw [← Array.getElem?_toList]
   have h4 : (cur.toList.take (ks.length * 7))[j]? = some u := by rw [htake]; exact hj
   rw [List.getElem?_take] at h4
   split at h4
   ·exact h4
   ·cases h4
theorem CellsOwn.at {w : World} (g : Nat) : ∀ (o : Nat) (ks : List Arr) (A : Nat → Prop) (cs : List Value), (∀ (j : Nat) u, cs[j]? = some u → w.cell? ⟨g, o + j, none⟩ = some u) → CellsOwn w A ks cs → CellsAt w g o ks
 | o, [], A, cs, _, _ => by rw [CellsAt]; trivial
 | o, .mk l f n v e d ks :: r, A, cs, hc, h => by
  rw [CellsOwn] at h
  rw [CellsAt]
  obtain ⟨k, rest, rfl, h1, h2⟩ := h
  refine ⟨⟨hc 0 _ rfl, hc 1 _ rfl, hc 2 _ rfl, hc 3 _ rfl, hc 4 _ rfl, hc 5 _ rfl, k, hc 6 _ rfl, KidsOwn.at ks A k h1⟩, CellsOwn.at g (o + 7) r A rest (fun j u hj => ?_) h2⟩
  have := hc (j + 7) u (by simpa using hj)
  rwa [show o + (j + 7) = o + 7 + j by omega] at this
end
theorem ArrOwn.at {w : World} {A : Nat → Prop} {a : Arr} {u : Value} (h : ArrOwn w A a u) : ArrAt w a u := by
 obtain ⟨l, f, n, v, e, d, ks⟩ := a
 obtain ⟨k, rfl, hk⟩ := h
 exact ⟨k, rfl, hk.at⟩
theorem ArrOwn.same {w w' : World} {A : Nat → Prop} {a : Arr} {u : Value} (h : ArrOwn w A a u) (hs : ∀ g, A g → (∃ cur, w.heap[g]? = some (.cells cur 27 (0, 0))) → w'.heap[g]? = w.heap[g]?) : ArrOwn w' A a u := by
 obtain ⟨l, f, n, v, e, d, ks⟩ := a
 obtain ⟨k, rfl, hk⟩ := h
 exact ⟨k, rfl, KidsOwn.same ks A k hs hk⟩
theorem ArrOwn.weak {w : World} {A A' : Nat → Prop} {a : Arr} {u : Value} (h : ArrOwn w A a u) (hs : ∀ g, A g → g < w.heap.size → A' g) : ArrOwn w A' a u := by
 obtain ⟨l, f, n, v, e, d, ks⟩ := a
 obtain ⟨k, rfl, hk⟩ := h
 exact ⟨k, rfl, KidsOwn.weak ks A A' k hs hk⟩
theorem ArrOwn.below {w w' : World} {A : Nat → Prop} {a : Arr} {u : Value} (h : ArrOwn w A a u) (hb : Below w.heap.size w w') : ArrOwn w' A a u :=
 h.same fun g _ hc => by obtain ⟨cur, hc⟩ := hc; exact hb.block g (Array.getElem?_eq_some_iff.1 hc).1
theorem ArrOwn.value {w : World} {A : Nat → Prop} {a : Arr} {u : Value} (h : ArrOwn w A a u) : ∃ k ac cc, k = .slice ac a.kids.length cc ∧ u = arrV a.lay a.off a.len a.valid a.ends a.data k ∧ KidsOwn w A a.kids k := by
 obtain ⟨l, f, n, v, e, d, ks⟩ := a
 obtain ⟨k, rfl, hk⟩ := h
 obtain ⟨ac, cc, rfl⟩ := hk.slice
 exact ⟨_, ac, cc, rfl, rfl, hk⟩
end Go.Proofs.YtobhjlchpnpleaaGreatDoor
