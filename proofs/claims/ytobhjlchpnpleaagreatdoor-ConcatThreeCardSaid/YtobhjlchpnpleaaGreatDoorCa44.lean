/- Several texts in one: Ints, Laid, Law12A, OpenS. -/
import Derived.Test.YtobhjlchpnpleaaGreatDoorCa7
import Derived.Test.YtobhjlchpnpleaaGreatDoorCa1
import Derived.WalkKit
import Derived.Test.YtobhjlchpnpleaaGreatDoorRows
import Derived.Test.YtobhjlchpnpleaaGreatDoorCa4
import Derived.Deep.DeepHandedRow
import Derived.Deep.DeepWitnessRowRef
import Derived.Lib.LaidIn
import Derived.Lib.LaidTab
import Derived.Stop.LaidErr
import Derived.ProofKit
import Derived.SizedLaws
import Derived.Test.YtobhjlchpnpleaaGreatDoorCa42
import Derived.Test.YtobhjlchpnpleaaGreatDoorCa41
import Derived.SliceStrings
import Derived.Deep.SlicePairs
import Derived.Deep.Strs
/- quiverlaw0's lent and copied numbers, walked. -/
namespace Go.Proofs.YtobhjlchpnpleaaGreatDoor
open Go.RowKit
set_option linter.unusedVariables false
set_option linter.unusedSimpArgs false

/-- A slice of numbers. -/
def NumsAt (w : World) (v : Value) (xs : List Int) : Prop :=
 ∃ a c, v = .slice a xs.length c ∧ xs.length ≤ c ∧ c ≤ maxLen ∧ (xs ≠ [] → ∃ bk o, a = some ⟨bk, o, none⟩ ∧ bk < w.heap.size ∧ ∀ (j : Nat) (x : Int), xs[j]? = some x → w.cell? ⟨bk, o + j, none⟩ = some (.int .i64 x))
theorem NumsAt.below {w w' : World} {v : Value} {xs : List Int} (h : NumsAt w v xs) (hb : Below w.heap.size w w') : NumsAt w' v xs := by
 obtain ⟨a, c, rfl, h1, h2, h3⟩ := h
 refine ⟨a, c, rfl, h1, h2, fun hn => ?_⟩
 obtain ⟨bk, o, rfl, hk, hc⟩ := h3 hn
 exact ⟨bk, o, rfl, Nat.lt_of_lt_of_le hk hb.size, fun j x hx => by rw [hb.cell (p := ⟨bk, o + j, none⟩) hk]; exact hc j x hx⟩
theorem nums_src {w : World} {a : Option Addr} {c : Nat} {xs : List Int} (h : NumsAt w (.slice a xs.length c) xs) :
  xs.length ≠ 0 → ∃ ad, a = some ad ∧ ∀ (j : Nat) u, (i64s xs)[j]? = some u → w.cell? (ad.add j) = some u := by
 obtain ⟨a', c', e, _, _, h3⟩ := h
 obtain ⟨rfl, _, rfl⟩ := Value.slice.inj e
 intro hn
 obtain ⟨bk, o, rfl, _, hc⟩ := h3 (fun e => hn (by rw [e]; rfl))
 refine ⟨_, rfl, fun j u hu => ?_⟩
 rw [add_off]
 unfold i64s at hu
 rw [List.getElem?_map] at hu
 obtain ⟨x, hx, rfl⟩ := Option.map_eq_some_iff.1 hu
 exact hc j x hx
theorem i64s_one (xs : List Int) : ∀ u ∈ i64s xs, u.oneCell' = true := by
 intro u hu
 obtain ⟨x, _, rfl⟩ := List.mem_map.1 hu
 rfl
theorem own_nums {w : World} {base : Nat} {v : Value} {xs : List Int} (h : w.ownsRow base 3 1 v xs.length (i64s xs)) : NumsAt w v xs := by
 obtain ⟨hl, h⟩ := h
 rcases h with ⟨rfl, hx⟩ | ⟨g, cap, cur, rfl, hb, hh, hnc, hm, hcs, htake⟩
 ·have hx' : xs = [] := by simpa [i64s] using hx
  subst hx'
  exact ⟨none, 0, rfl, Nat.le_refl _, by decide, fun h => absurd rfl h⟩
 ·refine ⟨_, cap, rfl, hnc, hm, fun _ => ⟨g, 0, rfl, (Array.getElem?_eq_some_iff.1 hh).1, fun j x hx => ?_⟩⟩
  have hj := (List.getElem?_eq_some_iff.1 hx).1
  have hj2 : (i64s xs)[j]? = some (.int .i64 x) := by unfold i64s; rw [List.getElem?_map, hx]; rfl
  rw [← htake, List.getElem?_take, if_pos (by omega), Array.getElem?_toList] at hj2
  simp [World.cell?, hh, hj2]
set_option maxHeartbeats 800000 in
theorem copyInts_calls (v : Value) (xs : List Int) (W : World) (hx : NumsAt W v xs) (hl : xs.length * 16 ≤ 140737488351232) :
  Calls Tryz.prog 53 #[v] W fun e w' => ∃ r, e = .returned r ∧ w'.ownsRow W.heap.size 3 1 r xs.length (i64s xs) ∧ Below W.heap.size W w' := by
 have hb0 : Below W.heap.size W (W.alloc (.cells #[] 3)) := (Below.refl _ _).alloc (Nat.le_refl _) _
 have hsrc := hx.below hb0
 obtain ⟨a, c, rfl, _, _, _⟩ := hx
 have HS := Lib.hid (nums_src hsrc)
 have HO := Lib.hid (own_litN W W.heap.size 3 1 0 [] (Nat.le_refl _) rfl (Nat.zero_le _))
 clear hsrc
 by_cases hz : xs.length = 0
 ·obtain rfl : xs = [] := List.eq_nil_of_length_eq_zero hz
  have hld : ∀ (a : Addr) (w : World), (loadCellsFrom a 0 0 #[]).run Tryz.prog w = .ok #[] w := fun _ _ => rfl
  have hst : ∀ (a : Addr) (w : World), (storeCells a []).run Tryz.prog w = .ok () w := fun _ _ => rfl
  have hpu : ∀ (w : World), (pure (#[] : Array Value) : Sem (Array Value)).run Tryz.prog w = .ok #[] w := fun _ => rfl
  cases a with
  | none =>
   go_enter Tryz.func53, Tryz.ntmps53
   go_wp2
   go_ret
   exact ⟨_, rfl, HO.out, hb0⟩
  | some ad =>
   go_enter Tryz.func53, Tryz.ntmps53
   go_wp2
   go_ret
   exact ⟨_, rfl, HO.out, hb0⟩
 ·go_enter Tryz.func53, Tryz.ntmps53
  go_wp2_with (at_builtin; refine wp_appS rfl _ _ 55 3 rfl W.heap.size 1 8 (.int .i64 0) Tryz.underlying55 info_int_ rfl (by decide) _ 0 _ rfl HO.out a xs.length c (i64s xs) rfl (by simp [i64s]) HS.out (i64s_one xs) (by omega) (by omega) (by simp) ?_; intro v2 w3 ho3 hb3 hg3)
  go_ret
  exact ⟨_, rfl, by simpa using ho3, hb0.trans hb3⟩

/-- Lent numbers: with the marked room behind them. -/
def LentI (w : World) (v : Value) (xs : List Int) : Prop :=
 ∃ g c, v = .slice (some ⟨g, 0, none⟩) xs.length c ∧ xs.length + 2 ≤ c ∧ c ≤ maxLen ∧ g < w.heap.size ∧ ∀ (j : Nat) (x : Int), (xs ++ [-7777, -8888])[j]? = some x → w.cell? ⟨g, j, none⟩ = some (.int .i64 x)
theorem LentI.below {w w' : World} {v : Value} {xs : List Int} (h : LentI w v xs) (hb : Below w.heap.size w w') : LentI w' v xs := by
 obtain ⟨g, c, rfl, h1, h2, h3, h4⟩ := h
 exact ⟨g, c, rfl, h1, h2, Nat.lt_of_lt_of_le h3 hb.size, fun j x hx => by rw [hb.cell (p := ⟨g, j, none⟩) h3]; exact h4 j x hx⟩
theorem LentI.nums {w : World} {v : Value} {xs : List Int} (h : LentI w v xs) : NumsAt w v xs := by
 obtain ⟨g, c, rfl, h1, h2, h3, h4⟩ := h
 refine ⟨_, c, rfl, by omega, h2, fun _ => ⟨g, 0, rfl, h3, fun j x hx => ?_⟩⟩
 rw [Nat.zero_add]
 exact h4 j x (by rw [List.getElem?_append_left (List.getElem?_eq_some_iff.1 hx).1]; exact hx)
theorem lentI_src (w : World) (j : Nat) (u : Value) (hu : [Value.int .i64 (-7777), Value.int .i64 (-8888)][j]? = some u) : (w.alloc (.cells #[.int .i64 (-7777), .int .i64 (-8888)] 3)).cell? ((⟨w.heap.size, 0, none⟩ : Addr).add j) = some u := by
 rw [add_zero_]
 match j, hu with
 | 0, hu => simp at hu; subst hu; simp
 | 1, hu => simp at hu; subst hu; simp
theorem own_lentI {w : World} {base : Nat} {v : Value} {xs : List Int} (h : w.ownsRow base 3 1 v (xs.length + 2) (i64s xs ++ [.int .i64 (-7777), .int .i64 (-8888)])) :
  ∃ g c, v = .slice (some ⟨g, 0, none⟩) (xs.length + 2) c ∧ xs.length + 2 ≤ c ∧ c ≤ maxLen ∧ base ≤ g ∧ g < w.heap.size ∧ ∀ (j : Nat) (x : Int), (xs ++ [-7777, -8888])[j]? = some x → w.cell? ⟨g, j, none⟩ = some (.int .i64 x) := by
 obtain ⟨hl, h⟩ := h
 rcases h with ⟨_, hx⟩ | ⟨g, cap, cur, rfl, hb, hh, hnc, hm, hcs, htake⟩
 ·simp at hx
 ·have hlt : g < w.heap.size := (Array.getElem?_eq_some_iff.1 hh).1
  refine ⟨g, cap, rfl, hnc, hm, hb, hlt, fun j x hj => ?_⟩
  have hj2 : (i64s xs ++ [.int .i64 (-7777), .int .i64 (-8888)])[j]? = some (.int .i64 x) := by
   rw [show i64s xs ++ [.int .i64 (-7777), .int .i64 (-8888)] = (xs ++ [-7777, -8888]).map (Value.int .i64) by simp [i64s], List.getElem?_map, hj]; rfl
  have hjl : j < xs.length + 2 := by have := (List.getElem?_eq_some_iff.1 hj).1; simpa using this
  rw [← htake, List.getElem?_take, if_pos (by omega), Array.getElem?_toList] at hj2
  simp [World.cell?, hh, hj2]
set_option maxHeartbeats 800000 in
theorem lendInts_calls (v : Value) (xs : List Int) (W : World) (hx : NumsAt W v xs) (hl : xs.length * 16 ≤ 140737488351232) :
  Calls Tryz.prog 29 #[v] W fun e w' => ∃ r, e = .returned r ∧ LentI w' r xs ∧ Below W.heap.size W w' := by
 have HC := Lib.hid (copyInts_calls v xs W hx hl)
 obtain ⟨a, c, rfl, _, _, _⟩ := hx
 go_enter Tryz.func29, Tryz.ntmps29
 go_wp2_with (first
  | (go_at_call 53; refine HC.out.mono ?_; rintro e w1 ⟨r, rfl, ho1, hb1⟩; obtain ⟨a1, c1, rfl⟩ := own_slice ho1; have HO := Lib.hid ho1; clear ho1)
  | (at_builtin; refine wp_appS rfl _ _ 55 3 rfl W.heap.size 1 8 (.int .i64 0) Tryz.underlying55 info_int_ rfl (by decide) (.slice a1 xs.length c1) xs.length _ rfl (HO.out.alloc _) (some ⟨w1.heap.size, 0, none⟩) 2 2 [.int .i64 (-7777), .int .i64 (-8888)] rfl rfl (fun _ => ⟨_, rfl, lentI_src w1⟩) (i64s_one [-7777, -8888]) (by omega) (by omega) (by have := hb1.size; simp; omega) ?_; intro v2 w3 ho3 hb3 hg3; obtain ⟨g, cc, rfl, hcc, hmm, hgb, hgl, hcell⟩ := own_lentI ho3; replace hcell := Lib.hid hcell; replace hb3 := (below_alloc hb1 _).trans hb3; clear ho3))
 go_ret
 exact ⟨_, rfl, ⟨g, cc, rfl, hcc, hmm, hgl, hcell.out⟩, hb3⟩
set_option maxHeartbeats 1600000 in
theorem sameInts_calls (v u : Value) (xs : List Int) (W : World) (hv : NumsAt W v xs) (hu : NumsAt W u xs) :
  Calls Tryz.prog 54 #[v, u] W fun e w' => e = .returned (.bool true) ∧ Below W.heap.size W w' := by
 obtain ⟨a, c, rfl, _, hm, h3⟩ := hv
 obtain ⟨a', c', rfl, _, _, h3'⟩ := hu
 unfold maxLen at hm
 have H3 := Lib.hid h3
 have H3' := Lib.hid h3'
 clear h3 h3'
 go_enter Tryz.func54, Tryz.ntmps54
 go_wp2
 go_loopw [5] (fun i wr => ∃ k : Nat, k ≤ xs.length ∧ i = .int .i64 k ∧ Below W.heap.size W wr) (fun i _ => xs.length - (intOf i).toNat)
 case atStart => exact ⟨0, Nat.zero_le _, rfl, Below.refl _ _⟩
 case round =>
  obtain ⟨k, hk, rfl, hb⟩ := hrel
  by_cases hlt : k < xs.length
  ·have hne : xs ≠ [] := by intro h; rw [h] at hlt; exact Nat.not_lt_zero _ hlt
   have hi : (k : Int) < (xs.length : Int) := by omega
   obtain ⟨bk, o, rfl, hbk, hc⟩ := H3.out hne
   obtain ⟨bk', o', rfl, hbk', hc'⟩ := H3'.out hne
   have g0 := (hb.cell (p := ⟨bk, o + k, none⟩) hbk).trans (hc k _ (List.getElem?_eq_getElem hlt))
   have g1 := (hb.cell (p := ⟨bk', o' + k, none⟩) hbk').trans (hc' k _ (List.getElem?_eq_getElem hlt))
   clear hc hc' hne
   generalize xs[k] = x at g0 g1
   go_wp2
   go_quiet (fail)
   go_wp2
   exact ⟨⟨k + 1, by omega, by go_num, below_drewN hb nq⟩, by simp [intOf]; omega⟩
  ·obtain rfl : k = xs.length := by omega
   go_wp2
   go_ret
   exact ⟨rfl, hb⟩
set_option maxHeartbeats 1600000 in
theorem keptInts_calls (v u : Value) (xs : List Int) (W : World) (hv : LentI W v xs) (hu : NumsAt W u xs) (hn : xs.length * 16 ≤ 140737488351232) :
  Calls Tryz.prog 32 #[v, u] W fun e w' => e = .returned (.bool true) ∧ Below W.heap.size W w' := by
 have HS := Lib.hid (sameInts_calls v u xs W hv.nums hu)
 obtain ⟨g, c, rfl, hc, hm, hg, hcell⟩ := hv
 obtain ⟨a', c', rfl, _, _, _⟩ := hu
 have r0 := hcell xs.length (-7777) (by rw [List.getElem?_append_right (Nat.le_refl _)]; simp)
 have r1 := hcell (xs.length + 1) (-8888) (by rw [List.getElem?_append_right (by omega)]; simp)
 clear hcell
 unfold maxLen at hm
 have hi0 : (xs.length : Int) < (xs.length : Int) + 2 := by omega
 have hi1 : (xs.length : Int) + 1 < (xs.length : Int) + 2 := by omega
 go_enter Tryz.func32, Tryz.ntmps32
 go_wp2_with (go_at_call 54; refine HS.out.mono ?_; rintro e w1 ⟨rfl, hb⟩; have q0 := (hb.cell (p := ⟨g, xs.length, none⟩) hg).trans r0; have q1 := (hb.cell (p := ⟨g, xs.length + 1, none⟩) hg).trans r1)
 go_ret
 exact ⟨rfl, hb⟩
end Go.Proofs.YtobhjlchpnpleaaGreatDoor

/- What the rows' lists give: the library's variables; a world that holds them. -/
namespace Go.Proofs.YtobhjlchpnpleaaGreatDoor
open Go.RowKit Go.ChangeShapes
set_option linter.unusedVariables false

theorem Tryz.own_ : ownKnob Tryz.prog.godebug = none := by kernel_rfl
theorem Tryz.star_ : "*" ++ "errors.errorString" = "*errors.errorString" := by decide
theorem Tryz.rowErr_ (u : TypeId) (h : Tryz.prog.typeName? 3 u = some "*errors.errorString") : u = 187 :=
 typeName_ptr_named (nm := "errors.errorString") (by rw [Tryz.star_]; kernel_rfl) (by kernel_rfl) (by decide) u (by rw [Tryz.star_]; exact h)

def laidAll : List (String × DataW Unit) := [("math/bits.deBruijn32tab", Rows.laid_math_bits_deBruijn32tab), ("math/bits.deBruijn64tab", Rows.laid_math_bits_deBruijn64tab), ("internal/strconv.uint64pow10", Rows.laid_internal_strconv_uint64pow10), ("strconv.ErrRange", Rows.laid_strconv_ErrRange), ("strconv.ErrSyntax", Rows.laid_strconv_ErrSyntax)]

theorem int_of_shape {W : World} (h : W.ShapedOpen Tryz.prog) : ∃ m : Int, W.cell? ⟨2, 0, none⟩ = some (.int .i64 m) := Tryz.laysM145.s1_3 W h
theorem vars_of_laid {W : World} (h : laidMet Tryz.prog laidAll W) (hs : W.ShapedOpen Tryz.prog) : Vars W where
 tab := Lib.tabIs_of_head (g := 3) (by kernel_rfl) (by kernel_rfl) Tryz.underlying197 Tryz.underlying128 (by kernel_rfl) (by kernel_rfl) (show laidMet Tryz.prog (("internal/strconv.uint64pow10", Lib.tabData .u64 Lib.pow10Tab) :: [("strconv.ErrRange", Rows.laid_strconv_ErrRange), ("strconv.ErrSyntax", Rows.laid_strconv_ErrSyntax)]) W from h.tail.tail)
 syn := by
  obtain ⟨a, t, hv, _⟩ := laid_sentinel (g := 0) h.tail.tail.tail.tail (by kernel_rfl) (by kernel_rfl) Tryz.underlying152 Tryz.rowErr_ Tryz.underlying187 Tryz.underlying189 rfl rfl Tryz.underlying9 (by kernel_rfl) (by kernel_rfl)
  exact ⟨_, _, hv⟩
 rng := by
  obtain ⟨a, t, hv, _⟩ := laid_sentinel (g := 1) h.tail.tail.tail (by kernel_rfl) (by kernel_rfl) Tryz.underlying152 Tryz.rowErr_ Tryz.underlying187 Tryz.underlying189 rfl rfl Tryz.underlying9 (by kernel_rfl) (by kernel_rfl)
  exact ⟨_, _, hv⟩
 max := int_of_shape hs
 six := by
  obtain ⟨ps, hv, _⟩ := h.tail
  obtain ⟨g, t, cs, fuel, p, q, hg, _, hvar, _⟩ := hv
  obtain rfl := Option.some.inj ((show Tryz.prog.globalNamed "math/bits.deBruijn64tab" = some 5 by kernel_rfl).symm.trans hg)
  unfold World.var? at hvar
  rw [hg, Option.bind_some] at hvar
  rcases Nat.lt_or_ge 5 W.heap.size with h6 | h6
  ·exact h6
  ·rw [Array.getElem?_eq_none h6] at hvar
   cases hvar

/-- A world for the witnesses: the settled one, two blocks more (the two errors' structs), the variables holding what their initialisers lay. -/
noncomputable def laidWorld (os : Os) : World :=
 let N := (World.settled Tryz.prog os).heap.size
 let w0 := World.holding Tryz.prog os ⟨#[.cells #[.string ⟨#[118, 97, 108, 117, 101, 32, 111, 117, 116, 32, 111, 102, 32, 114, 97, 110, 103, 101]⟩] 189, .cells #[.string ⟨#[105, 110, 118, 97, 108, 105, 100, 32, 115, 121, 110, 116, 97, 120]⟩] 189], #[], []⟩
 let put (h : Array Obj) (g : Nat) (cs : Array Value) : Array Obj := h.modify g fun
  | .cells _ t frozen => .cells cs t frozen
  | o => o
 let ints (k : IntKind) (d : DataW Unit) : Array Value := match d with
  | .agg l => (l.map fun x => match x with | .lit (.int _ n) => Value.int k n | _ => undef).toArray
  | _ => #[]
 let h0 := put (put w0.heap 1 #[.iface 187 (.pointer (some ⟨N, 0, none⟩))]) 0 #[.iface 187 (.pointer (some ⟨N + 1, 0, none⟩))]
 let h1 := put h0 4 (ints .u8 Rows.laid_math_bits_deBruijn32tab)
 let h2 := put h1 5 (ints .u8 Rows.laid_math_bits_deBruijn64tab)
 let h3 := put h2 3 (ints .u64 Rows.laid_internal_strconv_uint64pow10)
 { w0 with heap := h3 }
noncomputable abbrev N0 : Nat := (World.settled Tryz.prog default).heap.size
set_option maxRecDepth 1000000 in
theorem laid_in (os : Os) (args : Array Value) : LaidIn Tryz.prog ((laidWorld os).forCall (fun _ _ => 0) ⟨#[], args, []⟩).memory laidAll [4, 5, 3, 1, N0, 0, N0 + 1] :=
 LaidIn.of_run [4, 5, 3, 1, N0, 0, N0 + 1] 8 (by kernel_rfl) (by kernel_rfl) (by kernel_rfl) (by kernel_rfl)
theorem laid_met (os : Os) (args : Array Value) : laidMet Tryz.prog laidAll ((laidWorld os).forCall (fun _ _ => 0) ⟨#[], args, []⟩).memory := (laid_in os args).met
end Go.Proofs.YtobhjlchpnpleaaGreatDoor

/- Chapter 12: what every program answers that is one: the walk of quiverlaw12.awake at its own inputs. -/
namespace Go.Proofs.YtobhjlchpnpleaaGreatDoor
open Go.RowKit
set_option linter.unusedVariables false
set_option linter.unusedSimpArgs false

theorem kids_nil (w : World) : KidsAt w [] (.slice none 0 0) := by
 rw [KidsAt]
 exact ⟨none, 0, rfl, Nat.le_refl _, by unfold maxLen; decide, fun h => absurd rfl h⟩
/-- What is handed on, with its answer. -/
theorem BuildR.open {r : Arr × Int} {W w' : World} {e : Ending} (h : BuildR r W e w') : ∃ a c, e = .returned (.tuple #[arrV r.1.lay r.1.off r.1.len r.1.valid r.1.ends r.1.data (.slice a r.1.kids.length c), .int .i64 r.2]) ∧
  ArrAt w' r.1 (arrV r.1.lay r.1.off r.1.len r.1.valid r.1.ends r.1.data (.slice a r.1.kids.length c)) ∧ KidsOwn w' (fun g => W.heap.size ≤ g) r.1.kids (.slice a r.1.kids.length c) ∧ Below W.heap.size W w' := by
 obtain ⟨u, he, ho, hb⟩ := h
 obtain ⟨k, a, c, rfl, rfl, hk⟩ := ho.value
 exact ⟨a, c, he, ho.at, hk, hb⟩
set_option maxRecDepth 100000 in
set_option maxHeartbeats 3200000 in
theorem awake12_calls (W : World) (hv : Vars W) : Calls Tryz.prog 19 #[] W fun e w' => e = .returned (.bool true) ∧ Below W.heap.size W w' := by
 have HV := Lib.hid hv
 go_enter Tryz.func19, Tryz.ntmps19
 go_wp2_with (fail)
 refine (ints12_calls W).mono ?_; rintro e w1 ⟨v1, rfl, hn1, hb1⟩
 go_wp2_with (fail)
 refine (given12_calls w1).mono ?_; rintro e w2 ⟨u2, rfl, ha2, hb2⟩
 have HB2 := below_then hb1 hb2
 go_wp2_with (fail)
 refine (given12_calls w2).mono ?_; rintro e w3 ⟨u3, rfl, ha3, hb3⟩
 have HB3 := below_then HB2 hb3
 go_wp2_with (fail)
 refine (concat2_calls tyI gvI gvI 0 u2 u3 v1 w3 (arrAt_bel ha2 hb3) ha3 ((hn1.below hb2).below hb3) (HV.out.below HB3 HV.out.six) (by decide)).mono ?_
 rintro e w4 h4
 obtain ⟨a4, c4, rfl, ha4, _, hb4⟩ := h4.open
 have HB4 := Lib.hid (below_then HB3 hb4)
 have H12 := aw12_a
 have H12c := aw12_c
 clear h4 hn1 hb1 hb2 ha2 ha3 hb3 HB2 HB3 hb4
 generalize Vp.concR tyI 0 gvI gvI = r at H12 H12c ha4 ⊢
 obtain ⟨A, er⟩ := r
 replace H12 : er = 0 := H12
 subst H12
 replace H12c : readV tyI A 0 = inI ++ inI := H12c
 replace ha4 : ArrAt w4 A (arrV A.lay A.off A.len A.valid A.ends A.data (.slice a4 A.kids.length c4)) := ha4
 have hb5 := below_alloc (Below.refl w4.heap.size w4) (.cells (arrC A.lay A.off A.len A.valid A.ends A.data (.slice a4 A.kids.length c4)) 27)
 have hR5 := heap_alloc_new w4 (.cells (arrC A.lay A.off A.len A.valid A.ends A.data (.slice a4 A.kids.length c4)) 27)
 have HA5 := Lib.hid (arrAt_bel ha4 hb5)
 have HB5 := Lib.hid (below_then HB4.out hb5)
 obtain ⟨w5, hw5⟩ : ∃ w5, w4.alloc (.cells (arrC A.lay A.off A.len A.valid A.ends A.data (.slice a4 A.kids.length c4)) 27) = w5 := ⟨_, rfl⟩
 rw [hw5] at hb5 hR5 HA5 HB5
 have HR5 := Lib.hid hR5
 clear ha4 hb5 hR5
 go_wp2_with (fail)
 refine (ints12_calls _).mono ?_; rintro e w6 ⟨v6, rfl, hn6, hb6⟩
 clear hw5
 go_wp2_with (fail)
 refine (given12_calls w6).mono ?_; rintro e w7 ⟨u7, rfl, ha7, hb7⟩
 have HB7 := below_then hb6 hb7
 go_wp2_with (fail)
 refine (concat2_calls tyI gvI badI 0 u7 (arrV 0 0 1 [] [] [] (.slice none 0 0)) v6 w7 ha7 ⟨_, rfl, kids_nil _⟩ (hn6.below hb7) (HV.out.below (below_then HB5.out HB7) HV.out.six) (by decide)).mono ?_
 rintro e w8 h8
 obtain ⟨a8, c8, rfl, _, _, hb8⟩ := h8.open
 have HB8 := Lib.hid (below_then HB7 hb8)
 rw [aw12_b]
 clear h8 hn6 hb6 hb7 ha7 HB7 hb8
 generalize (Vp.concR tyI 0 gvI badI).1 = D
 have hR8 := (HB8.out.block _ (lt_of_block HR5.out)).trans HR5.out
 have hb9 := below_alloc (Below.refl w8.heap.size w8) (.cells (arrC D.lay D.off D.len D.valid D.ends D.data (.slice a8 D.kids.length c8)) 27)
 have hR9 := (hb9.block _ (lt_of_block hR8)).trans hR8
 have HB9 := Lib.hid (below_then HB8.out hb9)
 obtain ⟨w9, hw9⟩ : ∃ w9, w8.alloc (.cells (arrC D.lay D.off D.len D.valid D.ends D.data (.slice a8 D.kids.length c8)) 27) = w9 := ⟨_, rfl⟩
 rw [hw9] at hb9 hR9 HB9
 obtain ⟨x0, x1, x2, x3, x4, x5, x6, _⟩ := zero_cells hR9
 clear hb9 hR8
 go_wp2_with (fail)
 refine (vals12_calls A _ w9 (arrAt_bel HA5.out HB9.out)).mono ?_; rintro e w10 ⟨r10, rfl, ht10, hb10⟩
 clear x0 x1 x2 x3 x4 x5 x6 hw9 hR9
 rw [H12c] at ht10
 have HT := Lib.hid ht10
 have HB10 := Lib.hid (below_then HB9.out hb10)
 clear ht10 hb10 H12c
 go_wp2_with (fail)
 have hb11 := below_alloc (Below.refl w10.heap.size w10) (.cells #[.string ⟨#[105, 53, 59]⟩, .string ⟨#[110]⟩, .string ⟨#[105, 55, 59]⟩, .string ⟨#[105, 55, 59]⟩, .string ⟨#[105, 53, 59]⟩, .string ⟨#[110]⟩, .string ⟨#[105, 55, 59]⟩, .string ⟨#[105, 55, 59]⟩] 9)
 refine (sameTexts_calls r10 _ (inI ++ inI) (inI ++ inI) _ (HT.out.below hb11) (texts_at w10 _ _ 8 (inI ++ inI) (by omega) rfl rfl (by decide))).mono ?_
 rintro e w12 ⟨rfl, hb12⟩
 have HB12 := Lib.hid (below_then HB10.out (below_then hb11 hb12))
 rw [show ((inI ++ inI) == (inI ++ inI)) = true from beq_self_eq_true _]
 clear hb11 hb12
 go_wp2_with (go_at_call 17; refine (num_calls _ _).mono ?_; rintro e w' ⟨rfl, rfl⟩)
 go_ret
 exact ⟨rfl, below_then HB5.out HB12.out⟩
end Go.Proofs.YtobhjlchpnpleaaGreatDoor

/- Arguments opened, with their size: a slice of texts, a type. -/
namespace Go.Proofs.YtobhjlchpnpleaaGreatDoor
open Go.ChangeShapes Go.WideShapes Go.RowKit Go.Deep
set_option linter.unusedVariables false
set_option linter.unusedSimpArgs false

theorem spot_none2 {w : World} {a : Addr} {v : Value} (h : w.cell? a = some v) : a = ⟨a.block, a.off, none⟩ := by
 obtain ⟨b, o, s⟩ := a
 cases s with
 | none => rfl
 | some s => exfalso; unfold World.cell? at h; split at h <;> simp at h
instance inhNd2 : Inhabited Tp.Nd := ⟨⟨0, 0, false⟩⟩
set_option maxRecDepth 100000 in
theorem open_type_sz {H : Type} {enc : TypeId × Value → H} {W : World} {b0 : Nat} {v : Value} {d : DataW H} {p : List MemPlace}
  (hval : Value.okWide Tryz.prog W .any b0 24 v) (h : DataW.Trod enc Tryz.prog W 0 (fun _ => true) true 24 v d p)
  (hw : ∀ n ∈ d.weights Tryz.prog 24, decide (n ≤ reachBytes) = true) :
  ∃ ns, (∃ u, v = typeV u ∧ NodesAt W u ns) ∧ ns.length * 24 ≤ 140737488351232 := by
 obtain ⟨cs, rfl, hcs⟩ := okWide_struct Tryz.underlying24 hval
 have hc1 : cs.size = 1 := hcs.trans (by kernel_rfl)
 obtain ⟨u, rfl⟩ : ∃ u, cs = #[u] := Array.size_eq_one_iff.1 hc1
 obtain ⟨fuel, hf⟩ := h
 obtain ⟨y0, n, hx, _, h0⟩ := trod_struct1 Tryz.underlying24 hf
 have hone : Tryz.prog.cellsOf 22 = 1 := by kernel_rfl
 have h0' : DataW.trod enc Tryz.prog W 0 (fun _ => true) true n 22 [u] = some y0 := by
  have := h0
  simp only [hone] at this
  simpa [Value.cells] using this
 have hthree : Tryz.prog.cellsOf 47 = 3 := by kernel_rfl
 have hci : Tryz.prog.cellsOf 3 = 1 := by kernel_rfl
 have hcb : Tryz.prog.cellsOf 4 = 1 := by kernel_rfl
 rcases open_slice Tryz.underlying22 h0' with ⟨hcs2, hx2⟩ | ⟨a, len, cap, m, k, D, Pl, hcs2, _, hl, hm, hmm, hx2, hel⟩
 ·obtain rfl : u = .slice none 0 0 := by simpa using hcs2
  exact ⟨[], ⟨_, rfl, none, 0, rfl, by simp, by simp, fun h => absurd rfl h⟩, by simp⟩
 ·obtain rfl : u = .slice (some a) len cap := by simpa using hcs2
  simp only [if_true] at hmm
  subst hmm
  have each : ∀ i, i < len → ∃ nd : Tp.Nd, W.cell? (a.add (i * 3)) = some (.int .i64 nd.kind) ∧ W.cell? ((a.add (i * 3)).add 1) = some (.int .i64 nd.parent) ∧ W.cell? ((a.add (i * 3)).add 2) = some (.bool nd.null) := by
   intro i hi
   obtain ⟨cs', h1, h2⟩ := hel i (by omega)
   rw [hthree] at h1
   obtain ⟨_, hlen, hcell⟩ := World.cells?_some h1
   obtain ⟨z0, z1, z2, k2, _, hl3, q0, q1, q2⟩ := trod_struct3 Tryz.underlying47 h2
   simp only [hci, hcb] at q0 q1 q2
   obtain ⟨c0, c1, c2, rfl⟩ : ∃ c0 c1 c2, cs' = [c0, c1, c2] := by
    match cs', hlen with
    | [c0, c1, c2], _ => exact ⟨c0, c1, c2, rfl⟩
   have q0' : DataW.trod enc Tryz.prog W 0 (fun _ => true) true k2 3 [c0] = some z0 := by simpa using q0
   have q1' : DataW.trod enc Tryz.prog W 0 (fun _ => true) true k2 3 [c1] = some z1 := by simpa using q1
   have q2' : DataW.trod enc Tryz.prog W 0 (fun _ => true) true k2 4 [c2] = some z2 := by simpa using q2
   obtain ⟨x0, e0, _⟩ := DataW.trod_int Tryz.underlying3 q0'
   obtain ⟨x1, e1, _⟩ := DataW.trod_int Tryz.underlying3 q1'
   obtain ⟨x2, e2, _⟩ := DataW.trod_bool Tryz.underlying4 q2'
   obtain rfl : c0 = .int .i64 x0 := by simpa using e0
   obtain rfl : c1 = .int .i64 x1 := by simpa using e1
   obtain rfl : c2 = .bool x2 := by simpa using e2
   refine ⟨⟨x0, x1, x2⟩, ?_, ?_, ?_⟩
   ·simpa [Addr.add] using hcell 0 (by omega)
   ·simpa using hcell 1 (by omega)
   ·simpa using hcell 2 (by omega)
  obtain ⟨f, hfn⟩ := choose_lt each
  refine ⟨(List.range len).map f, ⟨_, rfl, some a, m, by simp, by simpa using hl, hm, fun hne => ?_⟩, ?_⟩
  ·have hpos : 0 < len := by
    rcases Nat.eq_zero_or_pos len with h0 | h0
    ·exact absurd (by subst h0; simp) hne
    ·exact h0
   have h0 := (hfn 0 hpos).1
   rw [Nat.zero_mul, show a.add 0 = a from rfl] at h0
   have hs := spot_none2 h0
   refine ⟨a.block, a.off, by rw [← hs], cell_lt h0, fun j x hj => ?_⟩
   have hjl : j < len := by have := (List.getElem?_eq_some_iff.1 hj).1; simpa using this
   rw [List.getElem?_map, List.getElem?_range hjl] at hj
   obtain rfl := Option.some.inj hj
   obtain ⟨g0, g1, g2⟩ := hfn j hjl
   rw [hs, add_off] at g0 g1 g2
   rw [add_off] at g1 g2
   exact ⟨g0, g1, g2⟩
  ·obtain ⟨rfl, _⟩ := Prod.mk.inj hx
   have hb : Tryz.prog.bytesOf 47 = 24 := by kernel_rfl
   rw [hx2] at hw
   simp only [DataW.weights, Tryz.underlying24, DataW.weightsEach, List.toList_toArray, List.map_cons, List.map_nil, Tryz.underlying22] at hw
   have h0 := of_decide_eq_true (hw _ List.mem_cons_self)
   rw [hb] at h0
   simp only [List.length_map, List.length_range] at h0 ⊢
   unfold reachBytes at h0
   omega
end Go.Proofs.YtobhjlchpnpleaaGreatDoor
