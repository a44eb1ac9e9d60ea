/- Chapter 10: what every program answers that is one: the walk of quiverlaw10.awake at its own inputs. -/
import Derived.Test.YtlllflacnlgigaaGreatDoorMc24
import Derived.Deep.DeepCutAuto
namespace Go.Proofs.YtlllflacnlgigaaGreatDoor
open Go.RowKit
set_option linter.unusedVariables false
set_option linter.unusedSimpArgs false

/-- Build, its answer told. -/
theorem buildK (v vv : Value) (ns : List Tp.Nd) (x : Int) (vs : List Vp.Txt) (W : World) {l f n : Int} {va e d : Vp.Txt} {ks : List Arr} {er : Int} (hr : Vp.buildR ns x vs = (.mk l f n va e d ks, er)) (hn : NodesAt W vv ns) (ht : TextsAt W v vs) (hv : Vars W) (hx : x ≤ 9223372036854775807) (hl : ∀ t ∈ vs, t.length ≤ 140737488351232) (hvl : vs.length ≤ 140737488351232) :
    Calls Tryz.prog 29 #[typeV vv, .int .i64 x, v] W fun en w' => ∃ ac cc, en = .returned (.tuple #[arrV l f n va e d (.slice ac ks.length cc), .int .i64 er]) ∧ KidsOwn w' (fun g => W.heap.size ≤ g) ks (.slice ac ks.length cc) ∧ Below W.heap.size W w' := by
  have h := buildR_calls v vv ns x vs W hn ht hv hx hl hvl
  rw [hr] at h
  refine h.mono fun en w' hq => ?_
  obtain ⟨u, he, ho, hb⟩ := hq
  obtain ⟨k, rfl, hk⟩ := ho
  obtain ⟨ac, cc, rfl⟩ := hk.slice
  exact ⟨ac, cc, he, hk, hb⟩
def manyT (k : Nat) : List Vp.Txt := List.replicate k [110]
set_option maxHeartbeats 800000 in
theorem many_calls (k : Nat) (W : World) (hk : k ≤ 65536) :
    Calls Tryz.prog 56 #[.int .i64 (k : Int)] W fun e w' => ∃ r, e = .returned r ∧ w'.ownsRow W.heap.size 9 1 r k ((manyT k).map tv) ∧ Below W.heap.size W w' := by
  go_enter Tryz.func56, Tryz.ntmps56
  go_wp2
  go_loopw [3, 4] (fun u i wr => ∃ q : Nat, q ≤ k ∧ i = .int .i64 (q : Int) ∧ wr.ownsRow W.heap.size 9 1 u q ((manyT q).map tv) ∧ Below W.heap.size W wr) (fun _ i _ => k - (intOf i).toNat)
  case atStart => exact ⟨0, Nat.zero_le _, rfl, own_nil, Below.refl _ _⟩
  case round =>
    obtain ⟨q, hq, rfl, hu, hb⟩ := hrel
    replace hu := Lib.hid hu
    by_cases hlt : q < k
    · have hi : (q : Int) < (k : Int) := by omega
      go_wp2_with (at_builtin; refine wp_app1 rfl _ _ 22 9 rfl W.heap.size 16 (.string ⟨#[]⟩) Tryz.underlying22 info_string rfl _ _ _ rfl rfl rfl hu.out (by omega) (by omega) hb.size ?_; intro v6 w6 ho6 hb6 hg6)
      refine ⟨⟨q + 1, by omega, by go_num, ?_, hb.trans hb6⟩, by simp [intOf]; omega⟩
      unfold manyT
      rw [List.replicate_succ', List.map_append]
      exact ho6
    · obtain rfl : q = k := by omega
      go_wp2
      go_ret
      exact ⟨_, rfl, hu.out, hb⟩
theorem nodes_lit2 (w : World) (n : Nat) (a b : Tp.Nd) (hn : w.heap.size = n) : NodesAt (w.alloc (.cells #[.int .i64 a.kind, .int .i64 a.parent, .bool a.null, .int .i64 b.kind, .int .i64 b.parent, .bool b.null] 67)) (.slice (some ⟨n, 0, none⟩) 2 2) [a, b] := by
  subst hn
  have := own_nodes (w := w.alloc (.cells #[.int .i64 a.kind, .int .i64 a.parent, .bool a.null, .int .i64 b.kind, .int .i64 b.parent, .bool b.null] 67)) (base := 0) (ns := [a, b]) (own_litN w 0 67 3 2 ([a, b].flatMap ndv) (Nat.zero_le _) rfl (by decide))
  exact this
def ty10 : List Tp.Nd := [⟨4, -1, true⟩, ⟨2, 0, false⟩]
def in10 : List Vp.Txt := [[123, 115, 50, 58, 97, 98, 125], [110], [123, 115, 49, 58, 99, 125]]
def want10 : Arr := .mk 0 0 3 [5] [] [] [.mk 0 0 3 [] [0, 0, 0, 0, 2, 0, 0, 0, 2, 0, 0, 0, 3, 0, 0, 0] [97, 98, 99] []]
set_option maxRecDepth 100000 in
theorem aw10_a : Vp.buildR ty10 0 in10 = (want10, 0) := by kernel_rfl
set_option maxRecDepth 100000 in
theorem aw10_b : Vp.buildR ty10 0 [[105, 53, 59]] = (.mk 0 0 0 [] [] [] [], 1000) := by kernel_rfl
set_option maxRecDepth 100000 in
theorem aw10_c : Vp.buildR ty10 2 [] = (.mk 0 0 0 [] [] [] [], 1000) := by kernel_rfl
set_option maxRecDepth 100000 in
theorem aw10_d : Vp.buildR ty10 0 (manyT 65) = (.mk 0 0 0 [] [] [] [], 1001) := by kernel_rfl

theorem arrAt_below {w w' : World} {a : Arr} {u : Value} (h : ArrAt w a u) (hb : Below w.heap.size w w') : ArrAt w' a u := by
  obtain ⟨l, f, n, v, e, d, ks⟩ := a
  obtain ⟨k, rfl, hk⟩ := h
  exact ⟨k, rfl, KidsAt.below hb _ _ hk⟩
/-- A variable that was made ahead of a call stands behind it. -/
theorem zero8 {X Y : World} {t : TypeId} {cs : Array Value} (h : Below (X.alloc (.cells cs t)).heap.size (X.alloc (.cells cs t)) Y) : Y.heap[X.heap.size]? = some (.cells cs t) := (h.block _ (by simp)).trans (heap_alloc_new X _)
theorem zero8d {X Y : World} {t : TypeId} {cs : Array Value} (h : Below (X.alloc (.cells cs t)).drew.heap.size (X.alloc (.cells cs t)).drew Y) : Y.heap[X.heap.size]? = some (.cells cs t) := (h.block _ (by show X.heap.size < (X.alloc (.cells cs t)).heap.size; simp)).trans (heap_alloc_new X _)
set_option maxRecDepth 100000 in
set_option maxHeartbeats 6400000 in
theorem awake10_calls (W : World) (hv : Vars W) : Calls Tryz.prog 33 #[] W fun e w' => e = .returned (.bool true) ∧ Below W.heap.size W w' := by
  obtain ⟨W2, hW2⟩ : ∃ W2, (W.alloc (.cells #[.int .i64 4, .int .i64 (-1), .bool true, .int .i64 2, .int .i64 0, .bool false] 67)).alloc (.cells #[.slice (some ⟨W.heap.size, 0, none⟩) 2 2] 25) = W2 := ⟨_, rfl⟩
  have hsz : W2.heap.size = W.heap.size + 2 := by rw [← hW2]; simp
  have HW := Lib.hid (show Below W.heap.size W W2 by rw [← hW2]; exact below_alloc (below_alloc (Below.refl _ _) _) _)
  have HN := Lib.hid (show NodesAt W2 (.slice (some ⟨W.heap.size, 0, none⟩) 2 2) ty10 by
    rw [← hW2]
    exact (nodes_lit2 W W.heap.size ⟨4, -1, true⟩ ⟨2, 0, false⟩ rfl).below ((Below.refl _ _).alloc (Nat.le_refl _) _))
  have HC := Lib.hid (show W2.cell? ⟨W.heap.size + 1, 0, none⟩ = some (.slice (some ⟨W.heap.size, 0, none⟩) 2 2) by rw [← hW2]; exact lit_cell _ _ _ _ 0 _ (by simp) rfl)
  have HV := Lib.hid (hv.below HW.out hv.six)
  have HS := Lib.hid hsz
  have hc := HC.out
  go_enter Tryz.func33, Tryz.ntmps33
  go_wp2_with (fail)
  clear hW2
  have HB := below_alloc (Below.refl W2.heap.size W2) (.cells #[.string ⟨#[123, 115, 50, 58, 97, 98, 125]⟩, .string ⟨#[110]⟩, .string ⟨#[123, 115, 49, 58, 99, 125]⟩] 9)
  refine (buildK _ _ ty10 0 in10 _ aw10_a (HN.out.below HB) (texts_at W2 _ _ 3 in10 (by omega) rfl rfl (by decide)) (HV.out.below HB HV.out.six) (by decide) (by decide) (by decide)).mono ?_
  rintro e w3 ⟨a3, c3, rfl, hk3, hb3⟩
  replace HB := below_then HB hb3
  have HA3 := Lib.hid (show ArrAt w3 want10 (arrV 0 0 3 [5] [] [] (.slice a3 1 c3)) from ⟨_, rfl, hk3.at⟩)
  have hc3 := (HB.cell (p := ⟨W.heap.size + 1, 0, none⟩) (by simp only; omega)).trans HC.out
  have hl3 : W.heap.size + 1 < w3.heap.size := by have := HB.size; omega
  clear hb3 hk3 hc
  go_wp2_with (fail)
  have HB4 := below_alloc (below_alloc HB (.cells #[.int .i64 0, .int .i64 0, .int .i64 3, .string ⟨#[5]⟩, .string ⟨#[]⟩, .string ⟨#[]⟩, .slice a3 1 c3] 47)) (.cells #[.string ⟨#[105, 53, 59]⟩] 9)
  have HR3 := Lib.hid (show (((w3.alloc (.cells #[.int .i64 0, .int .i64 0, .int .i64 3, .string ⟨#[5]⟩, .string ⟨#[]⟩, .string ⟨#[]⟩, .slice a3 1 c3] 47)).alloc (.cells #[.string ⟨#[105, 53, 59]⟩] 9))).heap[w3.heap.size]? = some (.cells #[.int .i64 0, .int .i64 0, .int .i64 3, .string ⟨#[5]⟩, .string ⟨#[]⟩, .string ⟨#[]⟩, .slice a3 1 c3] 47) by
    rw [Below.heap_alloc _ _ _ (by simp)]
    exact heap_alloc_new w3 _)
  have HX3 := Lib.hid (show Below w3.heap.size w3 ((w3.alloc (.cells #[.int .i64 0, .int .i64 0, .int .i64 3, .string ⟨#[5]⟩, .string ⟨#[]⟩, .string ⟨#[]⟩, .slice a3 1 c3] 47)).alloc (.cells #[.string ⟨#[105, 53, 59]⟩] 9)) from below_alloc (below_alloc (Below.refl _ _) _) _)
  refine (buildK _ _ ty10 0 [[105, 53, 59]] _ aw10_b (HN.out.below HB4) (texts_at _ _ _ 1 [[105, 53, 59]] (by simp) rfl rfl (by decide)) (HV.out.below HB4 HV.out.six) (by decide) (by decide) (by decide)).mono ?_
  rintro e w4 ⟨a4, c4, rfl, _, hb4⟩
  replace HB := below_then HB4 hb4
  have HX4 := Lib.hid (below_then HX3.out hb4)
  have HR4 := Lib.hid ((hb4.block _ (by simp; omega)).trans HR3.out)
  have hc4 := (HB.cell (p := ⟨W.heap.size + 1, 0, none⟩) (by simp only; omega)).trans HC.out
  have hl4 : W.heap.size + 1 < w4.heap.size := by have := HB.size; omega
  clear HB4 hb4 hc3 hl3 HR3 HX3
  go_wp2_with (fail)
  have HB5 := below_alloc HB (.cells #[.int .i64 0, .int .i64 0, .int .i64 0, .string ⟨#[]⟩, .string ⟨#[]⟩, .string ⟨#[]⟩, .slice a4 0 c4] 47)
  have HX5 := Lib.hid (below_alloc HX4.out (.cells #[.int .i64 0, .int .i64 0, .int .i64 0, .string ⟨#[]⟩, .string ⟨#[]⟩, .string ⟨#[]⟩, .slice a4 0 c4] 47))
  refine (buildK _ _ ty10 2 [] _ aw10_c (HN.out.below HB5) ⟨none, 0, rfl, by simp, by decide, fun h => absurd rfl h⟩ (HV.out.below HB5 HV.out.six) (by decide) (by decide) (by decide)).mono ?_
  rintro e w5 ⟨a5, c5, rfl, _, hb5⟩
  replace HB := below_then HB5 hb5
  have HX6 := Lib.hid (below_then HX5.out hb5)
  have HR5 := Lib.hid (((hb5.block _ (by have := HX4.out.size; simp; have := (Array.getElem?_eq_some_iff.1 HR4.out).1; omega)).trans (Below.heap_alloc _ _ _ (Array.getElem?_eq_some_iff.1 HR4.out).1)).trans HR4.out)
  have hc5 := (HB.cell (p := ⟨W.heap.size + 1, 0, none⟩) (by simp only; omega)).trans HC.out
  have hl5 : W.heap.size + 1 < w5.heap.size := by have := HB.size; omega
  clear HB5 hb5 hc4 hl4 HX4 HX5 HR4
  go_wp2_with (fail)
  have HB6 := below_alloc HB (.cells #[.int .i64 0, .int .i64 0, .int .i64 0, .string ⟨#[]⟩, .string ⟨#[]⟩, .string ⟨#[]⟩, .slice a5 0 c5] 47)
  have HX7 := Lib.hid (below_alloc HX6.out (.cells #[.int .i64 0, .int .i64 0, .int .i64 0, .string ⟨#[]⟩, .string ⟨#[]⟩, .string ⟨#[]⟩, .slice a5 0 c5] 47))
  have HR6 := Lib.hid ((Below.heap_alloc w5 (.cells #[.int .i64 0, .int .i64 0, .int .i64 0, .string ⟨#[]⟩, .string ⟨#[]⟩, .string ⟨#[]⟩, .slice a5 0 c5] 47) _ (Array.getElem?_eq_some_iff.1 HR5.out).1).trans HR5.out)
  have hc6 := (HB6.cell (p := ⟨W.heap.size + 1, 0, none⟩) (by simp only; omega)).trans HC.out
  have hl6 : W.heap.size + 1 < (w5.alloc (.cells #[.int .i64 0, .int .i64 0, .int .i64 0, .string ⟨#[]⟩, .string ⟨#[]⟩, .string ⟨#[]⟩, .slice a5 0 c5] 47)).heap.size := by have := HB6.size; omega
  obtain ⟨w6, hw6⟩ : ∃ w6, w5.alloc (.cells #[.int .i64 0, .int .i64 0, .int .i64 0, .string ⟨#[]⟩, .string ⟨#[]⟩, .string ⟨#[]⟩, .slice a5 0 c5] 47) = w6 := ⟨_, rfl⟩
  rw [hw6] at HB6 HX7 HR6 hc6 hl6 ⊢
  clear hw6 hc5 hl5 HB HX6 HR5
  have HZ := Lib.hid HB6
  have HBM := Lib.hid (fun W' => many_calls 65 W' (by decide))
  go_cut [8, 9] (fun s8 s9 wx => s9 = .int .i64 1001 ∧ Below w6.heap.size w6 wx)
  case first =>
    go_region_with (first | (go_at_call 56; refine (HBM.out _).mono ?_; rintro e wm ⟨rm, rfl, hom, hbm⟩; have htm := own_texts (xs := manyT 65) (by rw [show (manyT 65).length = 65 by simp [manyT]]; exact hom); obtain ⟨am, cm, rfl⟩ := own_slice hom; have HZM := below_then (by repeat (first | exact HB6 | apply below_drew | apply below_alloc)) hbm; have hcm := (HZM.cell (p := ⟨W.heap.size + 1, 0, none⟩) (by simp only; omega)).trans HC.out; have hlm : W.heap.size + 1 < wm.heap.size := (by have := HZM.size; omega); have HXm := Lib.hid (below_then (by repeat (first | exact Below.refl _ _ | apply below_drew | apply below_alloc)) hbm : Below w6.heap.size w6 wm); (try (have hz6 := zero8 hbm)); (try (have hz6 := zero8d hbm)); clear HB6 hom hbm; have HB6 := HZM; clear HZM) | (go_at_call 29; refine (buildK _ _ ty10 0 (manyT 65) _ aw10_d (HN.out.below (by repeat (first | exact HB6 | apply below_drew | apply below_alloc))) (htm.below (by repeat (first | exact Below.refl _ _ | apply below_drew | apply below_alloc))) (HV.out.below (by repeat (first | exact HB6 | apply below_drew | apply below_alloc)) HV.out.six) (by decide) (by decide) (by decide)).mono ?_; rintro e w7 ⟨a7, c7, rfl, _, hb7⟩; have HB7 := below_then (by repeat (first | exact HB6 | apply below_drew | apply below_alloc)) hb7; have HX8 := Lib.hid (below_then (by repeat (first | exact HXm.out | apply below_drew | apply below_alloc)) hb7 : Below w6.heap.size w6 w7); (try (have hz7 := (hb7.block _ (by have := (Array.getElem?_eq_some_iff.1 hz6).1; simpa using this)).trans hz6; obtain ⟨z0, z1, z2, z3, z4, z5, z6, y0, y1, y2, y3, y4, y5, y6⟩ := zero_cells hz7)); (try (have hz7 := zero8 hb7; obtain ⟨z0, z1, z2, z3, z4, z5, z6, y0, y1, y2, y3, y4, y5, y6⟩ := zero_cells hz7)); (try (have hz7 := zero8d hb7; obtain ⟨z0, z1, z2, z3, z4, z5, z6, y0, y1, y2, y3, y4, y5, y6⟩ := zero_cells hz7))))
    all_goals
      go_wp2_with fail
      go_meet
      refine ⟨rfl, ?_⟩
      first
        | (with_reducible refine below_alloc ?_ _; exact HX8.out)
        | (with_reducible refine below_set7 (R := wm.heap.size) ?_ ?_ _ _ _ _ _ _ _; exact HX8.out; exact HXm.out.size)
        | (with_reducible refine below_set7 (R := w6.heap.size) ?_ (Nat.le_refl _) _ _ _ _ _ _ _; exact HX8.out)
  case rest =>
    obtain ⟨rfl, HX8⟩ := hcut
    rename World => w7
    replace HX8 := Lib.hid HX8
    have HR7 := Lib.hid ((HX8.out.block _ (Array.getElem?_eq_some_iff.1 HR6.out).1).trans HR6.out)
    have HA7 := Lib.hid (show ArrAt w7 want10 (arrV 0 0 3 [5] [] [] (.slice a3 1 c3)) from arrAt_below HA3.out (HX7.out.trans (HX8.out.mono HX7.out.size)))
    have hR7 := zero_cells HR7.out
    obtain ⟨x0, x1, x2, x3, x4, x5, x6, _⟩ := hR7
    have hl7 : w3.heap.size < w7.heap.size := by have := HX7.out.size; have := HX8.out.size; have := (Array.getElem?_eq_some_iff.1 HR6.out).1; omega
    clear hc6 hl6 HB6 HBM
    go_wp2_with (fail)
    have HBE := Lib.hid (show Below w7.heap.size w7 ((w7.alloc (.cells (arrC 0 0 3 [] [0, 0, 0, 0, 2, 0, 0, 0, 2, 0, 0, 0, 3, 0, 0, 0] [97, 98, 99] (.slice none 0 0)) 47)).alloc (.cells (arrC 0 0 3 [5] [] [] (.slice (some ⟨w7.heap.size, 0, none⟩) 1 1)) 47)) from below_alloc (below_alloc (Below.refl _ _) _) _)
    have HK7 := KidsOwn.one (w := w7) (A := fun _ => True) (ys := []) (k := .slice none 0 0) (l := 0) (f := 0) (n := 3) (v := []) (e := [0, 0, 0, 0, 2, 0, 0, 0, 2, 0, 0, 0, 3, 0, 0, 0]) (d := [97, 98, 99]) (KidsOwn.nil _ _) trivial
    have HA8 : ArrAt ((w7.alloc (.cells (arrC 0 0 3 [] [0, 0, 0, 0, 2, 0, 0, 0, 2, 0, 0, 0, 3, 0, 0, 0] [97, 98, 99] (.slice none 0 0)) 47)).alloc (.cells (arrC 0 0 3 [5] [] [] (.slice (some ⟨w7.heap.size, 0, none⟩) 1 1)) 47)) want10 (arrV 0 0 3 [5] [] [] (.slice (some ⟨w7.heap.size, 0, none⟩) 1 1)) :=
      ⟨_, rfl, KidsAt.below ((Below.refl _ _).alloc (Nat.le_refl _) _) _ _ HK7.at⟩
    have hS := sameArray_calls want10 want10 _ _ _ (arrAt_below HA7.out HBE.out) HA8
    rw [(Arr.same_eq want10 want10).2 rfl] at hS
    refine hS.mono ?_
    rintro e w9 ⟨rfl, hb9⟩
    have HB9 := Lib.hid (below_then HBE.out hb9)
    clear hS HA8 HK7 hb9
    go_wp2_with (go_at_call 11; refine (num_calls _ _).mono ?_; rintro e w' ⟨rfl, rfl⟩)
    go_ret
    exact ⟨rfl, HW.out.trans ((HZ.out.trans ((HX8.out.trans (HB9.out.mono HX8.out.size)).mono HZ.out.size)).mono (by omega))⟩
end Go.Proofs.YtlllflacnlgigaaGreatDoor
