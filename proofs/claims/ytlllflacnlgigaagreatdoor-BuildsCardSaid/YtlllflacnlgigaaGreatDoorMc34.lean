/- The reference's ArrayMay, walked: arrays of LayoutPlain. -/
import Derived.Test.YtlllflacnlgigaaGreatDoorMc33
import Derived.Test.YtlllflacnlgigaaGreatDoorMc20
import Derived.Deep.DeepCutAuto
import Derived.Deep.RegionHeld3
namespace Go.Proofs.YtlllflacnlgigaaGreatDoor
open Go.RowKit
set_option linter.unusedVariables false
set_option linter.unusedSimpArgs false

theorem nodes_open {w : World} {vv : Value} {ns : List Tp.Nd} (h : NodesAt w vv ns) {i : Nat} (hi : i < ns.length) : ∃ bk o c, vv = .slice (some ⟨bk, o, none⟩) ns.length c ∧ ns.length ≤ c ∧ c ≤ maxLen ∧ bk < w.heap.size ∧
    w.cell? ⟨bk, o + i * 3, none⟩ = some (.int .i64 (Tp.kindOf ns i)) ∧ w.cell? ⟨bk, o + i * 3 + 2, none⟩ = some (.bool (Vp.isNull ns i)) := by
  obtain ⟨a, c, rfl, h1, h2, h3⟩ := h
  obtain ⟨bk, o, rfl, hbk, hc⟩ := h3 (by intro e; rw [e] at hi; exact Nat.not_lt_zero _ hi)
  obtain ⟨g0, _, g2⟩ := hc i _ (List.getElem?_eq_getElem hi)
  have e : ns.getD i default = ns[i] := by rw [List.getD_eq_getElem?_getD, List.getElem?_eq_getElem hi]; rfl
  exact ⟨bk, o, c, rfl, h1, h2, hbk, by unfold Tp.kindOf; rw [e]; exact g0, by unfold Vp.isNull; rw [e]; exact g2⟩
/-- May an array be, of a node that is told by any number? -/
def mayX (ns : List Tp.Nd) (a : Arr) (x : Int) : Bool := Tp.node ns x && Vp.mayA ns a x.toNat
def RefMayOK (ns : List Tp.Nd) (N : Nat) : Prop := ∀ (a : Arr) (x : Int) (u vv : Value) (W : World), SizeOf.sizeOf a < N → ArrAt W a u → NodesAt W vv ns →
  Calls Tryz.prog 57 #[typeV vv, .int .i64 x, u] W fun e w' => e = .returned (.bool (mayX ns a x)) ∧ Below W.heap.size W w'
theorem mayX_nat (ns : List Tp.Nd) (a : Arr) (i : Nat) : mayX ns a (i : Int) = Vp.mayA ns a i := by
  unfold mayX
  rw [Int.toNat_natCast]
  cases h : Tp.node ns (i : Int) with
  | true => rfl
  | false =>
    obtain ⟨l, f, n, v, e, d, ks⟩ := a
    rw [Vp.mayA, h]; rfl
/-- What an array of LayoutPlain must be. -/
def plainX (ns : List Tp.Nd) (i : Nat) (f n : Int) (e d : Vp.Txt) (ks : List Arr) : Bool :=
  decide (ks.length = (Tp.kids ns i).length) && (Vp.mayAll ns ks (Tp.kids ns i) && Vp.plainOk ns i f n e d ks)
theorem box7 {w w' : World} {g : Nat} {t : TypeId} {c0 c1 c2 c3 c4 c5 c6 : Value} (h : w.heap[g]? = some (.cells #[c0, c1, c2, c3, c4, c5, c6] t)) (hb : Below w.heap.size w w') :
    (w'.cell? ⟨g, 0, none⟩ = some c0 ∧ w'.cell? ⟨g, 1, none⟩ = some c1 ∧ w'.cell? ⟨g, 2, none⟩ = some c2 ∧ w'.cell? ⟨g, 3, none⟩ = some c3 ∧ w'.cell? ⟨g, 4, none⟩ = some c4 ∧ w'.cell? ⟨g, 5, none⟩ = some c5 ∧ w'.cell? ⟨g, 6, none⟩ = some c6) ∧ Below w.heap.size w w' := by
  obtain ⟨h0, h1, h2, h3, h4, h5, h6, _⟩ := zero_cells ((hb.block _ (lt_of_block h)).trans h)
  exact ⟨⟨h0, h1, h2, h3, h4, h5, h6⟩, hb⟩
def plainK (kd f n : Int) (e d : Vp.Txt) (ks : List Arr) : Bool :=
  if kd = 0 then decide (e = []) && decide (8 * (f + n) ≤ d.length)
  else if kd = 1 then decide (e = []) && decide ((f + n + 7) / 8 ≤ d.length)
  else if kd = 2 then Vp.endsOk e (f + n).toNat d.length f.toNat 16
  else if kd = 3 then decide (d = []) && Vp.endsOk e (f + n).toNat (Vp.kid0 ks).len 0 64
  else decide (e = []) && (decide (d = []) && ks.all fun k => decide (f + n ≤ k.len))
theorem plainK_eq (ns : List Tp.Nd) (i : Nat) (f n : Int) (e d : Vp.Txt) (ks : List Arr) : Vp.plainOk ns i f n e d ks = plainK (Tp.kindOf ns i) f n e d ks := rfl
theorem plainX_leaf (ns : List Tp.Nd) (i : Nat) (f n : Int) (e d : Vp.Txt) (ks : List Arr) (h : Tp.kids ns (i : Int) = []) : plainX ns i f n e d ks = (decide (ks = []) && plainK (Tp.kindOf ns i) f n e d ks) := by
  unfold plainX
  rw [plainK_eq, h]
  cases ks with
  | nil => rfl
  | cons a r => rw [decide_eq_false (by simp), decide_eq_false (by simp), Bool.false_and, Bool.false_and]
set_option maxRecDepth 100000 in
set_option maxHeartbeats 6400000 in
theorem plainMay_leaf (ns : List Tp.Nd) (l : Int) (f n : Nat) (v e d : Vp.Txt) (ks : List Arr) (k vv : Value) (i : Nat) (W : World) (ih : ∀ a ∈ ks, RefMayOK ns (SizeOf.sizeOf a + 1))
    (hm : Tp.may ns = true) (hi : i < ns.length) (hfn : f + n ≤ 64) (he : e.length ≤ 4096) (hd : d.length ≤ 4096) (hk : KidsAt W ks k) (hn : NodesAt W vv ns) (hkk : Tp.kindOf ns i ≤ 2) :
    Calls Tryz.prog 89 #[typeV vv, .int .i64 (i : Int), arrV l (f : Int) (n : Int) v e d k, .int .i64 ((f : Int) + (n : Int))] W fun x w' => x = .returned (.bool (plainX ns i f n e d ks)) ∧ Below W.heap.size W w' := by
  have hbk := below_alloc (below_alloc (Below.refl W.heap.size W) (.cells #[vv] 25)) (.cells #[.int .i64 l, .int .i64 (f : Int), .int .i64 (n : Int), .string ⟨v.toArray⟩, .string ⟨e.toArray⟩, .string ⟨d.toArray⟩, k] 47)
  have hnd : Tp.node ns (i : Int) = true := (Vp.node_of ns i).2 ⟨hm, hi⟩
  have hn2 := hn.below hbk
  have hk2 := KidsAt.below hbk _ _ hk
  have C4 := (Below.heap_alloc (W.alloc (.cells #[vv] 25)) (.cells #[.int .i64 l, .int .i64 (f : Int), .int .i64 (n : Int), .string ⟨v.toArray⟩, .string ⟨e.toArray⟩, .string ⟨d.toArray⟩, k] 47) W.heap.size (by simp)).trans (heap_alloc_new W (.cells #[vv] 25))
  have C6 := heap_alloc_new (W.alloc (.cells #[vv] 25)) (.cells #[.int .i64 l, .int .i64 (f : Int), .int .i64 (n : Int), .string ⟨v.toArray⟩, .string ⟨e.toArray⟩, .string ⟨d.toArray⟩, k] 47)
  rw [show (W.alloc (.cells #[vv] 25)).heap.size = W.heap.size + 1 by simp] at C6
  obtain ⟨W2, hW2⟩ : ∃ W2, (W.alloc (.cells #[vv] 25)).alloc (.cells #[.int .i64 l, .int .i64 (f : Int), .int .i64 (n : Int), .string ⟨v.toArray⟩, .string ⟨e.toArray⟩, .string ⟨d.toArray⟩, k] 47) = W2 := ⟨_, rfl⟩
  rw [hW2] at hbk hn2 hk2 C4 C6
  rw [KidsAt] at hk
  obtain ⟨ka, kc, rfl, hkc1, hkc2, _⟩ := hk
  have q4 := cell_of_one C4
  have HN := Lib.hid hn2
  have HK := Lib.hid hk2
  have HB := Lib.hid hbk
  clear hn hn2 hk2 hbk
  go_enter Tryz.func89, Tryz.ntmps89
  go_wp2_with (fail)
  refine (refKids_calls _ ns i _ HN.out hnd).mono ?_; rintro x w3 ⟨kr, rfl, hko, hb3⟩
  have C4' := (hb3.block _ (lt_of_block C4)).trans C4
  have C6' := (hb3.block _ (lt_of_block C6)).trans C6
  have HN3 := Lib.hid (HN.out.below hb3)
  have HK3 := Lib.hid (KidsAt.below hb3 _ _ HK.out)
  have HB3 := HB.out.trans (hb3.mono HB.out.size)
  obtain ⟨kra, krc, rfl⟩ := own_slice hko
  have HKO := Lib.hid hko
  clear q4 hko hb3 HN HK HB C4 C6 hW2
  have hp4 := cell_of_one C4'
  obtain ⟨x0, x1, x2, x3, x4, x5, x6, _⟩ := zero_cells C6'
  obtain ⟨bk, o, c, rfl, hc1, hc2, hbk, g0, g2⟩ := nodes_open HN3.out hi
  have hkr := Vp.may_kind ns hm i hi
  have hii : (i : Int) < (ns.length : Int) := by omega
  have HL := Lib.hid (fun h => Vp.leaf_kids hm hi h)
  have HX := Lib.hid (show plainX ns i f n e d ks = (decide (ks.length = (Tp.kids ns i).length) && (Vp.mayAll ns ks (Tp.kids ns i) && Vp.plainOk ns i f n e d ks)) from rfl)
  rw [plainK_eq] at HX
  clear g2
  have hkd : ∃ kd, Tp.kindOf ns i = kd := ⟨_, rfl⟩
  obtain ⟨kd, hkd⟩ := hkd
  rw [hkd] at g0 hkr HL HX
  unfold maxLen at hc2 hkc2
  have hz := mk_size d
  rw [hkd] at hkk
  by_cases k0 : kd = 0
  · subst k0
    have hks0 : Tp.kids ns (i : Int) = [] := List.eq_nil_of_length_eq_zero (HL.out (by decide))
    have HP := Lib.hid (plainX_leaf ns i f n e d ks hks0)
    rw [hkd] at HP
    clear HX HL
    have HBR := Lib.hid (fun w' (h : Below w3.heap.size w3 w') => bare_calls l (f : Int) (n : Int) v e d ks (.slice ka ks.length kc) w' (KidsAt.below h _ _ HK3.out))
    by_cases hb : e = [] ∧ ks = []
    · obtain ⟨rfl, rfl⟩ := hb
      go_wp2_with (go_at_call 108; refine (HBR.out _ (by repeat (first | exact Below.refl _ _ | apply below_drewN | apply below_drew))).mono ?_; rintro e w4 ⟨rfl, hb4⟩; have HB4 := below_then (by repeat (first | exact HB3 | apply below_drewN | apply below_drew)) hb4; have C6'' := (hb4.block _ (lt_of_block C6')).trans C6'; obtain ⟨y0, y1, y2, y3, y4, y5, y6, _⟩ := zero_cells C6'')
      go_ret
      exact ⟨ret_bool (by rw [HP.out]; unfold plainK; simp), HB4⟩
    · have hbf : (decide (e = []) && decide (ks = [])) = false := by
        rw [Bool.and_eq_false_iff, decide_eq_false_iff_not, decide_eq_false_iff_not]; by_cases h : e = []; exact .inr (fun h2 => hb ⟨h, h2⟩); exact .inl h
      rw [hbf] at HBR
      have hpf : plainX ns i f n e d ks = false := by
        rw [HP.out]
        rcases (Bool.and_eq_false_iff.1 hbf) with h | h
        · unfold plainK
          rw [h]
          simp
        · rw [h, Bool.false_and]
      go_wp2_with (go_at_call 108; refine (HBR.out _ (by repeat (first | exact Below.refl _ _ | apply below_drewN | apply below_drew))).mono ?_; rintro e w4 ⟨rfl, hb4⟩; have HB4 := below_then (by repeat (first | exact HB3 | apply below_drewN | apply below_drew)) hb4; have C6'' := (hb4.block _ (lt_of_block C6')).trans C6'; obtain ⟨y0, y1, y2, y3, y4, y5, y6, _⟩ := zero_cells C6'')
      go_ret
      exact ⟨ret_bool hpf.symm, HB4⟩
  by_cases k1 : kd = 1
  · subst k1
    have hks0 : Tp.kids ns (i : Int) = [] := List.eq_nil_of_length_eq_zero (HL.out (by decide))
    have HP := Lib.hid (plainX_leaf ns i f n e d ks hks0)
    rw [hkd] at HP
    clear HX HL
    have HBR := Lib.hid (fun w' (h : Below w3.heap.size w3 w') => bare_calls l (f : Int) (n : Int) v e d ks (.slice ka ks.length kc) w' (KidsAt.below h _ _ HK3.out))
    have HX3 := Below.refl w3.heap.size w3
    by_cases hb : e = [] ∧ ks = []
    · obtain ⟨rfl, rfl⟩ := hb
      go_upto_region 6 with (fail)
      first
      | (go_region_held3 (fun w' => (w'.cell? ⟨W.heap.size + 1, 0, none⟩ = some (.int .i64 l) ∧ w'.cell? ⟨W.heap.size + 1, 1, none⟩ = some (.int .i64 (f : Int)) ∧ w'.cell? ⟨W.heap.size + 1, 2, none⟩ = some (.int .i64 (n : Int)) ∧ w'.cell? ⟨W.heap.size + 1, 3, none⟩ = some (.string ⟨v.toArray⟩) ∧ w'.cell? ⟨W.heap.size + 1, 4, none⟩ = some (.string ⟨#[]⟩) ∧ w'.cell? ⟨W.heap.size + 1, 5, none⟩ = some (.string ⟨d.toArray⟩) ∧ w'.cell? ⟨W.heap.size + 1, 6, none⟩ = some (.slice ka 0 kc)) ∧ Below w3.heap.size w3 w')
        (first | exact box7 C6' (by repeat (first | exact HX3 | apply below_drewN | apply below_drew)) | (go_split_ands; (refine ⟨⟨?_, ?_, ?_, ?_, ?_, ?_, ?_⟩, ?_⟩ <;> assumption)))
        (first | (go_at_call 108; refine (HBR.out _ (by repeat (first | exact HX3 | apply below_drewN | apply below_drew))).mono ?_; rintro e w4 ⟨rfl, hb4⟩; have HX4 := below_then (by repeat (first | exact HX3 | apply below_drewN | apply below_drew)) hb4; clear hb4 HX3; have HX3 := HX4; clear HX4; obtain ⟨⟨y0, y1, y2, y3, y4, y5, y6⟩, _⟩ := box7 C6' HX3) | (go_at_call 88; refine (refBytes_calls _ _ (by omega) (by omega)).mono ?_; rintro e w' ⟨rfl, rfl⟩)))
      | fail
      all_goals
        go_wp2
        go_ret
        exact ⟨ret_bool (by rw [HP.out]; unfold plainK; simp), HB3.trans (HX3.mono HB3.size)⟩
    · have hbf : (decide (e = []) && decide (ks = [])) = false := by
        rw [Bool.and_eq_false_iff, decide_eq_false_iff_not, decide_eq_false_iff_not]; by_cases h : e = []; exact .inr (fun h2 => hb ⟨h, h2⟩); exact .inl h
      rw [hbf] at HBR
      have hpf : plainX ns i f n e d ks = false := by
        rw [HP.out]
        rcases (Bool.and_eq_false_iff.1 hbf) with h | h
        · unfold plainK
          rw [h]
          simp
        · rw [h, Bool.false_and]
      go_upto_region 6 with (fail)
      first
      | (go_region_with (first | (go_at_call 108; refine (HBR.out _ (by repeat (first | exact HX3 | apply below_drewN | apply below_drew))).mono ?_; rintro e w4 ⟨rfl, hb4⟩; have HX4 := below_then (by repeat (first | exact HX3 | apply below_drewN | apply below_drew)) hb4; clear hb4 HX3; have HX3 := HX4; clear HX4; obtain ⟨⟨y0, y1, y2, y3, y4, y5, y6⟩, _⟩ := box7 C6' HX3) | (go_at_call 88; refine (refBytes_calls _ _ (by omega) (by omega)).mono ?_; rintro e w' ⟨rfl, rfl⟩)))
      | fail
      all_goals
        go_wp2
        go_ret
        exact ⟨ret_bool hpf.symm, HB3.trans (HX3.mono HB3.size)⟩
  by_cases k2 : kd = 2
  · subst k2
    have hks0 : Tp.kids ns (i : Int) = [] := List.eq_nil_of_length_eq_zero (HL.out (by decide))
    have HP := Lib.hid (plainX_leaf ns i f n e d ks hks0)
    rw [hkd] at HP
    clear HX HL
    have HME := Lib.hid (fun W => mayEnds_calls e (f + n) f 16 (d.length : Int) W (by omega) (by omega) (by omega) (by decide))
    rw [show ((f + n : Nat) : Int) = (f : Int) + (n : Int) by omega] at HME
    by_cases hb : ks = []
    · subst hb
      go_wp2_with (go_at_call 109; refine (HME.out _).mono ?_; rintro e w4 ⟨rfl, hb4⟩)
      go_ret
      exact ⟨ret_bool (by rw [HP.out]; unfold plainK; rw [show ((f : Int) + (n : Int)).toNat = f + n by omega]; simp), HB3.trans (hb4.mono HB3.size)⟩
    · have hl0 : ((ks.length : Int) == 0) = false := by rw [beq_eq_false_iff_ne]; intro h; exact hb (List.eq_nil_of_length_eq_zero (by omega))
      go_wp2_with (fail)
      go_ret
      exact ⟨ret_bool (by rw [HP.out, decide_eq_false hb, Bool.false_and]), HB3⟩
  omega
end Go.Proofs.YtlllflacnlgigaaGreatDoor
