/- The law Values, walked. -/
import Derived.Test.YtlllflacnlgigaaGreatDoorLaw0
import Derived.Test.YtlllflacnlgigaaGreatDoorRefFits
import Derived.Test.YtlllflacnlgigaaGreatDoorRefNum
import Derived.Test.YtlllflacnlgigaaGreatDoorAwake7
import Derived.Deep.DeepCutAuto
import Derived.Deep.RegionHeld3
namespace Go.Proofs.YtlllflacnlgigaaGreatDoor
open Go.RowKit
set_option linter.unusedVariables false
set_option linter.unusedSimpArgs false

def TypeIn (W : World) (v : Value) (ns : List Tp.Nd) : Prop := ∃ u, v = typeV u ∧ NodesAt W u ns

theorem array_lt {α : Type} {a : Array α} {i : Nat} {x : α} (h : a[i]? = some x) : i < a.size := (Array.getElem?_eq_some_iff.1 h).1
/-- What the law holds behind its first line. -/
def ValS (W : World) (xs : List Vp.Txt) (ns : List Tp.Nd) (ws : Value) (c : Nat) (w : World) : Prop :=
  Below W.heap.size W w ∧ LentAt w ws xs ∧ c < w.heap.size ∧ ∃ u, w.cell? ⟨c, 0, none⟩ = some u ∧ NodesAt w u ns
theorem ValS.below {W w w' : World} {xs : List Vp.Txt} {ns : List Tp.Nd} {ws : Value} {c : Nat} (h : ValS W xs ns ws c w) (hb : Below w.heap.size w w') : ValS W xs ns ws c w' := by
  obtain ⟨h1, h2, h3, u, h4, h5⟩ := h
  exact ⟨below_then h1 hb, h2.below hb, Nat.lt_of_lt_of_le h3 hb.size, u, (hb.cell (p := ⟨c, 0, none⟩) h3).trans h4, h5.below hb⟩
theorem valS_set {W w : World} {xs : List Vp.Txt} {ns : List Tp.Nd} {ws r x : Value} {c B : Nat} (h1 : Below W.heap.size W w) (h2 : LentAt w ws xs)
    (ho : w.ownsRow B 67 3 r ns.length (ns.flatMap ndv)) (hc : W.heap.size ≤ c) (hb : w.heap[c]? = some (.cells #[x] 25)) : ValS W xs ns ws c (w.setCell ⟨c, 0, none⟩ r) := by
  have hlt : c < w.heap.size := (Array.getElem?_eq_some_iff.1 hb).1
  exact ⟨h1.setCell hc r, h2.far hb (by decide) r, by simpa using hlt, r, cellAt_blk (blk_set hb r), own_nodes (ho.kept (grown_set (World.grownBy.refl w _) 0 r) (own_ne ho hb (by decide)))⟩
theorem valS_alloc {W w : World} {xs : List Vp.Txt} {ns : List Tp.Nd} {ws r : Value} {B : Nat} (h1 : Below W.heap.size W w) (h2 : LentAt w ws xs)
    (ho : w.ownsRow B 67 3 r ns.length (ns.flatMap ndv)) : ValS W xs ns ws w.heap.size (w.alloc (.cells #[r] 25)) := by
  have hb : Below w.heap.size w (w.alloc (.cells #[r] 25)) := (Below.refl _ _).alloc (Nat.le_refl _) _
  exact ⟨below_then h1 hb, h2.below hb, by simp, r, by simp, (own_nodes ho).below hb⟩

set_option maxRecDepth 100000 in
set_option maxHeartbeats 3200000 in
theorem values_walk (a0 : Int) (a1 : Bool) (a2 : ByteArray) (v3 : Value) (a3 : List Vp.Txt) (v4 : Value) (a4 : List Tp.Nd) (a5 : Int) (a6 : ByteArray) (W : World) (hv : Vars W)
    (w0 : (Lit.int .i64 a0).wf = true) (w2 : a2.size ≤ 1048576) (w3 : TextsAt W v3 a3) (b3 : (Vp.join a3).length + a3.length ≤ 1048576) (w4 : TypeIn W v4 a4) (b4 : a4.length ≤ 1048576) (w5 : (Lit.int .i64 a5).wf = true) (w6 : a6.size ≤ 1048576) :
    Calls Tryz.prog 3 #[.int .i64 a0, .bool a1, .string a2, v3, v4, .int .i64 a5, .string a6] W fun e w' => e = .returned (.bool true) ∧ Below W.heap.size W w' := by
  obtain ⟨tu, rfl, hn⟩ := w4
  have hbox : Below W.heap.size W (W.alloc (.cells #[tu] 25)) := (Below.refl _ _).alloc (Nat.le_refl _) _
  have hpc : (W.alloc (.cells #[tu] 25)).cell? ⟨W.heap.size, 0, none⟩ = some tu := by simp
  have hps : W.heap.size < (W.alloc (.cells #[tu] 25)).heap.size := by simp
  have hn1 := hn.below hbox
  have ht1 := w3.below hbox
  have hv1 := hv.below hbox hv.six
  have six1 : 6 ≤ (W.alloc (.cells #[tu] 25)).heap.size := Nat.le_trans hv.six hbox.size
  obtain ⟨l6, rfl⟩ : ∃ l : Vp.Txt, a6 = ⟨l.toArray⟩ := ⟨a6.data.toList, by simp⟩
  obtain ⟨l2, rfl⟩ : ∃ l : Vp.Txt, a2 = ⟨l.toArray⟩ := ⟨a2.data.toList, by simp⟩
  have hl6 : l6.length ≤ 1048576 := by rw [mk_size] at w6; exact w6
  have hl2 : l2.length ≤ 1048576 := by rw [mk_size] at w2; exact w2
  have HW0 := Lib.hid (i64_le w0)
  have HW5 := Lib.hid (i64_le w5)
  clear hn w3 w0 w5 w2 w6
  have HV := Lib.hid hv1
  clear hv hv1
  obtain ⟨ta, tn, tc, rfl⟩ : ∃ a n c, v3 = .slice a n c := by obtain ⟨a, c, rfl, _⟩ := ht1; exact ⟨_, _, _, rfl⟩
  obtain ⟨na, nn, nc, rfl⟩ : ∃ a n c, tu = .slice a n c := by obtain ⟨a, c, rfl, _⟩ := hn1; exact ⟨_, _, _, rfl⟩
  go_enter Tryz.func3, Tryz.ntmps3
  go_wp2_with (fail)
  obtain ⟨W1, hW1⟩ : ∃ W1, W.alloc (.cells #[.slice na nn nc] 25) = W1 := ⟨_, rfl⟩
  rw [hW1] at hbox hpc hps hn1 ht1 HV six1 ⊢
  clear hW1
  have HT := Lib.hid ht1
  have HN := Lib.hid hn1
  clear ht1 hn1
  go_cut [15, 16] (fun s15 s16 wx => ∃ c, s16 = .pointer (some ⟨c, 0, none⟩) ∧ ValS W1 a3 a4 s15 c wx)
  case first =>
    have HT2 : ∀ o, TextsAt (W1.alloc o) (.slice ta tn tc) a3 := fun o => HT.out.below ((Below.refl _ _).alloc (Nat.le_refl _) o)
    replace HT2 := Lib.hid HT2
    go_region_with (first
      | (go_at_call 6; refine (lendTexts_calls _ a3 _ (HT.out.below (by repeat (first | exact Below.refl _ _ | apply below_alloc | apply below_drew))) (by omega)).mono ?_; rintro e w1 ⟨ws, rfl, HL, hb⟩; have hB1 : Below W1.heap.size W1 w1 := below_then (by repeat (first | exact Below.refl _ _ | apply below_alloc | apply below_drew)) hb; have hpc1 := (hB1.cell (p := ⟨W.heap.size, 0, none⟩) hps).trans hpc; have hpw1 := Nat.lt_of_lt_of_le hps hB1.size; (try (have hblk : w1.heap[W1.heap.size]? = some (.cells #[.slice none 0 0] 25) := (hb.block W1.heap.size (by simp)).trans (heap_alloc_new W1 _))); obtain ⟨gl, cl, hws, hL⟩ := HL; subst hws; have HL := Lib.hid hL; clear hL)
      | (go_at_call 7; refine (copyType_calls _ a4 _ (HN.out.below (by repeat (first | exact hB1 | apply below_alloc | apply below_drew))) (by omega)).mono ?_; rintro e w2 ⟨r, rfl, ho, hb2⟩; have hB2 : Below W1.heap.size W1 w2 := below_then (by repeat (first | exact hB1 | apply below_alloc | apply below_drew)) hb2; have HL2 : LentAt w2 (.slice (some ⟨gl, 0, none⟩) a3.length cl) a3 := LentAt.below (w := w1) ⟨gl, cl, rfl, HL.out⟩ (below_then (by repeat (first | exact Below.refl _ _ | apply below_alloc | apply below_drew)) hb2); (try (have hblk2 : w2.heap[W1.heap.size]? = some (.cells #[.slice none 0 0] 25) := (hb2.block W1.heap.size (array_lt hblk)).trans hblk; have hcw := cellAt_blk hblk2; have hfz := frozenAt_blk hblk2)); (try (have hblk2 : w2.heap[w1.heap.size]? = some (.cells #[.slice none 0 0] 25) := (hb2.block w1.heap.size (by simp)).trans (heap_alloc_new w1 _); have hcw := cellAt_blk hblk2; have hfz := frozenAt_blk hblk2)); obtain ⟨ra, rc, rfl⟩ := own_sliceN ho; have HO := Lib.hid ho; clear ho; replace HL2 := Lib.hid HL2))
    all_goals
      go_wp2_with fail
      go_meet
      exact ⟨_, rfl, by first | exact valS_alloc hB2 HL2.out HO.out | exact valS_set hB2 HL2.out HO.out hB1.size hblk2 | exact valS_set hB2 HL2.out HO.out (Nat.le_refl _) hblk2⟩
  case rest =>
    obtain ⟨c, rfl, HS⟩ := hcut
    obtain ⟨gl, cl, hws⟩ : ∃ gl cl, u15 = .slice (some ⟨gl, 0, none⟩) a3.length cl := by obtain ⟨_, ⟨gl, cl, rfl, _⟩, _⟩ := HS; exact ⟨gl, cl, rfl⟩
    subst hws
    replace HS := Lib.hid HS
    have HP := Lib.hid (fun W hv => parts_calls l6 W hv (by omega))
    have HQ := Lib.hid (fun W => refParts_calls l6 W (by omega))
    have HPB := Lib.hid (Vp.parts_bound l6)
    have HI1 := Lib.hid (fun W hv => int_calls a0 W hv HW0.out.1 HW0.out.2)
    have HI2 := Lib.hid (fun W => refInt_calls a0 W HW0.out.1 HW0.out.2)
    have HO1 := Lib.hid (fun W => bool_calls a1 W)
    have HO2 := Lib.hid (fun W => refBool_calls a1 W)
    have HB1 := Lib.hid (fun W hv => str_calls l2 W hv (by omega))
    have HB2 := Lib.hid (fun W => refStr_calls l2 W (by omega))
    have HL1 := Lib.hid (fun v W ht => list_calls v a3 W ht (by omega) (by omega))
    have HL2 := Lib.hid (fun v W ht => refList_calls v a3 W ht (by omega))
    have HR1 := Lib.hid (fun v W ht => struct_calls v a3 W ht (by omega) (by omega))
    have HR2 := Lib.hid (fun v W ht => refStruct_calls v a3 W ht (by omega))
    have HF1 := Lib.hid (fun v W hn hv => fits_calls v a4 a5 l6 W hn hv HW5.out.2 (by omega))
    have HF2 := Lib.hid (fun v W hn => refFits_calls v a4 a5 l6 W hn (by omega))
    unfold tv at HI1 HI2 HO1 HO2 HB1 HB2 HL1 HL2 HR1 HR2 HF1 HF2
    generalize Vp.int a0 = li at HI1 HI2
    generalize Vp.bool a1 = lo at HO1 HO2
    generalize Vp.str l2 = lb at HB1 HB2
    generalize Vp.list a3 = ll at HL1 HL2
    generalize Vp.struct a3 = lr at HR1 HR2
    generalize Vp.parts l6 = q at HP HQ HPB
    obtain ⟨kind, ps, er⟩ := q
    have HB : Below wc.heap.size wc wc := Below.refl _ _
    have HVc := Lib.hid (fun w (h : Below wc.heap.size wc w) => (HV.out.below HS.out.1 six1).below h (Nat.le_trans six1 HS.out.1.size))
    have HTc := Lib.hid (fun w (h : Below wc.heap.size wc w) => (HT.out.below HS.out.1).below h)
    have HWc := Lib.hid (fun w (h : Below wc.heap.size wc w) => (HS.out.below h).2.1)
    have HNc := Lib.hid (fun w (h : Below wc.heap.size wc w) => (HN.out.below HS.out.1).below h)
    go_wp2_with (fail)
    refine (HP.out _ (HVc.out _ HB)).mono ?_
    rintro e w1 ⟨ra, rfl, hown, hb⟩
    obtain ⟨ra1, ra2, rfl⟩ := own_slice hown
    have HOP := Lib.hid hown
    clear hown
    replace HB := below_then HB hb; clear hb
    go_wp2_with (fail)
    refine (HQ.out _).mono ?_
    rintro e w2 ⟨rb, rfl, hown, hb⟩
    obtain ⟨rb1, rb2, rfl⟩ := own_slice hown
    have HOQ := Lib.hid (own_texts hown)
    have HOP2 := Lib.hid (own_below HOP.out hb)
    clear hown HOP
    replace HB := below_then HB hb; clear hb
    go_wp2_with (fail)
    refine (sameTexts_calls _ _ ps ps _ (own_texts HOP2.out) HOQ.out).mono ?_
    rintro e w3 ⟨rfl, hb⟩
    rw [show (ps == ps) = true by simp]
    have HOP3 := Lib.hid (own_below HOP2.out hb)
    clear HOP2 HOQ
    replace HB := below_then HB hb; clear hb
    go_wp2_with (fail)
    refine (num_calls er _).mono ?_
    rintro e w4 ⟨rfl, rfl⟩
    go_wp2_with (fail)
    refine (spoilTexts_calls _ ps wc.heap.size _ HOP3.out (fun p hp => HPB.out p hp)).mono ?_
    rintro e w4 ⟨rfl, hb⟩
    clear HOP3
    replace HB := HB.trans hb
    clear hb
    go_wp2_with (fail)
    refine (null_calls _).mono ?_
    rintro e w5 ⟨rfl, rfl⟩
    go_wp2_with (fail)
    refine (HI1.out _ (HVc.out _ HB)).mono ?_
    rintro e w5 ⟨rfl, hb⟩
    replace HB := below_then HB hb; clear hb
    go_wp2_with (fail)
    refine (HI2.out _).mono ?_
    rintro e w6 ⟨rfl, hb⟩
    replace HB := below_then HB hb; clear hb
    go_wp2_with (fail)
    refine (HO1.out _).mono ?_
    rintro e w7 ⟨rfl, rfl⟩
    go_wp2_with (fail)
    refine (HO2.out _).mono ?_
    rintro e w7 ⟨rfl, rfl⟩
    go_wp2_with (fail)
    refine (HB1.out _ (HVc.out _ HB)).mono ?_
    rintro e w7 ⟨rfl, hb⟩
    replace HB := below_then HB hb; clear hb
    go_wp2_with (fail)
    refine (HB2.out _).mono ?_
    rintro e w8 ⟨rfl, hb⟩
    replace HB := below_then HB hb; clear hb
    go_wp2_with (fail)
    refine (HL1.out _ _ (HWc.out _ HB).texts).mono ?_
    rintro e w9 ⟨rfl, hb⟩
    replace HB := below_then HB hb; clear hb
    go_wp2_with (fail)
    refine (HL2.out _ _ (HTc.out _ HB)).mono ?_
    rintro e w10 ⟨rfl, hb⟩
    replace HB := below_then HB hb; clear hb
    go_wp2_with (fail)
    refine (HR1.out _ _ (HWc.out _ HB).texts).mono ?_
    rintro e w11 ⟨rfl, hb⟩
    replace HB := below_then HB hb; clear hb
    go_wp2_with (fail)
    refine (HR2.out _ _ (HTc.out _ HB)).mono ?_
    rintro e w12 ⟨rfl, hb⟩
    replace HB := below_then HB hb; clear hb
    go_wp2_with (fail)
    obtain ⟨ua, uc, HUc, HC3, HC4⟩ : ∃ ua uc, Go.RowKit.Hid (∀ w, Below wc.heap.size wc w → NodesAt w (.slice ua a4.length uc) a4) ∧ Go.RowKit.Hid (c < wc.heap.size) ∧ Go.RowKit.Hid (wc.cell? ⟨c, 0, none⟩ = some (.slice ua a4.length uc)) := by
      obtain ⟨_, _, h3, u, h4, h5⟩ := HS.out
      obtain ⟨ua, uc, rfl, _⟩ := id h5
      exact ⟨ua, uc, Lib.hid (fun w h => h5.below h), Lib.hid h3, Lib.hid h4⟩
    have HC5 := Lib.hid (Nat.lt_of_lt_of_le hps HS.out.1.size)
    have HC6 := Lib.hid ((HS.out.1.cell (p := ⟨W.heap.size, 0, none⟩) hps).trans hpc)
    have hcu := (HB.cell (p := ⟨c, 0, none⟩) HC3.out).trans HC4.out
    have hcb := (HB.cell (p := ⟨W.heap.size, 0, none⟩) HC5.out).trans HC6.out
    have HB1W := Lib.hid (hbox.trans (HS.out.1.mono hbox.size))
    have HSZ := Lib.hid (Nat.le_trans hbox.size HS.out.1.size)
    clear hpc hps hbox
    generalize Vp.fits a4 (l6.length + 1) a5 l6 = bf at HF1 HF2
    cases bf
    all_goals
      go_region_held3 (fun w' => w'.cell? ⟨c, 0, none⟩ = some (.slice ua a4.length uc) ∧ w'.cell? ⟨W.heap.size, 0, none⟩ = some (.slice na nn nc) ∧ Below wc.heap.size wc w')
        (first | exact ⟨hcu, hcb, HB⟩ | exact ⟨hcu, hcb, below_drew HB⟩ | (go_split_ands; (refine ⟨?_, ?_, ?_⟩ <;> assumption)))
        (first
          | (go_at_call 24; refine (HF1.out _ _ (HUc.out _ (by first | exact HB | exact below_drew HB)) (HVc.out _ (by first | exact HB | exact below_drew HB))).mono ?_; rintro e w' ⟨rfl, hb⟩; have HB' : Below wc.heap.size wc w' := (by first | exact below_then HB hb | exact below_then (below_drew HB) hb); have hcu' := (HB'.cell (p := ⟨c, 0, none⟩) HC3.out).trans HC4.out; have hcb' := (HB'.cell (p := ⟨W.heap.size, 0, none⟩) HC5.out).trans HC6.out; clear HB hcu hcb hb; have HB := HB'; have hcu := hcu'; have hcb := hcb'; clear HB' hcu' hcb')
          | (go_at_call 25; refine (HF2.out _ _ (HNc.out _ (by first | exact HB | exact below_drew HB))).mono ?_; rintro e w' ⟨rfl, hb⟩; have HB' : Below wc.heap.size wc w' := (by first | exact below_then HB hb | exact below_then (below_drew HB) hb); have hcu' := (HB'.cell (p := ⟨c, 0, none⟩) HC3.out).trans HC4.out; have hcb' := (HB'.cell (p := ⟨W.heap.size, 0, none⟩) HC5.out).trans HC6.out; clear HB hcu hcb hb; have HB := HB'; have hcu := hcu'; have hcb := hcb'; clear HB' hcu' hcb')
          | (go_at_call 26; refine (keptTexts_calls _ _ a3 _ (HWc.out _ (by first | exact HB | exact below_drew HB)) (HTc.out _ (by first | exact HB | exact below_drew HB)) (by omega)).mono ?_; rintro e w' ⟨rfl, hb⟩; have HB' : Below wc.heap.size wc w' := (by first | exact below_then HB hb | exact below_then (below_drew HB) hb); have hcu' := (HB'.cell (p := ⟨c, 0, none⟩) HC3.out).trans HC4.out; have hcb' := (HB'.cell (p := ⟨W.heap.size, 0, none⟩) HC5.out).trans HC6.out; clear HB hcu hcb hb; have HB := HB'; have hcu := hcu'; have hcb := hcb'; clear HB' hcu' hcb')
          | (go_at_call 27; refine (sameType_calls _ _ a4 _ (HUc.out _ (by first | exact HB | exact below_drew HB)) (HNc.out _ (by first | exact HB | exact below_drew HB))).mono ?_; rintro e w' ⟨rfl, hb⟩; have HB' : Below wc.heap.size wc w' := (by first | exact below_then HB hb | exact below_then (below_drew HB) hb); have hcu' := (HB'.cell (p := ⟨c, 0, none⟩) HC3.out).trans HC4.out; have hcb' := (HB'.cell (p := ⟨W.heap.size, 0, none⟩) HC5.out).trans HC6.out; clear HB hcu hcb hb; have HB := HB'; have hcu := hcu'; have hcb := hcb'; clear HB' hcu' hcb')
          | (go_at_call 28; refine (awake7_calls _ (HVc.out _ (by first | exact HB | exact below_drew HB))).mono ?_; rintro e w' ⟨rfl, hb⟩; have HB' : Below wc.heap.size wc w' := (by first | exact below_then HB hb | exact below_then (below_drew HB) hb); have hcu' := (HB'.cell (p := ⟨c, 0, none⟩) HC3.out).trans HC4.out; have hcb' := (HB'.cell (p := ⟨W.heap.size, 0, none⟩) HC5.out).trans HC6.out; clear HB hcu hcb hb; have HB := HB'; have hcu := hcu'; have hcb := hcb'; clear HB' hcu' hcb'))
      go_wp2
      go_ret
      exact ⟨rfl, HB1W.out.trans (HB.mono HSZ.out)⟩
end Go.Proofs.YtlllflacnlgigaaGreatDoor
