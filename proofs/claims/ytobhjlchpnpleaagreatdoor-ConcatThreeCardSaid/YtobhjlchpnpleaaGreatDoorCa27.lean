/- Several texts in one: RefBldT, Get. -/
import Derived.Test.YtobhjlchpnpleaaGreatDoorCa25
import Derived.Test.YtobhjlchpnpleaaGreatDoorCa26
import Derived.Test.YtobhjlchpnpleaaGreatDoorCa13
import Derived.BigQuiet
/- The reference's build, whole: Build. -/
namespace Go.Proofs.YtobhjlchpnpleaaGreatDoor
open Go.RowKit
set_option linter.unusedVariables false
set_option linter.unusedSimpArgs false

theorem refBuild_all (ns : List Tp.Nd) (hm : Tp.may ns = true) : ∀ n, RefBuildOK ns n
 | 0 => fun i vs v vv W hi h => by omega
 | n + 1 => fun i vs v vv W hi hin ht hnd hvl hf => by
  have ih := refBuild_all ns hm n
  by_cases hb : 64 < vs.length
  ·exact refBuild_big ns i vs v vv W ht hvl hb (by rw [Vp.build_eq ns hm i hi vs, if_pos hb])
  ·have hl : vs.length ≤ 64 := by omega
   have hk := Vp.may_kind ns hm i hi
   by_cases k0 : Tp.kindOf ns i = 0
   ·exact refBuild_int ns i vs v vv W ht hnd hm hi hl hf k0
   by_cases k1 : Tp.kindOf ns i = 1
   ·exact refBuild_bool ns i vs v vv W ht hnd hm hi hl hf k1
   by_cases k2 : Tp.kindOf ns i = 2
   ·exact refBuild_str ns i vs v vv W ht hnd hm hi hl hf k2
   by_cases k3 : Tp.kindOf ns i = 3
   ·exact refBuild_list ns i vs v vv W ht hnd hm hi hl hf k3 n ih hin
   ·exact refBuild_struct ns i vs v vv W ht hnd hm hi hl hf (by omega) n ih hin
/-- The reference's Build answers as Build does. -/
def RefBuildR (r : Arr × Int) (W : World) (e : Ending) (w' : World) : Prop :=
 ∃ u, e = .returned (.tuple #[u, .int .i64 r.2]) ∧ ArrOwn w' (fun g => W.heap.size ≤ g) r.1 u ∧ Below W.heap.size W w'
theorem refBuilt_own {W w5 : World} {ar : Arr} {k : Value} {X R : Nat} {x0 x1 x2 x3 x4 x5 x6 : Value} (hk : KidsOwn w5 (fun g => X ≤ g) ar.kids k) (hX : W.heap.size ≤ X ∧ R < X) (hb : Below W.heap.size W (set7 w5 R x0 x1 x2 x3 x4 x5 x6)) :
  RefBuildR (ar, 0) W (.returned (.tuple #[.agg (arrC ar.lay ar.off ar.len ar.valid ar.ends ar.data k), .int .i64 0])) (set7 w5 R x0 x1 x2 x3 x4 x5 x6) := by
 refine ⟨_, rfl, ?_, hb⟩
 have h1 : KidsOwn (set7 w5 R x0 x1 x2 x3 x4 x5 x6) (fun g => X ≤ g) ar.kids k := KidsOwn.same _ _ _ (fun g hg _ => set7_far _ _ _ (by have := hX.2; have : X ≤ g := hg; omega) _ _ _ _ _ _ _) hk
 have h2 := KidsOwn.weak _ _ (fun g => W.heap.size ≤ g) k (fun g hg _ => Nat.le_trans hX.1 hg) h1
 obtain ⟨l, f, n, v, e, d, ks⟩ := ar
 exact ⟨k, rfl, h2⟩
set_option maxRecDepth 100000 in
set_option maxHeartbeats 3200000 in
theorem refBuildR_calls (v vv : Value) (ns : List Tp.Nd) (x : Int) (vs : List Vp.Txt) (W : World) (hn : NodesAt W vv ns) (ht : TextsAt W v vs) (hl : ∀ t ∈ vs, t.length ≤ 140737488351232) (hvl : vs.length ≤ 140737488351232) :
  Calls Tryz.prog 21 #[typeV vv, .int .i64 x, v] W (RefBuildR (Vp.buildR ns x vs) W) := by
 have hb1 : Below W.heap.size W ((W.alloc (.cells #[vv] 24)).alloc (.cells (arrC 0 0 0 [] [] [] (.slice none 0 0)) 27)) := below_alloc (below_alloc (Below.refl _ _) _) _
 have C4 : ((W.alloc (.cells #[vv] 24)).alloc (.cells (arrC 0 0 0 [] [] [] (.slice none 0 0)) 27)).heap[W.heap.size]? = some (.cells #[vv] 24) := (Below.heap_alloc _ _ _ (by simp)).trans (heap_alloc_new W _)
 have C6 : ((W.alloc (.cells #[vv] 24)).alloc (.cells (arrC 0 0 0 [] [] [] (.slice none 0 0)) 27)).heap[W.heap.size + 1]? = some (.cells (arrC 0 0 0 [] [] [] (.slice none 0 0)) 27) := by
  have := heap_alloc_new (W.alloc (.cells #[vv] 24)) (.cells (arrC 0 0 0 [] [] [] (.slice none 0 0)) 27)
  simpa using this
 obtain ⟨W1, hW1⟩ : ∃ W1, ((W.alloc (.cells #[vv] 24)).alloc (.cells (arrC 0 0 0 [] [] [] (.slice none 0 0)) 27)) = W1 := ⟨_, rfl⟩
 have hsz : W1.heap.size = W.heap.size + 2 := by rw [← hW1]; simp
 rw [hW1] at hb1 C4 C6
 have HN := Lib.hid (nodeMay_calls vv ns x W1 (hn.below hb1))
 have HND := Lib.hid (hn.below hb1)
 have HTX := Lib.hid (ht.below hb1)
 have HL := Lib.hid hl
 have HB1 := Lib.hid hb1
 have HRW := Lib.hid (show Vp.buildR ns x vs = if Tp.node ns x && Vp.fitAll ns x vs then ((match Vp.build ns x.toNat vs with | none => (Arr.none, 1001) | some a => (a, 0)) : Arr × Int) else ((Arr.none, 1000) : Arr × Int) from rfl)
 have h3 := cell_of_one C4
 have C4H := Lib.hid C4
 have C6H := Lib.hid C6
 obtain ⟨r0, r1, r2, r3, r4, r5, r6, q0, q1, q2, q3, q4, q5, q6⟩ := zero_cells C6
 clear hn ht hl hb1 C4 C6
 cases hnd : Tp.node ns x with
 | false =>
  rw [hnd] at HN HRW
  rw [Bool.false_and, if_neg (by decide)] at HRW
  obtain ⟨ta, tc, rfl, htc, htm, ht6⟩ := HTX.out
  go_enter Tryz.func21, Tryz.ntmps21
  go_wp2_with (fail)
  refine HN.out.mono ?_
  rintro e w2 ⟨rfl, hb2⟩
  have h5' := (hb2.block _ (by omega)).trans C6H.out
  have HB2 := Lib.hid hb2
  clear hW1 h3 hb2 r0 r1 r2 r3 r4 r5 r6 q0 q1 q2 q3 q4 q5 q6
  obtain ⟨r0, r1, r2, r3, r4, r5, r6, q0, q1, q2, q3, q4, q5, q6⟩ := zero_cells h5'
  go_wp2
  (try simp only [Exit.inBlock, Exit.then])
  refine bodyPost_ret (results_cell2_row rfl _ _ (W.heap.size + 1) 27 (arrC 0 0 0 [] [] [] (.slice none 0 0)) (0, 0) _ rfl (set7_at h5' _ _ _ _ _ _ _) Tryz.underlying27 rfl info_array_size) rfl ?_
  rw [HRW.out]
  exact ⟨_, rfl, none_own _ _, below_set7 (HB1.out.trans (HB2.out.mono (by omega))) (by omega) _ _ _ _ _ _ _⟩
 | true =>
  rw [hnd, Bool.true_and] at HRW
  rw [hnd] at HN
  have hxn : 0 ≤ x ∧ x < ns.length := by
   unfold Tp.node at hnd
   rw [Bool.and_eq_true, decide_eq_true_eq] at hnd
   exact hnd.2
  obtain ⟨i, rfl⟩ := Int.eq_ofNat_of_zero_le hxn.1
  have hmi := (Vp.node_of ns i).1 hnd
  rw [Int.toNat_natCast] at HRW
  obtain ⟨ta, tc, rfl, htc, htm, ht6⟩ := HTX.out
  unfold maxLen at htm
  replace ht6 := Lib.hid ht6
  have HMI := Lib.hid hmi
  clear hxn hmi hnd
  go_enter Tryz.func21, Tryz.ntmps21
  go_wp2_with (fail)
  refine HN.out.mono ?_
  rintro e w2 ⟨rfl, hb2⟩
  have HB2 := Lib.hid hb2
  clear hW1 h3 hb2 r0 r1 r2 r3 r4 r5 r6 q0 q1 q2 q3 q4 q5 q6
  go_wp2
  go_loopw [8] (fun ix wr => ∃ q : Nat, q ≤ vs.length ∧ ix = .int .i64 (q : Int) ∧ (∀ t ∈ vs.take q, Vp.fits ns (t.length + 1) (i : Int) t = true) ∧ Below W1.heap.size W1 wr) (fun ix _ => vs.length - (intOf ix).toNat)
  case atStart => exact ⟨0, Nat.zero_le _, rfl, by simp, HB2.out⟩
  case round =>
   obtain ⟨q, hq, rfl, hall, hbr⟩ := hrel
   have HALL := Lib.hid hall
   have HBR := Lib.hid hbr
   have h3 := cell_of_one ((hbr.block _ (by omega)).trans C4H.out)
   have h5' := (hbr.block _ (by omega)).trans C6H.out
   have hsr := hbr.size
   clear hall hbr
   obtain ⟨r0, r1, r2, r3, r4, r5, r6, q0, q1, q2, q3, q4, q5, q6⟩ := zero_cells h5'
   by_cases hlt : q < vs.length
   ·obtain ⟨bt, ot, rfl, hbt, hcell⟩ := ht6.out (by intro e; rw [e] at hlt; exact Nat.not_lt_zero _ hlt)
    have c0 := (HBR.out.cell (p := ⟨bt, ot + q, none⟩) hbt).trans (hcell q _ (List.getElem?_eq_getElem hlt))
    have hqi : (q : Int) < (vs.length : Int) := by omega
    have HT := Lib.hid (show vs.take (q + 1) = vs.take q ++ [vs[q]] from List.take_succ_eq_append_getElem hlt)
    have hlen := HL.out _ (List.getElem_mem hlt)
    have HMEM := Lib.hid (List.getElem_mem hlt)
    clear hcell
    generalize vs[q] = t at c0 HT hlen HMEM
    have HF := Lib.hid (fun w' (h : Below wr.heap.size wr w') => refFits_calls vv ns (i : Int) t w' (HND.out.below (below_then HBR.out h)) hlen)
    cases hf : Vp.fits ns (t.length + 1) (i : Int) t with
    | false =>
     rw [hf] at HF
     have hfa : Vp.fitAll ns (i : Int) vs = false := by
      unfold Vp.fitAll
      exact List.all_eq_false.2 ⟨t, HMEM.out, by rw [hf]; decide⟩
     rw [hfa, if_neg (by decide)] at HRW
     clear hf hfa
     go_wp2
     go_region_with (go_at_call 43; refine (HF.out _ (by first | exact Below.refl _ _ | exact below_drew (Below.refl _ _))).mono ?_; rintro e7 w7 ⟨rfl, hb7⟩; have hB7 : Below wr.heap.size wr w7 := (by first | exact hb7 | exact below_drew_then hb7))
     all_goals
      have h7 := (hB7.block _ (by omega)).trans h5'
      clear r0 r1 r2 r3 r4 r5 r6 q0 q1 q2 q3 q4 q5 q6
      obtain ⟨r0, r1, r2, r3, r4, r5, r6, q0, q1, q2, q3, q4, q5, q6⟩ := zero_cells h7
      go_wp2
      (try simp only [Exit.inBlock, Exit.then])
      refine bodyPost_ret (results_cell2_row rfl _ _ (W.heap.size + 1) 27 (arrC 0 0 0 [] [] [] (.slice none 0 0)) (0, 0) _ rfl (set7_at h7 _ _ _ _ _ _ _) Tryz.underlying27 rfl info_array_size) rfl ?_
      rw [HRW.out]
      exact ⟨_, rfl, none_own _ _, below_set7 (HB1.out.trans ((below_then HBR.out hB7).mono (by omega))) (by omega) _ _ _ _ _ _ _⟩
    | true =>
     rw [hf] at HF
     have HFT := Lib.hid hf
     clear hf
     go_wp2
     go_region_with (go_at_call 43; refine (HF.out _ (by first | exact Below.refl _ _ | exact below_drew (Below.refl _ _))).mono ?_; rintro e7 w7 ⟨rfl, hb7⟩; have hB7 : Below wr.heap.size wr w7 := (by first | exact hb7 | exact below_drew_then hb7))
     all_goals
      go_wp2
      refine ⟨⟨q + 1, by omega, by go_num, fun u hu => ?_, below_then HBR.out hB7⟩, by simp [intOf]; omega⟩
      rw [HT.out, List.mem_append] at hu
      rcases hu with hu | hu
      ·exact HALL.out u hu
      ·rw [List.mem_singleton.1 hu]; exact HFT.out
   ·obtain rfl : q = vs.length := by omega
    have hal := HALL.out
    rw [List.take_length] at hal
    have hfa : Vp.fitAll ns (i : Int) vs = true := by
     unfold Vp.fitAll
     exact List.all_eq_true.2 hal
    have HFIT := Lib.hid ((Vp.fitAll_iff ns i vs).1 hfa)
    rw [hfa, if_pos rfl] at HRW
    have HBU := Lib.hid (refBuild_all ns HMI.out.1 ns.length i vs (.slice ta vs.length tc) vv wr HMI.out.2 (by omega) (HTX.out.below HBR.out) (HND.out.below HBR.out) hvl HFIT.out)
    clear hal hfa r0 r1 r2 r3 r4 r5 r6 q0 q1 q2 q3 q4 q5 q6
    go_wp2_with (fail)
    refine HBU.out.mono ?_
    rintro e w4 ⟨u, b, ar, rfl, hao, hm4, hb4⟩
    obtain ⟨k, ac, cc, hk, rfl, hko⟩ := hao.value
    subst hk
    have h4' := (hb4.block _ (by omega)).trans h5'
    have HB4 := Lib.hid hb4
    have HKO := Lib.hid hko
    have hs4 := hb4.size
    clear hko hb4 h3 h5'
    have HB5 := Lib.hid (below_alloc (below_then HBR.out HB4.out) (.cells (arrC ar.lay ar.off ar.len ar.valid ar.ends ar.data (.slice ac ar.kids.length cc)) 27))
    have h5' := (Below.heap_alloc w4 (.cells (arrC ar.lay ar.off ar.len ar.valid ar.ends ar.data (.slice ac ar.kids.length cc)) 27) (W.heap.size + 1) (by omega)).trans h4'
    have h9' := heap_alloc_new w4 (.cells (arrC ar.lay ar.off ar.len ar.valid ar.ends ar.data (.slice ac ar.kids.length cc)) 27)
    have HKO5 := Lib.hid (KidsOwn.same _ _ _ (fun g _ hc => KeepT.below (e := 27) ((Below.refl w4.heap.size w4).alloc (Nat.le_refl _) (.cells (arrC ar.lay ar.off ar.len ar.valid ar.ends ar.data (.slice ac ar.kids.length cc)) 27)) g hc) HKO.out)
    have h94 : ¬ w4.heap.size = W.heap.size + 1 := by omega
    have h49 : ¬ W.heap.size + 1 = w4.heap.size := by omega
    go_upto_region 9 with (fail)
    obtain ⟨w5, hw5⟩ : ∃ w5, w4.alloc (.cells (arrC ar.lay ar.off ar.len ar.valid ar.ends ar.data (.slice ac ar.kids.length cc)) 27) = w5 := ⟨_, rfl⟩
    rw [hw5] at HB5 h5' h9' HKO5 ⊢
    clear hw5 HB4 HKO h4'
    obtain ⟨r0, r1, r2, r3, r4, r5, r6, q0, q1, q2, q3, q4, q5, q6⟩ := zero_cells h5'
    obtain ⟨o0, o1, o2, o3, o4, o5, o6, p0, p1, p2, p3, p4, p5, p6⟩ := zero_cells h9'
    cases b with
    | false =>
     have hbn : Vp.build ns i vs = none := by
      cases hb : Vp.build ns i vs with
      | none => rfl
      | some y => rw [hb] at hm4; exact absurd hm4.1 (by decide)
     rw [hbn] at HRW
     go_wp2
     (try simp only [Exit.inBlock, Exit.then])
     refine bodyPost_ret (results_cell2_row rfl _ _ (W.heap.size + 1) 27 (arrC 0 0 0 [] [] [] (.slice none 0 0)) (0, 0) _ rfl (set7_at h5' _ _ _ _ _ _ _) Tryz.underlying27 rfl info_array_size) rfl ?_
     rw [HRW.out]
     exact ⟨_, rfl, none_own _ _, below_set7 (HB1.out.trans (HB5.out.mono (by omega))) (by omega) _ _ _ _ _ _ _⟩
    | true =>
     have hby : Vp.build ns i vs = some ar := by
      cases hb : Vp.build ns i vs with
      | none => rw [hb] at hm4; exact Bool.noConfusion (show true = false from hm4)
      | some y => rw [hb] at hm4; rw [hm4.2]
     rw [hby] at HRW
     go_wp2
     (try simp only [Exit.inBlock, Exit.then])
     refine bodyPost_ret (results_cell2_row rfl _ _ (W.heap.size + 1) 27 (arrC ar.lay ar.off ar.len ar.valid ar.ends ar.data (.slice ac ar.kids.length cc)) (0, 0) _ rfl (set7_at h5' _ _ _ _ _ _ _) Tryz.underlying27 rfl info_array_size) rfl ?_
     rw [HRW.out]
     exact refBuilt_own HKO5.out (by omega) (below_set7 (HB1.out.trans (HB5.out.mono (by omega))) (by omega) _ _ _ _ _ _ _)
end Go.Proofs.YtobhjlchpnpleaaGreatDoor

/- Numbers and bits at places, as packages num, bits, array read them, walked. -/
namespace Go.Proofs.YtobhjlchpnpleaaGreatDoor
open Go.RowKit Bt
set_option linter.unusedVariables false
set_option linter.unusedSimpArgs false

theorem le_snoc (l : List UInt8) (c : UInt8) : Vp.le (l ++ [c]) = Vp.le l + 256 ^ l.length * c.toNat := by
 induction l with
 | nil => simp [Vp.le]
 | cons a r ih =>
  rw [List.cons_append, Vp.le_cons, Vp.le_cons, ih, List.length_cons, Nat.pow_succ, Nat.mul_add, ← Nat.add_assoc]
  congr 1
  rw [Nat.mul_comm (256 ^ r.length) 256, Nat.mul_assoc]
theorem take_le_step (l : List UInt8) (k : Nat) (h : k < l.length) : Vp.le (l.take (k + 1)) = Vp.le (l.take k) + 256 ^ k * l[k].toNat := by
 rw [List.take_succ_eq_append_getElem h, le_snoc, List.length_take, Nat.min_eq_left (Nat.le_of_lt h)]
theorem or_high (a c k : Nat) (ha : a < 256 ^ k) : a ||| (c * 2 ^ (8 * k)) = a + 256 ^ k * c := by
 have e : (256 : Nat) ^ k = 2 ^ (8 * k) := by rw [Nat.pow_mul]
 rw [e] at ha ⊢
 have := Nat.shiftLeft_add_eq_or_of_lt (b := a) (i := 8 * k) ha c
 rw [Nat.shiftLeft_eq] at this
 rw [Nat.or_comm, ← this, Nat.mul_comm, Nat.add_comm]
set_option maxHeartbeats 1600000 in
theorem numOf_calls (l : Vp.Txt) (W : World) (hl : l.length ≤ 8) :
  Calls Tryz.prog 137 #[.string ⟨l.toArray⟩] W fun e w' => e = .returned (.int .i64 (IntKind.i64.wrap (Vp.le l : Nat))) ∧ W = w' := by
 have hz := mk_size l
 go_enter Tryz.func137, Tryz.ntmps137
 go_wp2
 go_loop [3, 4, 7] (fun x _ i => ∃ k : Nat, k ≤ l.length ∧ i = .int .i64 (k : Int) ∧ x = .int .u64 (Vp.le (l.take k) : Nat)) (fun _ _ i => l.length - (intOf i).toNat)
 case atStart => exact ⟨0, Nat.zero_le _, rfl, rfl⟩
 case round =>
  obtain ⟨k, hk, rfl, rfl⟩ := hrel
  by_cases hlt : k < l.length
  ·have hlti : (k : Int) < (l.length : Int) := by omega
   have hu : l[k] = (⟨l.toArray⟩ : ByteArray)[k]'(by omega) := rfl
   have HL := hl
   have hst := take_le_step l k hlt
   have hle := le_lt (l.take k)
   rw [List.length_take, Nat.min_eq_left (Nat.le_of_lt hlt)] at hle
   generalize Vp.le (l.take k) = a at hst hle
   rw [hu] at hst
   have hc8 := ((⟨l.toArray⟩ : ByteArray)[k]'(by omega)).toNat_lt
   go_wp2
   refine ⟨⟨k + 1, by omega, by go_num, ?_⟩, by simp [intOf]; omega⟩
   have hk7 : k ≤ 7 := by omega
   have hpw := pow256 k hk7
   have e2 : (256 : Nat) ^ k = 2 ^ (8 * k) := by rw [Nat.pow_mul]
   have hc2 : ((⟨l.toArray⟩ : ByteArray)[k]'(by omega)).toNat * 2 ^ (8 * k) ≤ 255 * 72057594037927936 := Nat.mul_le_mul (by omega) (by rw [← e2]; exact hpw)
   have e1 : IntKind.u64.wrap ((((⟨l.toArray⟩ : ByteArray)[k]'(by omega)).toNat : Int) * 2 ^ (8 * k)) = ((((⟨l.toArray⟩ : ByteArray)[k]'(by omega)).toNat * 2 ^ (8 * k) : Nat) : Int) := by
    rw [show (((⟨l.toArray⟩ : ByteArray)[k]'(by omega)).toNat : Int) * 2 ^ (8 * k) = ((((⟨l.toArray⟩ : ByteArray)[k]'(by omega)).toNat * 2 ^ (8 * k) : Nat) : Int) by simp]
    generalize ((⟨l.toArray⟩ : ByteArray)[k]'(by omega)).toNat * 2 ^ (8 * k) = X at hc2 ⊢
    rw [IntKind.wrap_u64]
    omega
   rw [e1, u64_or_nat _ _ (by omega) (by omega), or_high _ _ _ hle, hst]
  ·obtain rfl : k = l.length := by omega
   go_wp2
   go_ret
   exact ⟨congrArg (fun x => Ending.returned (Value.int .i64 x)) (by rw [IntKind.wrap_i64, wrap64]), rfl⟩
theorem padMay_calls (x : Int) (W : World) : Calls Tryz.prog 151 #[.int .i64 x] W fun e w' => e = .returned (.bool (decide (0 ≤ x ∧ x ≤ 2147483647))) ∧ W = w' := by
 by_cases h0 : 0 ≤ x
 ·by_cases h1 : x ≤ 2147483647
  ·go_enter Tryz.func151, Tryz.ntmps151
   go_wp2
   go_ret
   exact ⟨ret_bool (decide_eq_true ⟨h0, h1⟩).symm, rfl⟩
  ·have hd : decide (x ≤ 2147483647) = false := decide_eq_false h1
   go_enter Tryz.func151, Tryz.ntmps151
   go_wp2
   go_ret
   exact ⟨ret_bool (by first | (simp; done) | (simp; omega)), rfl⟩
 ·have hd : decide (0 ≤ x) = false := decide_eq_false h0
  go_enter Tryz.func151, Tryz.ntmps151
  go_wp2
  go_ret
  exact ⟨ret_bool (by first | (simp; done) | (simp; omega)), rfl⟩
set_option maxHeartbeats 1600000 in
theorem get4_calls (l : Vp.Txt) (i : Nat) (W : World) (hl : l.length ≤ 140737488351232) (hi : i ≤ 140737488351232) :
  Calls Tryz.prog 134 #[.string ⟨l.toArray⟩, .int .i64 (4 * (i : Int)), .int .i64 4] W fun e w' => e = .returned (.tuple #[.int .i64 (num4R l i).1, .int .i64 (num4R l i).2]) ∧ W = w' := by
 have hz := mk_size l
 by_cases h4 : 4 * i + 4 ≤ l.length
 ·have hcl : ((l.drop (4 * i)).take 4).length = 4 := by rw [List.length_take, List.length_drop]; omega
  have hd : decide (4 * (i : Int) < 0) = false := by simp; omega
  have hd2 : 4 * (i : Int) ≤ (l.length : Int) := by omega
  have hd3 : 4 ≤ (l.length : Int) - 4 * (i : Int) := by omega
  have hex := mk_extract l (4 * i) (4 * i + 4)
  rw [← List.take_drop] at hex
  have HEX := Lib.hid hex
  have hc8 := le_lt ((l.drop (4 * i)).take 4)
  rw [hcl] at hc8
  have hcut : Vp.cut4 l i = Vp.le ((l.drop (4 * i)).take 4) := rfl
  have HN := Lib.hid (fun W => numOf_calls ((l.drop (4 * i)).take 4) W (by omega))
  rw [← hcut] at HN hc8
  rw [show IntKind.i64.wrap (Vp.cut4 l i : Nat) = (Vp.cut4 l i : Nat) by rw [IntKind.wrap_i64]; omega] at HN
  clear hex hcut hcl
  obtain ⟨x, hx⟩ : ∃ x, Vp.cut4 l i = x := ⟨_, rfl⟩
  by_cases hm : x ≤ 2147483647
  ·have HU := Lib.hid (show num4R l i = ((x : Int), 0) by unfold num4R Vp.num4; rw [hx, if_pos ⟨h4, hm⟩]; rfl)
   have HI := Lib.hid (fun W => padMay_calls (x : Int) W)
   rw [decide_eq_true (show 0 ≤ (x : Int) ∧ (x : Int) ≤ 2147483647 by omega)] at HI
   rw [hx] at HN
   clear hx hc8
   go_enter Tryz.func134, Tryz.ntmps134
   go_wp2_with (fail)
   rw [HEX.out]
   refine (HN.out _).mono ?_; rintro e w' ⟨rfl, rfl⟩
   go_wp2_with (fail)
   refine (HI.out _).mono ?_; rintro e w' ⟨rfl, rfl⟩
   go_wp2
   go_ret2
   exact ⟨by rw [HU.out]; rfl, rfl⟩
  ·have HU := Lib.hid (show num4R l i = (0, 300) by unfold num4R Vp.num4; rw [hx, if_neg (by omega)]; rfl)
   have HI := Lib.hid (fun W => padMay_calls (x : Int) W)
   rw [decide_eq_false (show ¬ (0 ≤ (x : Int) ∧ (x : Int) ≤ 2147483647) by omega)] at HI
   rw [hx] at HN
   clear hx hc8
   go_enter Tryz.func134, Tryz.ntmps134
   go_wp2_with (fail)
   rw [HEX.out]
   refine (HN.out _).mono ?_; rintro e w' ⟨rfl, rfl⟩
   go_wp2_with (fail)
   refine (HI.out _).mono ?_; rintro e w' ⟨rfl, rfl⟩
   go_wp2
   go_ret2
   exact ⟨by rw [HU.out]; rfl, rfl⟩
 ·have HU := Lib.hid (show num4R l i = (0, 300) by unfold num4R Vp.num4; rw [if_neg (by omega)]; rfl)
  by_cases hgt : 4 * (i : Int) ≤ (l.length : Int)
  ·have hd : (l.length : Int) - 4 * (i : Int) < 4 := by omega
   go_enter Tryz.func134, Tryz.ntmps134
   go_wp2_with (fail)
   go_ret2
   exact ⟨by rw [HU.out]; rfl, rfl⟩
  ·go_enter Tryz.func134, Tryz.ntmps134
   go_wp2_with (fail)
   go_ret2
   exact ⟨by rw [HU.out]; rfl, rfl⟩
theorem number4_calls (l : Vp.Txt) (i : Nat) (W : World) (hl : l.length ≤ 140737488351232) (hi : i ≤ 140737488351232) :
  Calls Tryz.prog 114 #[.string ⟨l.toArray⟩, .int .i64 (i : Int)] W fun e w' => e = .returned (.tuple #[.int .i64 (Vp.num4 l i).1, .bool (Vp.num4 l i).2]) ∧ W = w' := by
 have HG := Lib.hid (fun W => get4_calls l i W hl hi)
 have hr : num4R l i = ((Vp.num4 l i).1, if (Vp.num4 l i).2 then 0 else 300) := rfl
 rw [hr] at HG
 generalize Vp.num4 l i = q at HG ⊢
 obtain ⟨x, b⟩ := q
 cases b <;>
 ·go_enter Tryz.func114, Tryz.ntmps114
  go_wp2_with (go_at_call 134; refine (HG.out _).mono ?_; rintro e w' ⟨rfl, rfl⟩)
  go_ret2
  exact ⟨rfl, rfl⟩
set_option maxHeartbeats 800000 in
theorem bitsOn_calls (s : ByteArray) (x : Int) (w : World) (h0 : 0 ≤ x) (h1 : x < 8 * (s.size : Int)) (hs : s.size ≤ 140737488351232) :
  Calls Tryz.prog 135 #[.string s, .int .i64 x] w fun e w' => e = .returned (.bool (bit s.data.toList x.toNat)) ∧ w = w' := by
 obtain ⟨n, rfl⟩ := Int.eq_ofNat_of_zero_le h0
 rw [Int.toNat_natCast]
 have hn : n / 8 < s.size := by omega
 have hn' : (n : Int) / 8 < (s.size : Int) := by omega
 have HG := Lib.hid (show bit s.data.toList n = s[n / 8].toNat.testBit (n % 8) by unfold bit; rw [getb_at s (n / 8) hn])
 go_enter Tryz.func135, Tryz.ntmps135
 go_wp2
 go_ret
 exact ⟨ret_bool (by rw [HG.out]; exact byte_bit _ _), rfl⟩
/-- An array's cells, from a place on. -/
def CellA (W : World) (g o : Nat) (l f n : Int) (v e d : Vp.Txt) (k : Value) : Prop :=
 W.cell? ⟨g, o, none⟩ = some (.int .i64 l) ∧ W.cell? ⟨g, o + 1, none⟩ = some (.int .i64 f) ∧ W.cell? ⟨g, o + 2, none⟩ = some (.int .i64 n) ∧
 W.cell? ⟨g, o + 3, none⟩ = some (tv v) ∧ W.cell? ⟨g, o + 4, none⟩ = some (tv e) ∧ W.cell? ⟨g, o + 5, none⟩ = some (tv d) ∧ W.cell? ⟨g, o + 6, none⟩ = some k
theorem CellA.below {W w : World} {g o : Nat} {l f n : Int} {v e d : Vp.Txt} {k : Value} (h : CellA W g o l f n v e d k) (hb : Below W.heap.size W w) (hg : g < W.heap.size) : CellA w g o l f n v e d k := by
 have cc := fun j => hb.cell (p := ⟨g, j, none⟩) hg
 exact ⟨(cc _).trans h.1, (cc _).trans h.2.1, (cc _).trans h.2.2.1, (cc _).trans h.2.2.2.1, (cc _).trans h.2.2.2.2.1, (cc _).trans h.2.2.2.2.2.1, (cc _).trans h.2.2.2.2.2.2⟩
theorem There_calls (g o : Nat) (l f n : Int) (v e d : Vp.Txt) (k : Value) (row : Nat) (W : World) (ha : CellA W g o l f n v e d k) (hv : v ≠ [] → row < 8 * v.length) (hvl : v.length ≤ 65536) :
  Calls Tryz.prog 115 #[.pointer (some ⟨g, o, none⟩), .int .i64 (row : Int)] W fun x w' => x = .returned (.bool (Vp.on v row)) ∧ W = w' := by
 obtain ⟨_, _, _, c3, _⟩ := ha
 simp only [tv] at c3
 have hz := mk_size v
 by_cases he : v = []
 ·subst he
  go_enter Tryz.func115, Tryz.ntmps115
  go_wp2
  go_ret
  exact ⟨ret_bool rfl, rfl⟩
 ·have hi := no_empty he
  have hr := hv he
  have HR := Lib.hid (fun W => bitsOn_calls ⟨v.toArray⟩ (row : Int) W (by omega) (by omega) (by omega))
  rw [Int.toNat_natCast] at HR
  have HU := Lib.hid (show Vp.on v row = Bt.bit v row by unfold Vp.on; rw [decide_eq_false he, Bool.false_or])
  go_enter Tryz.func115, Tryz.ntmps115
  go_wp2_with (go_at_call 135; refine (HR.out _).mono ?_; rintro e w' ⟨rfl, rfl⟩)
  go_ret
  exact ⟨ret_bool (by rw [HU.out]), rfl⟩
end Go.Proofs.YtobhjlchpnpleaaGreatDoor
