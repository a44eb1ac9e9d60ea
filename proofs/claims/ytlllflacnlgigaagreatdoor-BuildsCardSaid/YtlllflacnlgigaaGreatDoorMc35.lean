/- The reference's valid and zero, walked. -/
import Derived.Test.YtlllflacnlgigaaGreatDoorMc26
import Derived.Test.YtlllflacnlgigaaGreatDoorMc32
import Derived.Test.YtlllflacnlgigaaGreatDoorMc28
import Derived.Test.YtlllflacnlgigaaGreatDoorMc17
import Derived.Test.YtlllflacnlgigaaGreatDoorMc34
import Derived.Test.YtlllflacnlgigaaGreatDoorMc2
namespace Go.Proofs.YtlllflacnlgigaaGreatDoor
open Go.RowKit
set_option linter.unusedVariables false
set_option linter.unusedSimpArgs false

theorem all_snocB (vs : List Vp.Txt) (k : Nat) (h : k < vs.length) : ((vs.take (k + 1)).all fun v => decide (v ≠ Vp.nul)) = (((vs.take k).all fun v => decide (v ≠ Vp.nul)) && decide (vs[k] ≠ Vp.nul)) := by
  rw [List.take_succ_eq_append_getElem h, List.all_append, List.all_cons, List.all_nil, Bool.and_true]
set_option maxRecDepth 100000 in
set_option maxHeartbeats 1600000 in
theorem refValid_calls (v : Value) (vs : List Vp.Txt) (W : World) (ht : TextsAt W v vs) (hn : vs.length ≤ 140737488351232) :
    Calls Tryz.prog 84 #[v] W fun e w' => e = .returned (tv (Vp.valid vs)) ∧ Below W.heap.size W w' := by
  obtain ⟨a, c, rfl, hc, hm, h3⟩ := ht
  unfold maxLen at hm
  replace h3 := Lib.hid h3
  have HE := Lib.hid (Vp.valid_eq vs)
  have htl : (Vp.there vs).length = vs.length := by simp [Vp.there]
  go_enter Tryz.func84, Tryz.ntmps84
  go_wp2
  go_loopw [3, 4, 5] (fun u al i wr => ∃ k : Nat, k ≤ vs.length ∧ i = .int .i64 k ∧ al = .bool ((vs.take k).all fun v => decide (v ≠ Vp.nul)) ∧ wr.ownsRow W.heap.size 4 1 u k (bools (Vp.there (vs.take k))) ∧ Below W.heap.size W wr) (fun _ _ i _ => vs.length - (intOf i).toNat)
  case atStart => exact ⟨0, Nat.zero_le _, rfl, rfl, own_nil, Below.refl _ _⟩
  case round =>
    obtain ⟨k, hk, rfl, rfl, hu, hb⟩ := hrel
    replace hu := Lib.hid hu
    by_cases hlt : k < vs.length
    · obtain ⟨bk, o, rfl, hbk, hcell⟩ := h3.out (by intro e; rw [e] at hlt; exact Nat.not_lt_zero _ hlt)
      have c0 := (hb.cell (p := ⟨bk, o + k, none⟩) hbk).trans (hcell k _ (List.getElem?_eq_getElem hlt))
      have HT := Lib.hid (show bools (Vp.there (vs.take (k + 1))) = bools (Vp.there (vs.take k)) ++ [.bool (decide (vs[k] ≠ Vp.nul))] by
        unfold Vp.there bools
        rw [List.take_succ_eq_append_getElem hlt, List.map_append, List.map_append]; rfl)
      have HA := Lib.hid (all_snocB vs k hlt)
      have hlti : (k : Int) < (vs.length : Int) := by omega
      clear hcell h3
      generalize vs[k] = x at c0 HT HA
      have hx : (!(x == [110])) = decide (x ≠ Vp.nul) := by
        rw [Bool.eq_iff_iff, Bool.not_eq_true', beq_eq_false_iff_ne, decide_eq_true_eq]; rfl
      have hx2 : (x != [110]) = decide (x ≠ Vp.nul) := hx
      generalize decide (x ≠ Vp.nul) = d at hx hx2 HT HA
      generalize ((vs.take k).all fun v => decide (v ≠ Vp.nul)) = al at HA
      have c1 : ∀ w', Below wr.heap.size wr w' → w'.cell? ⟨bk, o + k, none⟩ = some (tv x) := fun w' h => (h.cell (p := ⟨bk, o + k, none⟩) (cell_lt c0)).trans c0
      have C1 := Lib.hid c1
      clear c1
      cases al with
      | true =>
        go_wp2_with (at_builtin; refine wp_app1 rfl _ _ 117 4 rfl W.heap.size 1 (.bool false) Tryz.underlying117 info_boolc rfl _ _ _ rfl rfl rfl hu.out (by omega) (by omega) hb.size ?_; intro v4 w4 ho4 hb4 hg4; have hb9 := hb.trans hb4; have c9 := (hb9.cell (p := ⟨bk, o + k, none⟩) hbk).trans ((hb.cell (p := ⟨bk, o + k, none⟩) hbk).symm.trans c0))
        exact ⟨⟨k + 1, by omega, by go_num, by rw [HA.out]; simp, by rw [HT.out]; exact ho4, hb.trans hb4⟩, by simp [intOf]; omega⟩
      | false =>
        go_wp2_with (at_builtin; refine wp_app1 rfl _ _ 117 4 rfl W.heap.size 1 (.bool false) Tryz.underlying117 info_boolc rfl _ _ _ rfl rfl rfl hu.out (by omega) (by omega) hb.size ?_; intro v4 w4 ho4 hb4 hg4)
        exact ⟨⟨k + 1, by omega, by go_num, by rw [HA.out]; simp, by rw [HT.out]; exact ho4, hb.trans hb4⟩, by simp [intOf]; omega⟩
    · obtain rfl : k = vs.length := by omega
      have hu2 := hu.out
      rw [List.take_length, ← htl] at hu2
      have HB := Lib.hid (refBitsOf_calls _ _ (Vp.there vs) _ hu2 (by omega))
      obtain ⟨ua, uc, hua⟩ := own_slice hu2
      rw [htl] at hua
      subst hua
      rw [List.take_length]
      cases hcf : (vs.all fun v => decide (v ≠ Vp.nul)) with
      | true =>
        rw [if_pos hcf] at HE
        go_wp2
        go_ret
        exact ⟨by rw [HE.out]; rfl, hb⟩
      | false =>
        rw [if_neg (by rw [hcf]; decide)] at HE
        go_wp2_with (go_at_call 87; refine HB.out.mono ?_; rintro e w' ⟨rfl, hb2⟩)
        go_ret
        exact ⟨by rw [HE.out]; rfl, below_then hb hb2⟩

def RefZeroOK (ns : List Tp.Nd) (n : Nat) : Prop := ∀ (i : Nat) (vv : Value) (W : World), i < ns.length → ns.length - i ≤ n → NodesAt W vv ns →
  Calls Tryz.prog 86 #[typeV vv, .int .i64 (i : Int)] W fun e w' => e = .returned (tv (Vp.zero ns i)) ∧ Below W.heap.size W w'
set_option maxRecDepth 100000 in
set_option maxHeartbeats 3200000 in
theorem refZero_succ (ns : List Tp.Nd) (hm : Tp.may ns = true) (n : Nat) (ih : RefZeroOK ns n) : RefZeroOK ns (n + 1) := by
  intro i vv W hi hin hn
  have hzs := zero_size hm hi
  have HE := Lib.hid (Vp.zero_eq ns hm i hi)
  have hbox : Below W.heap.size W (W.alloc (.cells #[vv] 25)) := (Below.refl _ _).alloc (Nat.le_refl _) _
  have hps : W.heap.size < (W.alloc (.cells #[vv] 25)).heap.size := by simp
  have hpc : (W.alloc (.cells #[vv] 25)).cell? ⟨W.heap.size, 0, none⟩ = some vv := by simp
  have HN := Lib.hid hn
  have hn2 := hn.below hbox
  obtain ⟨bk, o, c, rfl, hc1, hc2, hbk, g0, g2⟩ := nodes_open hn2 hi
  have HBX := Lib.hid hbox
  have HN2 := Lib.hid hn2
  clear hn hn2
  have hii : (i : Int) < (ns.length : Int) := by omega
  have hkind := Vp.may_kind ns hm i hi
  unfold maxLen at hc2
  obtain ⟨z, hz⟩ : ∃ z, Vp.zero ns i = z := ⟨_, rfl⟩
  rw [hz] at HE hzs ⊢
  clear hz
  have q4 := hpc
  cases hnu : Vp.isNull ns i with
  | true =>
    rw [hnu] at g2
    rw [hnu, if_pos rfl] at HE
    go_enter Tryz.func86, Tryz.ntmps86
    go_wp2_with (fail)
    go_ret
    exact ⟨by rw [HE.out]; rfl, HBX.out⟩
  | false =>
    rw [hnu] at g2
    rw [hnu, if_neg (by decide)] at HE
    have hnd := (Vp.node_of ns i).2 ⟨hm, hi⟩
    have HIN := Lib.hid hin
    have HK := Lib.hid (fun w (h : NodesAt w (.slice (some ⟨bk, o, none⟩) ns.length c) ns) => refKids_calls _ ns (i : Int) w h hnd)
    have HG := Lib.hid (fun k (h : k ∈ Tp.kids ns (i : Int)) => Vp.kids_gt ns hm i k h)
    have hkm := Vp.kids_many hm i
    have hl8 := (Vp.may_len ns hm).2
    obtain ⟨kd, hkd⟩ : ∃ kd, Tp.kindOf ns i = kd := ⟨_, rfl⟩
    rw [hkd] at g0 HE hkind
    clear hkd hnu hnd hin
    by_cases k0 : kd = 0
    · subst k0
      rw [if_pos rfl, show Vp.int 0 = [105, 48, 59] by decide +kernel] at HE
      go_enter Tryz.func86, Tryz.ntmps86
      go_wp2_with (fail)
      go_ret
      exact ⟨by rw [HE.out]; rfl, HBX.out⟩
    by_cases k1 : kd = 1
    · subst k1
      rw [if_neg (by decide), if_pos rfl] at HE
      go_enter Tryz.func86, Tryz.ntmps86
      go_wp2_with (fail)
      go_ret
      exact ⟨by rw [HE.out]; rfl, HBX.out⟩
    by_cases k2 : kd = 2
    · subst k2
      rw [if_neg (by decide), if_neg (by decide), if_pos rfl, show Vp.str [] = [115, 48, 58] by decide +kernel] at HE
      go_enter Tryz.func86, Tryz.ntmps86
      go_wp2_with (fail)
      go_ret
      exact ⟨by rw [HE.out]; rfl, HBX.out⟩
    by_cases k3 : kd = 3
    · subst k3
      rw [if_neg (by decide), if_neg (by decide), if_neg (by decide), if_pos rfl] at HE
      go_enter Tryz.func86, Tryz.ntmps86
      go_wp2_with (fail)
      go_ret
      exact ⟨by rw [HE.out]; rfl, HBX.out⟩
    obtain rfl : kd = 4 := by omega
    rw [if_neg (by decide), if_neg (by decide), if_neg (by decide), if_neg (by decide)] at HE
    have hjl : (Vp.join ((Tp.kids ns (i : Int)).map (Vp.zero ns))).length ≤ 65536 := by
      have := HE.out
      rw [this] at hzs
      simp [Vp.struct] at hzs
      omega
    obtain ⟨ks, hks⟩ : ∃ ks, Tp.kids ns (i : Int) = ks := ⟨_, rfl⟩
    rw [hks] at HE HK HG hkm hjl
    clear hks
    go_enter Tryz.func86, Tryz.ntmps86
    go_wp2_with (fail)
    refine (HK.out _ HN2.out).mono ?_; rintro e w3 ⟨rk, rfl, hko, hb3⟩
    have HB3 := below_then HBX.out hb3
    have hp3 := (hb3.cell (p := ⟨W.heap.size, 0, none⟩) hps).trans hpc
    have HN3 := Lib.hid (HN2.out.below hb3)
    obtain ⟨ra, rc, rfl⟩ := own_slice hko
    have HKO := Lib.hid (own_nats hko)
    clear hko
    go_wp2_with (fail)
    go_loopw [7, 8] (fun vs ix wr => ∃ q : Nat, q ≤ ks.length ∧ ix = .int .i64 (q : Int) ∧ wr.ownsRow w3.heap.size 9 1 vs q (((ks.take q).map (Vp.zero ns)).map tv) ∧ Below w3.heap.size w3 wr) (fun _ ix _ => ks.length - (intOf ix).toNat)
    case atStart => exact ⟨0, Nat.zero_le _, rfl, own_nil, Below.refl _ _⟩
    case round =>
      obtain ⟨q, hq, rfl, hu, HBR⟩ := hrel
      have HO := Lib.hid hu
      have hs4 := HBR.size
      clear hu
      by_cases hlt : q < ks.length
      · have hqi : (q : Int) < (ks.length : Int) := by omega
        obtain ⟨ra', rc', hsl, _, hmr, hkr⟩ := HKO.out
        obtain ⟨rfl, _, rfl⟩ := Value.slice.inj hsl
        obtain ⟨krb, kro, rfl, hkrb, hkr⟩ := hkr (by intro h; rw [h] at hlt; exact Nat.not_lt_zero _ hlt)
        have p0 := hkr q _ (List.getElem?_eq_getElem hlt)
        have hk := HG.out _ (List.getElem_mem hlt)
        have HT := Lib.hid (show ks.take (q + 1) = ks.take q ++ [ks[q]] from List.take_succ_eq_append_getElem hlt)
        generalize ks[q] = k at p0 hk HT
        have HV := Lib.hid (fun w' (h : Below w3.heap.size w3 w') => ih k _ w' hk.2 (by have := HIN.out; omega) (HN3.out.below h))
        have HS := Lib.hid (show ∀ w', Below w3.heap.size w3 w' → (fun w' => w'.cell? ⟨W.heap.size, 0, none⟩ = some (.slice (some ⟨bk, o, none⟩) ns.length c) ∧ w'.cell? ⟨krb, kro + q, none⟩ = some (.int .i64 (k : Int)) ∧ Below w3.heap.size w3 w') w' from fun w' h => ⟨(h.cell (p := ⟨W.heap.size, 0, none⟩) (by have := hb3.size; simp at this; simp only; omega)).trans hp3, (h.cell (p := ⟨krb, _, none⟩) hkrb).trans p0, h⟩)
        clear hkr p0 hsl hmr hk hp3 q4
        go_upto_region 17 with (fail)
        refine wp_region_held_drew (S := (fun w' => w'.cell? ⟨W.heap.size, 0, none⟩ = some (.slice (some ⟨bk, o, none⟩) ns.length c) ∧ w'.cell? ⟨krb, kro + q, none⟩ = some (.int .i64 (k : Int)) ∧ Below w3.heap.size w3 w')) (by kernel_rfl) (HS.out _ (below_drew HBR)) (fun hHeld => ?_)
        refine wpAnyH_take (i := 0) (v := ?_) rfl (by kernel_rfl) (by kernel_rfl) (by kernel_rfl) (fun _ _ _ h => h) (Or.inl ⟨by rfl, ?_⟩) (by assumption) ?_; rotate_left; (focus (intro w hSw; (try dsimp only at hSw); go_simp; try with_reducible rfl))
        (try simp only [Act.put, List.getElem_toArray, List.getElem_cons_zero, List.getElem_cons_succ, List.setIfInBounds_toArray, List.set_cons_zero, List.set_cons_succ, List.size_toArray, List.length_cons, List.length_nil])
        refine wpAnyH_take (i := 1) (v := ?_) rfl (by kernel_rfl) (by kernel_rfl) (by kernel_rfl) (fun _ _ _ h => h) (Or.inl ⟨by rfl, ?_⟩) (by assumption) ?_; rotate_left; (focus (intro w hSw; (try dsimp only at hSw); go_simp; try with_reducible rfl))
        (try simp only [Act.put, List.getElem_toArray, List.getElem_cons_zero, List.getElem_cons_succ, List.setIfInBounds_toArray, List.set_cons_zero, List.set_cons_succ, List.size_toArray, List.length_cons, List.length_nil])
        refine wpAnyH_take (i := 2) (v := ?_) rfl (by kernel_rfl) (by kernel_rfl) (by kernel_rfl) (fun _ _ _ h => h) (Or.inl ⟨by rfl, ?_⟩) (by assumption) ?_; rotate_left; (focus (intro w hSw; (try dsimp only at hSw); go_simp; try with_reducible rfl))
        (try simp only [Act.put, List.getElem_toArray, List.getElem_cons_zero, List.getElem_cons_succ, List.setIfInBounds_toArray, List.set_cons_zero, List.set_cons_succ, List.size_toArray, List.length_cons, List.length_nil])
        refine wpAnyH_take (i := 3) (v := ?_) rfl (by kernel_rfl) (by kernel_rfl) (by kernel_rfl) (fun _ _ _ h => h) (Or.inl ⟨by rfl, ?_⟩) (by assumption) ?_; rotate_left; (focus (intro w hSw; (try dsimp only at hSw); go_simp; try with_reducible rfl))
        (try simp only [Act.put, List.getElem_toArray, List.getElem_cons_zero, List.getElem_cons_succ, List.setIfInBounds_toArray, List.set_cons_zero, List.set_cons_succ, List.size_toArray, List.length_cons, List.length_nil])
        refine wpAnyH_take (i := 4) (v := ?_) rfl (by kernel_rfl) (by kernel_rfl) (by kernel_rfl) (fun _ _ _ h => h) (Or.inl ⟨by rfl, ?_⟩) (by assumption) ?_; rotate_left; (focus (intro w hSw; (try dsimp only at hSw); go_simp; try with_reducible rfl))
        (try simp only [Act.put, List.getElem_toArray, List.getElem_cons_zero, List.getElem_cons_succ, List.setIfInBounds_toArray, List.set_cons_zero, List.set_cons_succ, List.size_toArray, List.length_cons, List.length_nil])
        refine wpAnyH_take (i := 5) (v := ?_) rfl (by kernel_rfl) (by kernel_rfl) (by kernel_rfl) (fun _ _ _ h => h) (Or.inl ⟨by rfl, ?_⟩) (by assumption) ?_; rotate_left; (focus (intro w hSw; (try dsimp only at hSw); go_simp; try with_reducible rfl))
        (try simp only [Act.put, List.getElem_toArray, List.getElem_cons_zero, List.getElem_cons_succ, List.setIfInBounds_toArray, List.set_cons_zero, List.set_cons_succ, List.size_toArray, List.length_cons, List.length_nil])
        refine wpAnyH_ready (rs := [6]) (by kernel_rfl) (by simp) ?_
        refine AllReadyH.cons rfl (fun K hK => ?_) AllReadyH.nil
        go_simp
        go_at_call 86; refine (HV.out _ hHeld.2.2).mono ?_; rintro y' w6 ⟨rfl, hb6⟩; have HX4 := below_then hHeld.2.2 hb6; have hbw : Below wr.heap.size wr w6 := below_then (below_drew (Below.refl _ _)) hb6
        clear hHeld
        refine hK.out _ _ (HS.out _ HX4) (fun hHeld => ?_)
        clear hK K
        (try simp only [Act.put, List.getElem_toArray, List.getElem_cons_zero, List.getElem_cons_succ, List.setIfInBounds_toArray, List.set_cons_zero, List.set_cons_succ, List.size_toArray, List.length_cons, List.length_nil])
        refine wpAnyH_ready (rs := [7]) (by kernel_rfl) (by simp) ?_
        refine AllReadyH.cons rfl (fun K hK => ?_) AllReadyH.nil
        go_simp
        clear hHeld
        refine hK.out _ _ (HS.out _ (below_alloc HX4 _)) (fun hHeld => ?_)
        clear hK K
        (try simp only [Act.put, List.getElem_toArray, List.getElem_cons_zero, List.getElem_cons_succ, List.setIfInBounds_toArray, List.set_cons_zero, List.set_cons_succ, List.size_toArray, List.length_cons, List.length_nil])
        refine wpAnyH_ready (rs := [8]) (by kernel_rfl) (by simp) ?_
        refine AllReadyH.cons rfl (fun K hK => ?_) AllReadyH.nil
        refine step_app (by rfl) _ _ 22 9 (by rfl) w3.heap.size 1 16 (.string ⟨#[]⟩) Tryz.underlying22 info_string rfl (by decide) _ _ _ [tv (Vp.zero ns k)] rfl (by intro y hy; rw [List.mem_singleton.1 hy]; rfl) (by rfl) _ (by rfl) (blk_new _ _) (own_below HO.out (below_alloc hbw _)) (by omega) (by omega) (by have := hbw.size; simp; omega) ?_
        intro g7 cap7 w7 ho7 hb7 hg7
        refine hK.out _ _ (HS.out _ ((below_alloc HX4 _).trans hb7)) (fun hHeld => ?_)
        clear hK K
        (try simp only [Act.put, List.getElem_toArray, List.getElem_cons_zero, List.getElem_cons_succ, List.setIfInBounds_toArray, List.set_cons_zero, List.set_cons_succ, List.size_toArray, List.length_cons, List.length_nil])
        refine wpAnyH_take (i := 9) (v := ?_) rfl (by kernel_rfl) (by kernel_rfl) (by kernel_rfl) (fun _ _ _ h => h) (Or.inl ⟨by rfl, ?_⟩) (by assumption) ?_; rotate_left; (focus (intro w hSw; (try dsimp only at hSw); go_simp; try with_reducible rfl))
        (try simp only [Act.put, List.getElem_toArray, List.getElem_cons_zero, List.getElem_cons_succ, List.setIfInBounds_toArray, List.set_cons_zero, List.set_cons_succ, List.size_toArray, List.length_cons, List.length_nil])
        refine wpAnyH_done (by kernel_rfl) ?_ _

        go_wp2
        refine ⟨⟨q + 1, by omega, by go_num, ?_, HBR.trans (((below_alloc hbw _).mono HBR.size).trans hb7)⟩, by simp [intOf]; omega⟩
        rw [HT.out, List.map_append, List.map_append, List.map_cons, List.map_nil, List.map_cons, List.map_nil]
        exact ho7
      · obtain rfl : q = ks.length := by omega
        have hz := HO.out
        rw [List.take_length] at hz
        go_wp2_with (fail)
        refine (refStruct_calls _ (ks.map (Vp.zero ns)) _ (own_texts (by rw [List.length_map]; exact hz)) (by omega)).mono ?_
        rintro x w8 ⟨rfl, hb8⟩
        go_wp2
        go_ret
        exact ⟨by rw [HE.out]; rfl, HB3.trans ((below_then HBR hb8).mono HB3.size)⟩
theorem refZero_all (ns : List Tp.Nd) (hm : Tp.may ns = true) : ∀ n, RefZeroOK ns n
  | 0 => fun i vv W hi h => by omega
  | n + 1 => refZero_succ ns hm n (refZero_all ns hm n)
theorem refZero_calls (ns : List Tp.Nd) (hm : Tp.may ns = true) (i : Nat) (hi : i < ns.length) (vv : Value) (W : World) (hn : NodesAt W vv ns) :
    Calls Tryz.prog 86 #[typeV vv, .int .i64 (i : Int)] W fun e w' => e = .returned (tv (Vp.zero ns i)) ∧ Below W.heap.size W w' :=
  refZero_all ns hm ns.length i vv W hi (by omega) hn
end Go.Proofs.YtlllflacnlgigaaGreatDoor
