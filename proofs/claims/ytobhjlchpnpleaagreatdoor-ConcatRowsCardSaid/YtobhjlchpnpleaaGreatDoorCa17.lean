/- The reference's parts of a value, walked. -/
import Derived.Test.YtobhjlchpnpleaaGreatDoorCa16
import Derived.Test.YtobhjlchpnpleaaGreatDoorCa1
import Derived.IntWalk
namespace Go.Proofs.YtobhjlchpnpleaaGreatDoor
open Go.RowKit
set_option linter.unusedVariables false
set_option linter.unusedSimpArgs false

/-- What the reference's Parts answers. -/
def RefPartsOK (k : Int) (ps : List Vp.Txt) (er : Int) (W : World) (e : Ending) (w' : World) : Prop :=
 ∃ r, e = .returned (.tuple #[.int .i64 k, r, .int .i64 er]) ∧ w'.ownsRow W.heap.size 9 1 r ps.length (ps.map tv) ∧ Below W.heap.size W w'
theorem own_one {W w : World} (h : W.heap.size ≤ w.heap.size) (l : Vp.Txt) : (w.alloc (.cells #[tv l] 9)).ownsRow W.heap.size 9 1 (.slice (some ⟨w.heap.size, 0, none⟩) 1 1) 1 [tv l] := own_mono_lit h l

set_option maxHeartbeats 800000 in
theorem refParts_long (V : Vp.Txt) (W : World) (hl : 65536 < V.length) (hs : V.length ≤ 140737488351232) :
  Calls Tryz.prog 71 #[.string ⟨V.toArray⟩] W (RefPartsOK 0 [] 700 W) := by
 have hz := mk_size V
 have hl' : (65536 : Int) < (V.length : Int) := by omega
 go_enter Tryz.func71, Tryz.ntmps71
 go_wp2
 go_ret3
 exact ⟨_, rfl, own_nil, Below.refl _ _⟩
set_option maxHeartbeats 800000 in
theorem refParts_no (V : Vp.Txt) (W : World) (hl : V.length ≤ 65536) (he : Vp.endP V 0 4 ≠ (V.length : Int)) :
  Calls Tryz.prog 71 #[.string ⟨V.toArray⟩] W (RefPartsOK 0 [] 700 W) := by
 have hz := mk_size V
 have HEND := Lib.hid (fun W => end_calls 4 (Nat.le_refl _) V 0 W (by omega) (Nat.zero_le _))
 have hl' : ¬ (65536 : Int) < (V.length : Int) := by omega
 have he' : (Vp.endP V 0 4 != (V.length : Int)) = true := bne_iff_ne.2 he
 generalize Vp.endP V 0 4 = q at HEND he'
 clear he
 go_enter Tryz.func71, Tryz.ntmps71
 go_wp2_with (fail)
 refine (HEND.out _).mono ?_; rintro e w1 ⟨rfl, hb⟩
 go_wp2
 go_ret3
 exact ⟨_, rfl, own_nil, hb⟩

set_option maxHeartbeats 800000 in
theorem refParts_null (W : World) (hl : ([110] : Vp.Txt).length ≤ 65536) (he : Vp.endP ([110] : Vp.Txt) 0 4 = (([110] : Vp.Txt).length : Int)) :
  Calls Tryz.prog 71 #[.string ⟨([110] : Vp.Txt).toArray⟩] W (RefPartsOK (-1) [] 0 W) := by
 have HEND := Lib.hid (fun W => end_calls 4 (Nat.le_refl _) ([110] : Vp.Txt) 0 W (by omega) (Nat.zero_le _))
 rw [he] at HEND
 clear he
 have hl' : ¬ (65536 : Int) < (([110] : Vp.Txt).length : Int) := by omega
 go_enter Tryz.func71, Tryz.ntmps71
 go_wp2_with (fail)
 refine (HEND.out _).mono ?_; rintro e w1 ⟨rfl, hb⟩
 go_wp2
 go_ret3
 exact ⟨_, rfl, own_nil, hb⟩

set_option maxHeartbeats 800000 in
theorem refParts_bool1 (W : World) (hl : ([116] : Vp.Txt).length ≤ 65536) (he : Vp.endP ([116] : Vp.Txt) 0 4 = (([116] : Vp.Txt).length : Int)) :
  Calls Tryz.prog 71 #[.string ⟨([116] : Vp.Txt).toArray⟩] W (RefPartsOK (1) [[116]] 0 W) := by
 have HEND := Lib.hid (fun W => end_calls 4 (Nat.le_refl _) ([116] : Vp.Txt) 0 W (by omega) (Nat.zero_le _))
 rw [he] at HEND
 clear he
 have hl' : ¬ (65536 : Int) < (([116] : Vp.Txt).length : Int) := by omega
 go_enter Tryz.func71, Tryz.ntmps71
 go_wp2_with (fail)
 refine (HEND.out _).mono ?_; rintro e w1 ⟨rfl, hb⟩
 go_wp2
 go_ret3
 exact ⟨_, rfl, own_one hb.size _, below_alloc hb _⟩

set_option maxHeartbeats 800000 in
theorem refParts_bool0 (W : World) (hl : ([102] : Vp.Txt).length ≤ 65536) (he : Vp.endP ([102] : Vp.Txt) 0 4 = (([102] : Vp.Txt).length : Int)) :
  Calls Tryz.prog 71 #[.string ⟨([102] : Vp.Txt).toArray⟩] W (RefPartsOK (1) [[102]] 0 W) := by
 have HEND := Lib.hid (fun W => end_calls 4 (Nat.le_refl _) ([102] : Vp.Txt) 0 W (by omega) (Nat.zero_le _))
 rw [he] at HEND
 clear he
 have hl' : ¬ (65536 : Int) < (([102] : Vp.Txt).length : Int) := by omega
 go_enter Tryz.func71, Tryz.ntmps71
 go_wp2_with (fail)
 refine (HEND.out _).mono ?_; rintro e w1 ⟨rfl, hb⟩
 go_wp2
 go_ret3
 exact ⟨_, rfl, own_one hb.size _, below_alloc hb _⟩

/-- What 'end' answers of a whole value. -/
def EndsAll (S : ByteArray) (n : Nat) : Prop := ∀ W : World, Calls Tryz.prog 107 #[.string S, .int .i64 0, .int .i64 4] W fun e w' => e = .returned (.int .i64 (n : Int)) ∧ Below W.heap.size W w'
set_option maxHeartbeats 800000 in
set_option maxRecDepth 100000 in
theorem refParts_int_ (S T : ByteArray) (n m : Nat) (W : World) (hL : n ≤ 1000) (h2 : 2 ≤ n) (hz : S.size = n) (hm : (n : Int) - 1 = (m : Int)) (h0s : 0 < S.size) (hc0 : ((S[0].toNat : Int) == 105) = true) (HX : Hid (S.extract 1 m = T)) (HEND : Hid (EndsAll S n)) :
  Calls Tryz.prog 71 #[.string S] W fun e w' => ∃ r, e = .returned (.tuple #[.int .i64 0, r, .int .i64 0]) ∧ w'.ownsRow W.heap.size 9 1 r 1 [.string T] ∧ Below W.heap.size W w' := by
 have hm1 : 1 ≤ m := by omega
 have hm2 : m ≤ n := by omega
 go_enter Tryz.func71, Tryz.ntmps71
 go_wp2_with (fail)
 refine (HEND.out _).mono ?_; rintro e w1 ⟨rfl, hb⟩
 have hx := HX.out
 go_wp2
 go_region
 all_goals
  go_wp2
  go_ret3
  obtain ⟨⟨t⟩⟩ := T
  exact ⟨_, rfl, own_one hb.size t, below_drew (below_alloc hb _)⟩
theorem refParts_int (x : Int) (h0 : -9223372036854775808 ≤ x) (h1 : x ≤ 9223372036854775807) (W : World) (he : Vp.endP (Vp.int x) 0 4 = ((Vp.int x).length : Int)) :
  Calls Tryz.prog 71 #[.string ⟨(Vp.int x).toArray⟩] W (RefPartsOK 0 [Lib.itoa x] 0 W) := by
 have hlen : (Vp.int x).length = (Lib.itoa x).length + 2 := by simp [Vp.int]
 have hz : (⟨(Vp.int x).toArray⟩ : ByteArray).size = (Lib.itoa x).length + 2 := by rw [mk_size, hlen]
 have hit := itoa_length x h0 h1
 refine refParts_int_ _ ⟨(Lib.itoa x).toArray⟩ ((Lib.itoa x).length + 2) ((Lib.itoa x).length + 1) W (by omega) (by omega) hz (by omega) (by rw [hz]; exact Nat.succ_pos _) rfl (Lib.hid ?_) (Lib.hid fun W => ?_)
 ·rw [mk_extract]
  congr 2
  simp [Vp.int]
 ·have h := end_calls 4 (Nat.le_refl _) (Vp.int x) 0 W (by omega) (Nat.zero_le _)
  rw [he, hlen] at h
  exact h
theorem upto_at (l : Vp.Txt) (k : Nat) (W : World) (hl : l.length ≤ 65536) (hk : k < l.length) (h1 : ∀ j : Nat, l[j]? = some 58 → (∀ i, 0 ≤ i → i < j → l[i]? ≠ some 58) → j = k) (h2 : l[k]? = some 58 ∧ k < 22) :
  Calls Tryz.prog 108 #[.string ⟨l.toArray⟩, .int .i64 0, .int .u8 58] W fun e w' => e = .returned (.int .i64 (k : Int)) ∧ W = w' := by
 refine (upto_calls l 0 58 W (by omega) (Nat.zero_le _)).mono ?_
 rintro e w2 h
 rcases h with ⟨rfl, hno, rfl⟩ | ⟨j, rfl, hj0, hjl, hj22, hjs, hjf, rfl⟩
 ·exact absurd h2.1 (hno k (Nat.zero_le _) hk (by have := h2.2; omega))
 ·obtain rfl := h1 j hjs hjf
  exact ⟨rfl, rfl⟩
set_option maxHeartbeats 800000 in
set_option maxRecDepth 100000 in
theorem refParts_str_ (S : ByteArray) (n : Nat) (T : ByteArray) (k : Nat) (W : World) (hz : S.size = n) (hl : n ≤ 65536) (hk : k < n) (h0s : 0 < S.size) (hc0 : ((S[0]'h0s).toNat : Int) = 115)
  (HU : Hid (∀ W : World, Calls Tryz.prog 108 #[.string S, .int .i64 0, .int .u8 58] W fun e w' => e = .returned (.int .i64 (k : Int)) ∧ W = w')) (HX : Hid (S.extract (k + 1) n = T)) (HEND : Hid (EndsAll S n)) :
  Calls Tryz.prog 71 #[.string S] W fun e w' => ∃ r, e = .returned (.tuple #[.int .i64 2, r, .int .i64 0]) ∧ w'.ownsRow W.heap.size 9 1 r 1 [.string T] ∧ Below W.heap.size W w' := by
 go_enter Tryz.func71, Tryz.ntmps71
 go_wp2_with (fail)
 refine (HEND.out _).mono ?_; rintro e w1 ⟨rfl, hb⟩
 go_wp2_with (fail)
 have hx := HX.out
 have k1 : (0 : Int) ≤ (k : Int) + 1 := by omega
 have k2 : (k : Int) + 1 ≤ (n : Int) := by omega
 have k3 : k + 1 ≤ n := hk
 have k4 : IntKind.i64.wrap ((k : Int) + 1) = (k : Int) + 1 := IntWalk.i64_in _ (by omega)
 have k5 : ((k : Int) + 1).toNat = k + 1 := by omega
 go_region_with (refine (HU.out _).mono ?_; rintro e w' ⟨rfl, rfl⟩)
 all_goals
  go_wp2
  go_ret3
  obtain ⟨⟨t⟩⟩ := T
  exact ⟨_, rfl, own_one hb.size t, below_alloc (below_drew hb) _⟩
theorem str_colon (s : Vp.Txt) : (Vp.str s)[1 + (Lib.itoa s.length).length]? = some 58 ∧ ∀ i, i < 1 + (Lib.itoa s.length).length → (Vp.str s)[i]? ≠ some 58 := by
 constructor
 ·unfold Vp.str
  rw [Nat.add_comm, List.getElem?_cons_succ, List.getElem?_append_right (Nat.le_refl _)]
  simp
 ·intro i hi h
  cases i with
  | zero => simp [Vp.str] at h
  | succ i =>
   unfold Vp.str at h
   rw [List.getElem?_cons_succ, List.getElem?_append_left (by omega)] at h
   exact Vp.itoa_no s.length 58 (.inl rfl) (List.mem_of_getElem? h)
theorem refParts_str (s : Vp.Txt) (W : World) (hl : (Vp.str s).length ≤ 65536) (he : Vp.endP (Vp.str s) 0 4 = ((Vp.str s).length : Int)) :
  Calls Tryz.prog 71 #[.string ⟨(Vp.str s).toArray⟩] W (RefPartsOK 2 [s] 0 W) := by
 obtain ⟨hc1, hc2⟩ := str_colon s
 have hlen : (Vp.str s).length = (Lib.itoa s.length).length + 2 + s.length := by simp [Vp.str]; omega
 have hit := itoa_length s.length (by omega) (by omega)
 refine refParts_str_ ⟨(Vp.str s).toArray⟩ (Vp.str s).length ⟨s.toArray⟩ (1 + (Lib.itoa s.length).length) W (mk_size _) hl (by omega) (by rw [mk_size]; omega) rfl (Lib.hid fun W => upto_at _ _ W hl (by omega) (fun j h1 h2 => ?_) ⟨hc1, by omega⟩) (Lib.hid ?_) (Lib.hid fun W => ?_)
 ·rcases Nat.lt_trichotomy j (1 + (Lib.itoa s.length).length) with h | h | h
  ·exact absurd h1 (hc2 j h)
  ·exact h
  ·exact absurd hc1 (h2 _ (Nat.zero_le _) h)
 ·rw [mk_extract, List.take_length]
  congr 2
  unfold Vp.str
  rw [show 1 + (Lib.itoa s.length).length + 1 = ((Lib.itoa s.length).length + 1) + 1 by omega, List.drop_succ_cons, List.drop_append, List.drop_of_length_le (by omega)]
  simp
 ·have h := end_calls 4 (Nat.le_refl _) (Vp.str s) 0 W (by omega) (Nat.zero_le _)
  rw [he] at h
  exact h

set_option maxHeartbeats 1600000 in
set_option maxRecDepth 100000 in
theorem refParts_row91_ (l : Vp.Txt) (n : Nat) (ps : List Vp.Txt) (A : Nat → Nat) (W : World) (hln : l.length = n) (hl : n ≤ 65536) (h2 : 2 ≤ n) (h0s : 0 < (⟨l.toArray⟩ : ByteArray).size) (hc0 : (((⟨l.toArray⟩ : ByteArray)[0]'h0s).toNat : Int) = 91)
  (hA0 : Hid (A 0 = 1)) (hAe : Hid (A ps.length + 1 = n)) (HP : Hid (∀ (j : Nat) (h : j < ps.length), Vp.endP l (A j) 4 = (A (j + 1) : Int) ∧ (⟨l.toArray⟩ : ByteArray).extract (A j) (A (j + 1)) = ⟨(ps[j]).toArray⟩ ∧ A j < A (j + 1) ∧ A (j + 1) + 1 ≤ n)) (hps : ps.length ≤ 65536)
  (HEND : Hid (EndsAll ⟨l.toArray⟩ n)) :
  Calls Tryz.prog 71 #[.string ⟨l.toArray⟩] W (RefPartsOK 3 ps 0 W) := by
 have hz : (⟨l.toArray⟩ : ByteArray).size = n := by rw [mk_size, hln]
 have hlen := Lib.hid hln
 clear hln
 go_enter Tryz.func71, Tryz.ntmps71
 go_wp2_with (fail)
 refine (HEND.out _).mono ?_; rintro e w1 ⟨rfl, hb1⟩
 go_wp2
 have hs1 : (n : Int) - 1 = ((n - 1 : Nat) : Int) := by omega
 obtain ⟨m, hm⟩ : ∃ m, n - 1 = m := ⟨_, rfl⟩
 rw [hm] at hs1
 have hmn : m + 1 = n := by omega
 clear hm
 go_loopw [5, 6] (fun v i wr => ∃ j : Nat, j ≤ ps.length ∧ i = .int .i64 (A j : Int) ∧ wr.ownsRow W.heap.size 9 1 v j ((ps.take j).map tv) ∧ Below W.heap.size W wr) (fun _ i _ => n - (intOf i).toNat)
 case atStart => exact ⟨0, Nat.zero_le _, by rw [hA0.out]; rfl, own_nil, hb1⟩
 case round =>
  obtain ⟨j, hj, rfl, ho, hb⟩ := hrel
  replace ho := Lib.hid ho
  by_cases hlt : j < ps.length
  ·obtain ⟨h1, h2, h3, h4⟩ := HP.out j hlt
   have HE := Lib.hid h1
   have HX := Lib.hid h2
   have HT := Lib.hid (show (ps.take j).map tv ++ [tv ps[j]] = (ps.take (j + 1)).map tv by rw [List.take_succ_eq_append_getElem hlt, List.map_append]; rfl)
   generalize ps[j] = p at HX HT
   obtain ⟨a, ha⟩ : ∃ a, A j = a := ⟨_, rfl⟩
   obtain ⟨b, hbb⟩ : ∃ b, A (j + 1) = b := ⟨_, rfl⟩
   rw [ha, hbb] at HE HX h3
   rw [hbb] at h4
   rw [ha]
   have HBB := Lib.hid hbb
   have HEN := Lib.hid (end_calls 4 (Nat.le_refl _) l a wr (by have := hlen.out; omega) (by have := hlen.out; omega))
   clear h1 h2 ha hbb
   have hx := HX.out
   go_wp2_with (fail)
   refine HEN.out.mono ?_; rintro e w2 ⟨rfl, hb2⟩
   rw [HE.out]
   have hb' := below_then hb hb2
   have ho' := own_below ho.out hb2
   go_wp2_with (at_builtin; refine wp_app1 rfl _ _ 39 9 rfl W.heap.size 16 (.string ⟨#[]⟩) Tryz.underlying39 info_string rfl _ _ _ rfl rfl rfl ho' (by omega) (by omega) hb'.size ?_; intro v2 w3 ho3 hb3 hg3)
   exact ⟨⟨j + 1, by omega, by rw [HBB.out], by rw [← HT.out]; exact ho3, hb'.trans hb3⟩, by simp [intOf]; omega⟩
  ·obtain rfl : j = ps.length := by omega
   have hAe' := hAe.out
   obtain ⟨a, ha⟩ : ∃ a, A ps.length = a := ⟨_, rfl⟩
   rw [ha] at hAe' ⊢
   have HT := Lib.hid (show (ps.take ps.length) = ps from List.take_length)
   have hnlt : ¬ (a : Int) < (m : Int) := by omega
   clear ha hAe'
   go_wp2
   go_ret3
   exact ⟨_, rfl, by have := ho.out; rw [HT.out] at this; exact this, hb⟩

set_option maxHeartbeats 1600000 in
set_option maxRecDepth 100000 in
theorem refParts_row123_ (l : Vp.Txt) (n : Nat) (ps : List Vp.Txt) (A : Nat → Nat) (W : World) (hln : l.length = n) (hl : n ≤ 65536) (h2 : 2 ≤ n) (h0s : 0 < (⟨l.toArray⟩ : ByteArray).size) (hc0 : (((⟨l.toArray⟩ : ByteArray)[0]'h0s).toNat : Int) = 123)
  (hA0 : Hid (A 0 = 1)) (hAe : Hid (A ps.length + 1 = n)) (HP : Hid (∀ (j : Nat) (h : j < ps.length), Vp.endP l (A j) 4 = (A (j + 1) : Int) ∧ (⟨l.toArray⟩ : ByteArray).extract (A j) (A (j + 1)) = ⟨(ps[j]).toArray⟩ ∧ A j < A (j + 1) ∧ A (j + 1) + 1 ≤ n)) (hps : ps.length ≤ 65536)
  (HEND : Hid (EndsAll ⟨l.toArray⟩ n)) :
  Calls Tryz.prog 71 #[.string ⟨l.toArray⟩] W (RefPartsOK 4 ps 0 W) := by
 have hz : (⟨l.toArray⟩ : ByteArray).size = n := by rw [mk_size, hln]
 have hlen := Lib.hid hln
 clear hln
 go_enter Tryz.func71, Tryz.ntmps71
 go_wp2_with (fail)
 refine (HEND.out _).mono ?_; rintro e w1 ⟨rfl, hb1⟩
 go_wp2
 have hs1 : (n : Int) - 1 = ((n - 1 : Nat) : Int) := by omega
 obtain ⟨m, hm⟩ : ∃ m, n - 1 = m := ⟨_, rfl⟩
 rw [hm] at hs1
 have hmn : m + 1 = n := by omega
 clear hm
 go_loopw [5, 6] (fun v i wr => ∃ j : Nat, j ≤ ps.length ∧ i = .int .i64 (A j : Int) ∧ wr.ownsRow W.heap.size 9 1 v j ((ps.take j).map tv) ∧ Below W.heap.size W wr) (fun _ i _ => n - (intOf i).toNat)
 case atStart => exact ⟨0, Nat.zero_le _, by rw [hA0.out]; rfl, own_nil, hb1⟩
 case round =>
  obtain ⟨j, hj, rfl, ho, hb⟩ := hrel
  replace ho := Lib.hid ho
  by_cases hlt : j < ps.length
  ·obtain ⟨h1, h2, h3, h4⟩ := HP.out j hlt
   have HE := Lib.hid h1
   have HX := Lib.hid h2
   have HT := Lib.hid (show (ps.take j).map tv ++ [tv ps[j]] = (ps.take (j + 1)).map tv by rw [List.take_succ_eq_append_getElem hlt, List.map_append]; rfl)
   generalize ps[j] = p at HX HT
   obtain ⟨a, ha⟩ : ∃ a, A j = a := ⟨_, rfl⟩
   obtain ⟨b, hbb⟩ : ∃ b, A (j + 1) = b := ⟨_, rfl⟩
   rw [ha, hbb] at HE HX h3
   rw [hbb] at h4
   rw [ha]
   have HBB := Lib.hid hbb
   have HEN := Lib.hid (end_calls 4 (Nat.le_refl _) l a wr (by have := hlen.out; omega) (by have := hlen.out; omega))
   clear h1 h2 ha hbb
   have hx := HX.out
   go_wp2_with (fail)
   refine HEN.out.mono ?_; rintro e w2 ⟨rfl, hb2⟩
   rw [HE.out]
   have hb' := below_then hb hb2
   have ho' := own_below ho.out hb2
   go_wp2_with (at_builtin; refine wp_app1 rfl _ _ 39 9 rfl W.heap.size 16 (.string ⟨#[]⟩) Tryz.underlying39 info_string rfl _ _ _ rfl rfl rfl ho' (by omega) (by omega) hb'.size ?_; intro v2 w3 ho3 hb3 hg3)
   exact ⟨⟨j + 1, by omega, by rw [HBB.out], by rw [← HT.out]; exact ho3, hb'.trans hb3⟩, by simp [intOf]; omega⟩
  ·obtain rfl : j = ps.length := by omega
   have hAe' := hAe.out
   obtain ⟨a, ha⟩ : ∃ a, A ps.length = a := ⟨_, rfl⟩
   rw [ha] at hAe' ⊢
   have HT := Lib.hid (show (ps.take ps.length) = ps from List.take_length)
   have hnlt : ¬ (a : Int) < (m : Int) := by omega
   clear ha hAe'
   go_wp2
   go_ret3
   exact ⟨_, rfl, by have := ho.out; rw [HT.out] at this; exact this, hb⟩

theorem part_facts (ps : List Vp.Txt) (c e : UInt8) (hv : ∀ p ∈ ps, Vp.IsV 4 p) (hl : (c :: (Vp.join ps ++ [e])).length ≤ 65536) (j : Nat) (h : j < ps.length) :
  Vp.endP (c :: (Vp.join ps ++ [e])) (1 + (Vp.join (ps.take j)).length) 4 = ((1 + (Vp.join (ps.take (j + 1))).length : Nat) : Int) ∧
  (⟨(c :: (Vp.join ps ++ [e])).toArray⟩ : ByteArray).extract (1 + (Vp.join (ps.take j)).length) (1 + (Vp.join (ps.take (j + 1))).length) = ⟨(ps[j]).toArray⟩ ∧
  1 + (Vp.join (ps.take j)).length < 1 + (Vp.join (ps.take (j + 1))).length ∧ 1 + (Vp.join (ps.take (j + 1))).length + 1 ≤ (c :: (Vp.join ps ++ [e])).length := by
 have hd := Vp.row_drop ps c e j h
 have hlen : (c :: (Vp.join ps ++ [e])).length = (Vp.join ps).length + 2 := by simp
 have hjt : (Vp.join (ps.take (j + 1))).length = (Vp.join (ps.take j)).length + ps[j].length := by rw [join_take ps j h, List.length_append]
 have hle := join_take_le ps (j + 1)
 obtain ⟨c', r', hc', _⟩ := Vp.isv_ne (hv _ (List.getElem_mem h))
 have hpos : 1 ≤ ps[j].length := by rw [hc']; simp
 have hmem := Vp.mem_len _ ps (List.getElem_mem h)
 refine ⟨?_, ?_, by omega, by omega⟩
 ·rw [Vp.endP_part _ _ _ _ (by omega) hd (by omega) (hv _ (List.getElem_mem h)), hjt]
  omega
 ·rw [mk_extract, hjt, show 1 + ((Vp.join (ps.take j)).length + ps[j].length) = 1 + (Vp.join (ps.take j)).length + ps[j].length by omega, Vp.take_drop_part _ _ _ _ hd]
theorem refParts_list (ps : List Vp.Txt) (W : World) (hl : (Vp.list ps).length ≤ 65536) (hv : ∀ p ∈ ps, Vp.IsV 4 p) (he : Vp.endP (Vp.list ps) 0 4 = ((Vp.list ps).length : Int)) :
  Calls Tryz.prog 71 #[.string ⟨(Vp.list ps).toArray⟩] W (RefPartsOK 3 ps 0 W) := by
 have hlen : (Vp.list ps).length = (Vp.join ps).length + 2 := by simp [Vp.list]
 have hj := Vp.join_ge ps 4 hv
 refine refParts_row91_ (Vp.list ps) (Vp.list ps).length ps (fun j => 1 + (Vp.join (ps.take j)).length) W rfl hl (by omega) (by rw [mk_size]; omega) rfl (Lib.hid ?_) (Lib.hid ?_) (Lib.hid fun j h => part_facts ps 91 93 hv hl j h) (by omega) (Lib.hid fun W => ?_)
 ·simp [Vp.join]
 ·show 1 + (Vp.join (ps.take ps.length)).length + 1 = _
  rw [List.take_length]; omega
 ·have h := end_calls 4 (Nat.le_refl _) (Vp.list ps) 0 W (by omega) (Nat.zero_le _)
  rw [he] at h
  exact h
theorem refParts_struct (ps : List Vp.Txt) (W : World) (hl : (Vp.struct ps).length ≤ 65536) (hv : ∀ p ∈ ps, Vp.IsV 4 p) (he : Vp.endP (Vp.struct ps) 0 4 = ((Vp.struct ps).length : Int)) :
  Calls Tryz.prog 71 #[.string ⟨(Vp.struct ps).toArray⟩] W (RefPartsOK 4 ps 0 W) := by
 have hlen : (Vp.struct ps).length = (Vp.join ps).length + 2 := by simp [Vp.struct]
 have hj := Vp.join_ge ps 4 hv
 refine refParts_row123_ (Vp.struct ps) (Vp.struct ps).length ps (fun j => 1 + (Vp.join (ps.take j)).length) W rfl hl (by omega) (by rw [mk_size]; omega) rfl (Lib.hid ?_) (Lib.hid ?_) (Lib.hid fun j h => part_facts ps 123 125 hv hl j h) (by omega) (Lib.hid fun W => ?_)
 ·simp [Vp.join]
 ·show 1 + (Vp.join (ps.take ps.length)).length + 1 = _
  rw [List.take_length]; omega
 ·have h := end_calls 4 (Nat.le_refl _) (Vp.struct ps) 0 W (by omega) (Nat.zero_le _)
  rw [he] at h
  exact h
/-- quiverref7.Parts is value.Parts. -/
theorem refParts_calls (V : Vp.Txt) (W : World) (hs : V.length ≤ 140737488351232) :
  Calls Tryz.prog 71 #[.string ⟨V.toArray⟩] W (RefPartsOK (Vp.parts V).1 (Vp.parts V).2.1 (Vp.parts V).2.2 W) := by
 by_cases hl : 65536 < V.length
 ·rw [show Vp.parts V = (0, [], 700) by unfold Vp.parts; rw [if_pos hl]]
  exact refParts_long V W hl hs
 ·have hw := Vp.endP_whole V (by omega)
  by_cases he : (Vp.parts V).2.2 = 0
  ·have hE := hw.2 he
   obtain ⟨h1, h2, h3, h4⟩ := Vp.is_of_parts he
   rw [he]
   generalize (Vp.parts V).1 = k at h3 h4
   generalize (Vp.parts V).2.1 = ps at h3 h4
   cases h3 with
   | null => exact refParts_null W h1 hE
   | int x h0 h1' => exact refParts_int x h0 h1' W hE
   | bool b =>
    cases b
    ·exact refParts_bool0 W h1 hE
    ·exact refParts_bool1 W h1 hE
   | str s => exact refParts_str s W h1 hE
   | list vs => exact refParts_list _ W h1 (h4 (by decide)) hE
   | struct vs => exact refParts_struct _ W h1 (h4 (by decide)) hE
  ·rw [Vp.parts_bad he]
   exact refParts_no V W (by omega) (fun h => he (hw.1 h))
end Go.Proofs.YtobhjlchpnpleaaGreatDoor
