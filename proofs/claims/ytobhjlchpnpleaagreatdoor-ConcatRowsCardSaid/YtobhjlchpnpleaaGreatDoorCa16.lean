/- The reference's reading of values, walked: upto, end. -/
import Derived.Test.YtobhjlchpnpleaaGreatDoorCa15
import Derived.Test.YtobhjlchpnpleaaGreatDoorCa1
namespace Go.Proofs.YtobhjlchpnpleaaGreatDoor
open Go.RowKit
set_option linter.unusedVariables false
set_option linter.unusedSimpArgs false

/-- What upto answers. -/
def UptoOK (l : Vp.Txt) (at_ : Nat) (c : UInt8) (W : World) (e : Ending) (w' : World) : Prop :=
 (e = .returned (.int .i64 (-1)) ∧ (∀ j, at_ ≤ j → j < l.length → j < at_ + 22 → l[j]? ≠ some c) ∧ W = w') ∨
 ∃ k : Nat, e = .returned (.int .i64 (k : Int)) ∧ at_ ≤ k ∧ k < l.length ∧ k < at_ + 22 ∧ l[k]? = some c ∧ (∀ j, at_ ≤ j → j < k → l[j]? ≠ some c) ∧ W = w'
set_option maxHeartbeats 1600000 in
theorem upto_calls (l : Vp.Txt) (at_ : Nat) (c : UInt8) (W : World) (hs : l.length ≤ 140737488351232) (ha : at_ ≤ l.length) :
  Calls Tryz.prog 108 #[.string ⟨l.toArray⟩, .int .i64 (at_ : Int), .int .u8 (c.toNat : Int)] W (UptoOK l at_ c W) := by
 have hz := mk_size l
 go_enter Tryz.func108, Tryz.ntmps108
 go_wp2
 go_loop [7] (fun i => ∃ k : Nat, at_ ≤ k ∧ k ≤ l.length ∧ k ≤ at_ + 22 ∧ i = .int .i64 k ∧ ∀ j, at_ ≤ j → j < k → l[j]? ≠ some c) (fun i => l.length - (intOf i).toNat)
 case atStart => exact ⟨at_, Nat.le_refl _, ha, by omega, rfl, fun j h1 h2 => by omega⟩
 case round =>
  obtain ⟨k, hk0, hk, hk22, rfl, hno⟩ := hrel
  replace hno := Lib.hid hno
  by_cases hlt : k < l.length
  ·by_cases h22 : k < at_ + 22
   ·have h22' : (k : Int) < (at_ : Int) + 22 := by omega
    have hu : l[k] = (⟨l.toArray⟩ : ByteArray)[k]'(by omega) := rfl
    by_cases he : l[k] = c
    ·have d1 : ((((⟨l.toArray⟩ : ByteArray)[k]'(by omega)).toNat : Int) == (c.toNat : Int)) = true := by rw [beq_iff_eq, ← hu, he]
     have hk? : l[k]? = some c := by rw [List.getElem?_eq_getElem hlt, he]
     have HK := Lib.hid hk?
     replace d1 := Lib.hid d1
     clear hk? he hu
     have d1 := d1.out
     go_wp2
     go_ret
     exact Or.inr ⟨k, rfl, hk0, hlt, h22, HK.out, hno.out, rfl⟩
    ·have d1 : ((((⟨l.toArray⟩ : ByteArray)[k]'(by omega)).toNat : Int) == (c.toNat : Int)) = false := by
      rw [beq_eq_false_iff_ne, ← hu]
      intro h
      exact he (UInt8.toNat_inj.1 (by omega))
     have hk? : l[k]? ≠ some c := by rw [List.getElem?_eq_getElem hlt]; intro h; exact he (Option.some.inj h)
     have HK := Lib.hid hk?
     clear hk? he hu
     go_wp2
     exact ⟨⟨k + 1, by omega, by omega, by omega, by go_num, fun j h1 h2 => by
      by_cases hj : j < k
      ·exact hno.out j h1 hj
      ·obtain rfl : j = k := by omega
       exact HK.out⟩, by simp [intOf]; omega⟩
   ·have h22' : ¬ (k : Int) < (at_ : Int) + 22 := by omega
    go_wp2
    go_ret
    exact Or.inl ⟨rfl, fun j h1 h2 h3 => hno.out j h1 (by omega), rfl⟩
  ·go_wp2
   go_ret
   exact Or.inl ⟨rfl, fun j h1 h2 h3 => hno.out j h1 (by omega), rfl⟩

def EndOK (d : Nat) : Prop := ∀ (l : Vp.Txt) (at_ : Nat) (W : World), l.length ≤ 140737488351232 → at_ ≤ l.length →
 Calls Tryz.prog 107 #[.string ⟨l.toArray⟩, .int .i64 (at_ : Int), .int .i64 (d : Int)] W fun e w' => e = .returned (.int .i64 (Vp.endP l at_ d)) ∧ Below W.heap.size W w'
theorem extract_text (l : Vp.Txt) (a k : Nat) : (⟨l.toArray⟩ : ByteArray).extract a k = ⟨((l.take k).drop a).toArray⟩ := mk_extract l a k

set_option maxHeartbeats 3200000 in
theorem end_simple (d : Nat) (l : Vp.Txt) (at_ : Nat) (W : World) (hs : l.length ≤ 140737488351232) (ha : at_ < l.length) (hc : l[at_] = 110 ∨ l[at_] = 116 ∨ l[at_] = 102) :
  Calls Tryz.prog 107 #[.string ⟨l.toArray⟩, .int .i64 (at_ : Int), .int .i64 (d : Int)] W fun e w' => e = .returned (.int .i64 (Vp.endP l at_ d)) ∧ Below W.heap.size W w' := by
 have hz := mk_size l
 have hE := Lib.hid (Vp.endP_one l at_ d ha hc)
 have hu : l[at_] = (⟨l.toArray⟩ : ByteArray)[at_]'(by omega) := rfl
 have hge : ¬ (l.length : Int) ≤ (at_ : Int) := by omega
 rcases hc with hc | hc | hc
 ·have d1 : ((((⟨l.toArray⟩ : ByteArray)[at_]'(by omega)).toNat : Int) == 110) = true := by rw [beq_iff_eq, ← hu, hc]; rfl
  clear hu hc
  go_enter Tryz.func107, Tryz.ntmps107
  go_wp2
  go_ret
  exact ⟨by rw [hE.out]; rfl, Below.refl _ _⟩
 ·have d1 : ((((⟨l.toArray⟩ : ByteArray)[at_]'(by omega)).toNat : Int) == 116) = true := by rw [beq_iff_eq, ← hu, hc]; rfl
  clear hu hc
  go_enter Tryz.func107, Tryz.ntmps107
  go_wp2
  go_ret
  exact ⟨by rw [hE.out]; rfl, Below.refl _ _⟩
 ·have d1 : ((((⟨l.toArray⟩ : ByteArray)[at_]'(by omega)).toNat : Int) == 102) = true := by rw [beq_iff_eq, ← hu, hc]; rfl
  clear hu hc
  go_enter Tryz.func107, Tryz.ntmps107
  go_wp2
  go_ret
  exact ⟨by rw [hE.out]; rfl, Below.refl _ _⟩

set_option maxHeartbeats 3200000 in
theorem end_int (d : Nat) (l : Vp.Txt) (at_ : Nat) (W : World) (hs : l.length ≤ 140737488351232) (ha : at_ < l.length) (hc : l[at_] = 105) :
  Calls Tryz.prog 107 #[.string ⟨l.toArray⟩, .int .i64 (at_ : Int), .int .i64 (d : Int)] W fun e w' => e = .returned (.int .i64 (Vp.endP l at_ d)) ∧ Below W.heap.size W w' := by
 have hz := mk_size l
 have hu : l[at_] = (⟨l.toArray⟩ : ByteArray)[at_]'(by omega) := rfl
 have hge : ¬ (l.length : Int) ≤ (at_ : Int) := by omega
 have d1 : ((((⟨l.toArray⟩ : ByteArray)[at_]'(by omega)).toNat : Int) == 105) = true := by rw [beq_iff_eq, ← hu, hc]; rfl
 have HC := Lib.hid hc
 clear hu hc
 go_enter Tryz.func107, Tryz.ntmps107
 go_wp2_with (fail)
 refine (upto_calls l at_ 59 W hs (by omega)).mono ?_
 rintro e w1 h
 rcases h with ⟨rfl, hno, rfl⟩ | ⟨k, rfl, hk0, hkl, hk22, hks, hkf, rfl⟩
 ·have hE := Lib.hid (Vp.endP_int_none l at_ d ha HC.out hno)
  clear hno
  go_wp2
  go_ret
  exact ⟨by rw [hE.out]; rfl, Below.refl _ _⟩
 ·have hk1 : at_ + 1 ≤ k := by
   rcases Nat.lt_or_ge at_ k with h | h
   ·exact h
   ·obtain rfl : k = at_ := by omega
    rw [List.getElem?_eq_getElem ha, HC.out] at hks
    cases hks
  have HKS := Lib.hid hks
  have HKF := Lib.hid hkf
  have HX := Lib.hid (extract_text l (at_ + 1) k)
  clear hks hkf
  go_wp2_with (fail)
  rw [HX.out]
  refine (whole_calls _ _ (by simp; omega)).mono ?_
  rintro e w2 ⟨x, b, rfl, hyes, hno, hb⟩
  have HY := Lib.hid hyes
  have HN := Lib.hid hno
  clear hyes hno
  cases b with
  | false =>
   have hE := Lib.hid (Vp.endP_int_no l at_ d k ha HC.out hk1 HKS.out HKF.out (fun y h0 h1 => HN.out rfl y h0 h1))
   clear HY HN
   go_wp2
   go_ret
   exact ⟨by rw [hE.out]; rfl, hb⟩
  | true =>
   have hE := Lib.hid (Vp.endP_int_yes l at_ d k x ha HC.out hk1 HKS.out (HY.out rfl).2.1 (HY.out rfl).2.2 (HY.out rfl).1)
   clear HY HN
   go_wp2
   go_ret
   exact ⟨by rw [hE.out]; rfl, hb⟩
set_option maxHeartbeats 3200000 in
theorem end_str (d : Nat) (l : Vp.Txt) (at_ : Nat) (W : World) (hs : l.length ≤ 140737488351232) (ha : at_ < l.length) (hc : l[at_] = 115) :
  Calls Tryz.prog 107 #[.string ⟨l.toArray⟩, .int .i64 (at_ : Int), .int .i64 (d : Int)] W fun e w' => e = .returned (.int .i64 (Vp.endP l at_ d)) ∧ Below W.heap.size W w' := by
 have hz := mk_size l
 have hu : l[at_] = (⟨l.toArray⟩ : ByteArray)[at_]'(by omega) := rfl
 have hge : ¬ (l.length : Int) ≤ (at_ : Int) := by omega
 have d1 : ((((⟨l.toArray⟩ : ByteArray)[at_]'(by omega)).toNat : Int) == 115) = true := by rw [beq_iff_eq, ← hu, hc]; rfl
 have HC := Lib.hid hc
 clear hu hc
 go_enter Tryz.func107, Tryz.ntmps107
 go_wp2_with (fail)
 refine (upto_calls l at_ 58 W hs (by omega)).mono ?_
 rintro e w1 h
 rcases h with ⟨rfl, hno, rfl⟩ | ⟨k, rfl, hk0, hkl, hk22, hks, hkf, rfl⟩
 ·have hE := Lib.hid (Vp.endP_str_none l at_ d ha HC.out hno)
  clear hno
  go_wp2
  go_ret
  exact ⟨by rw [hE.out]; rfl, Below.refl _ _⟩
 ·have hk1 : at_ + 1 ≤ k := by
   rcases Nat.lt_or_ge at_ k with h | h
   ·exact h
   ·obtain rfl : k = at_ := by omega
    rw [List.getElem?_eq_getElem ha, HC.out] at hks
    cases hks
  have HKS := Lib.hid hks
  have HKF := Lib.hid hkf
  have HX := Lib.hid (extract_text l (at_ + 1) k)
  clear hks hkf
  go_wp2_with (fail)
  rw [HX.out]
  refine (whole_calls _ _ (by simp; omega)).mono ?_
  rintro e w2 ⟨x, b, rfl, hyes, hno, hb⟩
  have HY := Lib.hid hyes
  have HN := Lib.hid hno
  clear hyes hno
  cases b with
  | false =>
   have hE := Lib.hid (Vp.endP_str_no l at_ d k ha HC.out hk1 HKS.out HKF.out (fun y h0 h1 => HN.out rfl y h0 h1))
   clear HY HN
   go_wp2
   go_ret
   exact ⟨by rw [hE.out]; rfl, hb⟩
  | true =>
   obtain ⟨hx, hx0, hx1⟩ := HY.out rfl
   have HXX := Lib.hid hx
   clear HY HN hx
   by_cases hxn : x < 0
   ·have hE := Lib.hid (Vp.endP_str_far l at_ d k x ha HC.out hk1 HKS.out hx0 hx1 HXX.out (.inl hxn))
    go_wp2
    go_ret
    exact ⟨by rw [hE.out]; rfl, hb⟩
   ·by_cases hfar : (l.length : Int) - k - 1 < x
    ·have hE := Lib.hid (Vp.endP_str_far l at_ d k x ha HC.out hk1 HKS.out hx0 hx1 HXX.out (.inr hfar))
     go_wp2
     go_ret
     exact ⟨by rw [hE.out]; rfl, hb⟩
    ·have hE := Lib.hid (Vp.endP_str_yes l at_ d k x ha HC.out hk1 HKS.out (by omega) hx1 HXX.out (by omega))
     have hx0' : 0 ≤ x := by omega
     clear hxn
     go_wp2
     go_ret
     exact ⟨by rw [hE.out]; rfl, hb⟩

set_option maxHeartbeats 3200000 in
theorem end_other (d : Nat) (l : Vp.Txt) (at_ : Nat) (W : World) (hs : l.length ≤ 140737488351232) (ha : at_ < l.length)
  (h1 : l[at_] ≠ 110) (h2 : l[at_] ≠ 105) (h3 : l[at_] ≠ 116) (h4 : l[at_] ≠ 102) (h5 : l[at_] ≠ 115) (h6 : l[at_] ≠ 91) (h7 : l[at_] ≠ 123) :
  Calls Tryz.prog 107 #[.string ⟨l.toArray⟩, .int .i64 (at_ : Int), .int .i64 (d : Int)] W fun e w' => e = .returned (.int .i64 (Vp.endP l at_ d)) ∧ Below W.heap.size W w' := by
 have hz := mk_size l
 have hu : l[at_] = (⟨l.toArray⟩ : ByteArray)[at_]'(by omega) := rfl
 have hge : ¬ (l.length : Int) ≤ (at_ : Int) := by omega
 have hE := Lib.hid (Vp.endP_other l at_ d ha h1 h2 h3 h4 h5 h6 h7)
 have hne : ∀ c : UInt8, l[at_] ≠ c → ((((⟨l.toArray⟩ : ByteArray)[at_]'(by omega)).toNat : Int) == (c.toNat : Int)) = false := fun c hc => by
  rw [beq_eq_false_iff_ne, ← hu]
  intro h
  exact hc (UInt8.toNat_inj.1 (by omega))
 have n1 : ((((⟨l.toArray⟩ : ByteArray)[at_]'(by omega)).toNat : Int) == 110) = false := hne 110 h1
 have n2 : ((((⟨l.toArray⟩ : ByteArray)[at_]'(by omega)).toNat : Int) == 105) = false := hne 105 h2
 have n3 : ((((⟨l.toArray⟩ : ByteArray)[at_]'(by omega)).toNat : Int) == 116) = false := hne 116 h3
 have n4 : ((((⟨l.toArray⟩ : ByteArray)[at_]'(by omega)).toNat : Int) == 102) = false := hne 102 h4
 have n5 : ((((⟨l.toArray⟩ : ByteArray)[at_]'(by omega)).toNat : Int) == 115) = false := hne 115 h5
 have n6 : ((((⟨l.toArray⟩ : ByteArray)[at_]'(by omega)).toNat : Int) == 91) = false := hne 91 h6
 have n7 : ((((⟨l.toArray⟩ : ByteArray)[at_]'(by omega)).toNat : Int) == 123) = false := hne 123 h7
 clear hu hne h1 h2 h3 h4 h5 h6 h7
 go_enter Tryz.func107, Tryz.ntmps107
 go_wp2
 go_ret
 exact ⟨by rw [hE.out]; rfl, Below.refl _ _⟩
theorem end_past (d : Nat) (l : Vp.Txt) (at_ : Nat) (W : World) (hs : l.length ≤ 140737488351232) (ha : l.length ≤ at_) (ha2 : at_ ≤ l.length) :
  Calls Tryz.prog 107 #[.string ⟨l.toArray⟩, .int .i64 (at_ : Int), .int .i64 (d : Int)] W fun e w' => e = .returned (.int .i64 (Vp.endP l at_ d)) ∧ Below W.heap.size W w' := by
 have hz := mk_size l
 have hge : (l.length : Int) ≤ (at_ : Int) := by omega
 have hE := Lib.hid (Vp.endP_past l at_ d ha)
 go_enter Tryz.func107, Tryz.ntmps107
 go_wp2
 go_ret
 exact ⟨by rw [hE.out]; rfl, Below.refl _ _⟩

/-- What the recursion gives. -/
def EndIH (d : Nat) : Prop := ∀ d', d = d' + 1 → EndOK d'

set_option maxHeartbeats 3200000 in
theorem end_row1 (d : Nat) (hd : d ≤ 4) (ih : EndIH d) (l : Vp.Txt) (at_ : Nat) (W : World) (hs : l.length ≤ 140737488351232) (ha : at_ < l.length) (hc : l[at_] = 91) :
  Calls Tryz.prog 107 #[.string ⟨l.toArray⟩, .int .i64 (at_ : Int), .int .i64 (d : Int)] W fun e w' => e = .returned (.int .i64 (Vp.endP l at_ d)) ∧ Below W.heap.size W w' := by
 have hz := mk_size l
 have hu : l[at_] = (⟨l.toArray⟩ : ByteArray)[at_]'(by omega) := rfl
 have hge : ¬ (l.length : Int) ≤ (at_ : Int) := by omega
 have d1 : (((⟨l.toArray⟩ : ByteArray)[at_]'(by omega)).toNat : Int) = 91 := by rw [← hu, hc]; rfl
 have HO := Lib.hid (show Vp.Opens l[at_] 93 from .inl ⟨hc, rfl⟩)
 replace ih := Lib.hid (show ∀ d', d = d' + 1 → EndOK d' from ih)
 clear hu hc
 go_enter Tryz.func107, Tryz.ntmps107
 go_wp2
 clear d1
 go_loopw [1] (fun a wr => ∃ p : Nat, at_ < p ∧ p ≤ l.length ∧ a = .int .i64 (p : Int) ∧ Vp.RowAt l at_ d 93 p ∧ Below W.heap.size W wr) (fun a _ => l.length - (intOf a).toNat)
 case atStart => exact ⟨at_ + 1, by omega, by omega, by go_num, Vp.row_start _ _ _ _, Below.refl _ _⟩
 case round =>
  obtain ⟨p, hp0, hp, rfl, hR, hb⟩ := hrel
  replace hR := Lib.hid hR
  by_cases hlt : p < l.length
  ·have hu : l[p] = (⟨l.toArray⟩ : ByteArray)[p]'(by omega) := rfl
   by_cases he : l[p] = 93
   ·have d1 : (((⟨l.toArray⟩ : ByteArray)[p]'(by omega)).toNat : Int) = 93 := by rw [← hu, he]; rfl
    have hE := Lib.hid (Vp.row_yes l at_ d 93 p ha HO.out hR.out hlt he)
    clear hu he
    by_cases hd0 : 0 < d
    ·go_wp2
     go_ret
     exact ⟨by rw [hE.out]; rfl, hb⟩
    ·obtain rfl : d = 0 := by omega
     go_wp2
     go_ret
     exact ⟨by rw [hE.out]; rfl, hb⟩
   ·have d1 : ((((⟨l.toArray⟩ : ByteArray)[p]'(by omega)).toNat : Int) == 93) = false := by
     rw [beq_eq_false_iff_ne, ← hu]
     intro h
     exact he (UInt8.toNat_inj.1 (show _ = 93 by omega))
    have d2 : ((((⟨l.toArray⟩ : ByteArray)[p]'(by omega)).toNat : Int) != 93) = true := by
     rw [bne_iff_ne, ← hu]
     intro h
     exact he (UInt8.toNat_inj.1 (show _ = 93 by omega))
    have HE := Lib.hid he
    clear hu he
    by_cases hd0 : 0 < d
    ·obtain ⟨d', hd'⟩ : ∃ d', d = d' + 1 := ⟨d - 1, by omega⟩
     have hsub : (d : Int) - 1 = (d' : Int) := by omega
     have HD' := Lib.hid hd'
     clear hd'
     go_wp2_with (fail)
     refine (ih.out d' HD'.out l p _ hs (by omega)).mono ?_; rintro e w2 ⟨rfl, hb2⟩
     by_cases hneg : Vp.endP l p d' < 0
     ·have hE := Lib.hid (Vp.row_fail l at_ d 93 p ha HO.out hR.out hlt HE.out (.inr ⟨d', HD'.out, hneg⟩))
      go_wp2
      go_ret
      exact ⟨by rw [hE.out]; rfl, below_then hb hb2⟩
     ·obtain ⟨q, hq, h1, h2, h3⟩ := Vp.row_step l at_ d' 93 p _ (HD'.out ▸ hR.out) hlt HE.out rfl (by omega)
      rw [hq] at hneg ⊢
      rw [← HD'.out] at h3
      have HR' := Lib.hid h3
      clear hq h3
      go_wp2
      exact ⟨⟨q, by omega, h2, rfl, HR'.out, below_then hb hb2⟩, by simp [intOf]; omega⟩
    ·have hE := Lib.hid (Vp.row_fail l at_ d 93 p ha HO.out hR.out hlt HE.out (.inl (by omega)))
     obtain rfl : d = 0 := by omega
     go_wp2
     go_ret
     exact ⟨by rw [hE.out]; rfl, hb⟩
  ·have hE := Lib.hid (Vp.row_past l at_ d 93 p ha HO.out hR.out (by omega))
   by_cases hd0 : 0 < d
   ·go_wp2
    go_ret
    exact ⟨by rw [hE.out]; rfl, hb⟩
   ·obtain rfl : d = 0 := by omega
    go_wp2
    go_ret
    exact ⟨by rw [hE.out]; rfl, hb⟩

set_option maxHeartbeats 3200000 in
theorem end_row2 (d : Nat) (hd : d ≤ 4) (ih : EndIH d) (l : Vp.Txt) (at_ : Nat) (W : World) (hs : l.length ≤ 140737488351232) (ha : at_ < l.length) (hc : l[at_] = 123) :
  Calls Tryz.prog 107 #[.string ⟨l.toArray⟩, .int .i64 (at_ : Int), .int .i64 (d : Int)] W fun e w' => e = .returned (.int .i64 (Vp.endP l at_ d)) ∧ Below W.heap.size W w' := by
 have hz := mk_size l
 have hu : l[at_] = (⟨l.toArray⟩ : ByteArray)[at_]'(by omega) := rfl
 have hge : ¬ (l.length : Int) ≤ (at_ : Int) := by omega
 have d1 : (((⟨l.toArray⟩ : ByteArray)[at_]'(by omega)).toNat : Int) = 123 := by rw [← hu, hc]; rfl
 have HO := Lib.hid (show Vp.Opens l[at_] 125 from .inr ⟨hc, rfl⟩)
 replace ih := Lib.hid (show ∀ d', d = d' + 1 → EndOK d' from ih)
 clear hu hc
 go_enter Tryz.func107, Tryz.ntmps107
 go_wp2
 clear d1
 go_loopw [1] (fun a wr => ∃ p : Nat, at_ < p ∧ p ≤ l.length ∧ a = .int .i64 (p : Int) ∧ Vp.RowAt l at_ d 125 p ∧ Below W.heap.size W wr) (fun a _ => l.length - (intOf a).toNat)
 case atStart => exact ⟨at_ + 1, by omega, by omega, by go_num, Vp.row_start _ _ _ _, Below.refl _ _⟩
 case round =>
  obtain ⟨p, hp0, hp, rfl, hR, hb⟩ := hrel
  replace hR := Lib.hid hR
  by_cases hlt : p < l.length
  ·have hu : l[p] = (⟨l.toArray⟩ : ByteArray)[p]'(by omega) := rfl
   by_cases he : l[p] = 125
   ·have d1 : (((⟨l.toArray⟩ : ByteArray)[p]'(by omega)).toNat : Int) = 125 := by rw [← hu, he]; rfl
    have hE := Lib.hid (Vp.row_yes l at_ d 125 p ha HO.out hR.out hlt he)
    clear hu he
    by_cases hd0 : 0 < d
    ·go_wp2
     go_ret
     exact ⟨by rw [hE.out]; rfl, hb⟩
    ·obtain rfl : d = 0 := by omega
     go_wp2
     go_ret
     exact ⟨by rw [hE.out]; rfl, hb⟩
   ·have d1 : ((((⟨l.toArray⟩ : ByteArray)[p]'(by omega)).toNat : Int) == 125) = false := by
     rw [beq_eq_false_iff_ne, ← hu]
     intro h
     exact he (UInt8.toNat_inj.1 (show _ = 125 by omega))
    have d2 : ((((⟨l.toArray⟩ : ByteArray)[p]'(by omega)).toNat : Int) != 125) = true := by
     rw [bne_iff_ne, ← hu]
     intro h
     exact he (UInt8.toNat_inj.1 (show _ = 125 by omega))
    have HE := Lib.hid he
    clear hu he
    by_cases hd0 : 0 < d
    ·obtain ⟨d', hd'⟩ : ∃ d', d = d' + 1 := ⟨d - 1, by omega⟩
     have hsub : (d : Int) - 1 = (d' : Int) := by omega
     have HD' := Lib.hid hd'
     clear hd'
     go_wp2_with (fail)
     refine (ih.out d' HD'.out l p _ hs (by omega)).mono ?_; rintro e w2 ⟨rfl, hb2⟩
     by_cases hneg : Vp.endP l p d' < 0
     ·have hE := Lib.hid (Vp.row_fail l at_ d 125 p ha HO.out hR.out hlt HE.out (.inr ⟨d', HD'.out, hneg⟩))
      go_wp2
      go_ret
      exact ⟨by rw [hE.out]; rfl, below_then hb hb2⟩
     ·obtain ⟨q, hq, h1, h2, h3⟩ := Vp.row_step l at_ d' 125 p _ (HD'.out ▸ hR.out) hlt HE.out rfl (by omega)
      rw [hq] at hneg ⊢
      rw [← HD'.out] at h3
      have HR' := Lib.hid h3
      clear hq h3
      go_wp2
      exact ⟨⟨q, by omega, h2, rfl, HR'.out, below_then hb hb2⟩, by simp [intOf]; omega⟩
    ·have hE := Lib.hid (Vp.row_fail l at_ d 125 p ha HO.out hR.out hlt HE.out (.inl (by omega)))
     obtain rfl : d = 0 := by omega
     go_wp2
     go_ret
     exact ⟨by rw [hE.out]; rfl, hb⟩
  ·have hE := Lib.hid (Vp.row_past l at_ d 125 p ha HO.out hR.out (by omega))
   by_cases hd0 : 0 < d
   ·go_wp2
    go_ret
    exact ⟨by rw [hE.out]; rfl, hb⟩
   ·obtain rfl : d = 0 := by omega
    go_wp2
    go_ret
    exact ⟨by rw [hE.out]; rfl, hb⟩

theorem end_step (d : Nat) (hd : d ≤ 4) (ih : EndIH d) : EndOK d := by
 intro l at_ W hs ha
 by_cases hlt : at_ < l.length
 ·by_cases h1 : l[at_] = 110
  ·exact end_simple d l at_ W hs hlt (.inl h1)
  by_cases h2 : l[at_] = 105
  ·exact end_int d l at_ W hs hlt h2
  by_cases h3 : l[at_] = 116
  ·exact end_simple d l at_ W hs hlt (.inr (.inl h3))
  by_cases h4 : l[at_] = 102
  ·exact end_simple d l at_ W hs hlt (.inr (.inr h4))
  by_cases h5 : l[at_] = 115
  ·exact end_str d l at_ W hs hlt h5
  by_cases h6 : l[at_] = 91
  ·exact end_row1 d hd ih l at_ W hs hlt h6
  by_cases h7 : l[at_] = 123
  ·exact end_row2 d hd ih l at_ W hs hlt h7
  ·exact end_other d l at_ W hs hlt h1 h2 h3 h4 h5 h6 h7
 ·exact end_past d l at_ W hs (by omega) ha
theorem end_calls : ∀ d, d ≤ 4 → EndOK d
 | 0, h => end_step 0 h (fun d' e => by omega)
 | d + 1, h => end_step (d + 1) h (fun d' e => by
   have h1 : d' = d := by omega
   rw [h1]
   exact end_calls d (by omega))
end Go.Proofs.YtobhjlchpnpleaaGreatDoor
