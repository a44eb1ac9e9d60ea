/- Chapter 7: the taker's methods, walked. -/
import Derived.Test.YtobhjlchpnpleaaGreatDoorCa3
import Derived.Test.YtobhjlchpnpleaaGreatDoorCa1
import Derived.BigRegion
namespace Go.Proofs.YtobhjlchpnpleaaGreatDoor
open Go.RowKit
set_option linter.unusedVariables false
set_option linter.unusedSimpArgs false

/-- A text, as a value. -/
abbrev tv (l : List UInt8) : Value := .string ⟨l.toArray⟩
theorem mk_size (l : List UInt8) : (⟨l.toArray⟩ : ByteArray).size = l.length := by simp [ByteArray.size]
theorem mk_extract (l : List UInt8) (a b : Nat) : (⟨l.toArray⟩ : ByteArray).extract a b = ⟨((l.take b).drop a).toArray⟩ := by
 apply ByteArray.ext
 simp [List.drop_take]
/-- What the library reads: its variables. -/
structure Vars (w : World) : Prop where
 tab : Lib.TabIs Tryz.prog w "internal/strconv.uint64pow10" .u64 Lib.pow10Tab
 syn : ∃ tp p, w.var? Tryz.prog "strconv.ErrSyntax" = some #[.iface tp p]
 rng : ∃ tp p, w.var? Tryz.prog "strconv.ErrRange" = some #[.iface tp p]
 max : ∃ m : Int, w.cell? ⟨2, 0, none⟩ = some (.int .i64 m)
 six : 6 ≤ w.heap.size
theorem var_same {P : Program} {w w' : World} {n : String} {g : Nat} (hg : P.globalNamed n = some g) (h : w'.heap[g]? = w.heap[g]?) : w'.var? P n = w.var? P n := by
 unfold World.var?
 rw [hg]
 simp only [Option.bind_some, h]
theorem gTab : Tryz.prog.globalNamed "internal/strconv.uint64pow10" = some 3 := by kernel_rfl
theorem gSyn : Tryz.prog.globalNamed "strconv.ErrSyntax" = some 0 := by kernel_rfl
theorem gRng : Tryz.prog.globalNamed "strconv.ErrRange" = some 1 := by kernel_rfl
theorem Vars.same {w w' : World} (h : Vars w) (hk : ∀ k, k < 6 → w'.heap[k]? = w.heap[k]?) (hs : w.heap.size ≤ w'.heap.size) : Vars w' where
 tab := by
  have := h.tab
  unfold Lib.TabIs at this ⊢
  rw [var_same gTab (hk _ (by decide)), this]
 syn := by rw [var_same gSyn (hk _ (by decide))]; exact h.syn
 rng := by rw [var_same gRng (hk _ (by decide))]; exact h.rng
 max := by
  obtain ⟨m, hm⟩ := h.max
  exact ⟨m, by rw [World.cell?_of_block (w := w) (hk _ (by decide)), hm]⟩
 six := Nat.le_trans h.six hs
theorem Vars.below {w w' : World} {B : Nat} (h : Vars w) (hb : Below B w w') (hB : 6 ≤ B) : Vars w' := h.same (fun k hk => hb.block k (by omega)) hb.size
theorem Vars.grown {w w' : World} {b : Nat} (h : Vars w) (hg : w.grownBy w' (some b)) (hb : 6 ≤ b) : Vars w' :=
 h.same (fun k hk => hg.block k (Nat.lt_of_lt_of_le hk h.six) (fun e => by have := Option.some.inj e; omega)) hg.size
theorem Vars.drewN {w : World} (h : Vars w) (n : Nat) : Vars (w.drewN n) := h.same (fun _ _ => rfl) (Nat.le_refl _)

theorem Row.grown {w w' : World} {g : Nat} {t : TypeId} {xs : List Value} {row : Option Nat} (h : Row w g t xs) (hg : w.grownBy w' row) (hne : some g ≠ row) : Row w' g t xs := h.same (hg.block g h.lt hne)
theorem grown_refl (w : World) (row : Option Nat) : w.grownBy w row := ⟨rfl, rfl, rfl, Nat.le_refl _, fun _ _ _ => rfl⟩
theorem grown_of_below {a w w' : World} {row : Option Nat} (h : a.grownBy w row) (k : Below w.heap.size w w') : a.grownBy w' row :=
 h.trans ⟨k.os, k.tape, k.output, k.size, fun i hi _ => k.block i hi⟩
theorem grown_drew {a w : World} {row : Option Nat} (h : a.grownBy w row) : a.grownBy w.drew row := h.trans ⟨rfl, rfl, rfl, Nat.le_refl _, fun _ _ _ => rfl⟩
theorem grown_alloc {a w : World} {row : Option Nat} (h : a.grownBy w row) (o : Obj) : a.grownBy (w.alloc o) row := h.trans (World.grownBy_alloc w o row)
theorem grown_set {a w : World} {b : Nat} (h : a.grownBy w (some b)) (i : Nat) (u : Value) : a.grownBy (w.setCell ⟨b, i, none⟩ u) (some b) :=
 h.trans ⟨rfl, rfl, rfl, by simp [World.setCell], fun k hk hne => Below.heap_setCell _ _ _ _ (fun e => hne (by rw [e]))⟩

/-- A taker in a block. -/
def TkAt (w : World) (b : Nat) (t : Vp.Tk) : Prop := Row w b 142 [tv t.rest, .bool t.bad]

theorem TkAt.lt {w : World} {b : Nat} {t : Vp.Tk} (h : TkAt w b t) : b < w.heap.size := Row.lt h
theorem TkAt.below {w w' : World} {b : Nat} {t : Vp.Tk} (h : TkAt w b t) (hb : Below w.heap.size w w') : TkAt w' b t := Row.below h hb (Row.lt h)
theorem TkAt.grown {w w' : World} {b : Nat} {t : Vp.Tk} {row : Option Nat} (h : TkAt w b t) (hb : w.grownBy w' row) (hne : some b ≠ row) : TkAt w' b t := Row.grown h hb hne
theorem TkAt.set0 {w : World} {b : Nat} {t : Vp.Tk} (h : TkAt w b t) (r : List UInt8) : TkAt (w.setCell ⟨b, 0, none⟩ (tv r)) b ⟨r, t.bad⟩ := Row.set h 0 _
theorem TkAt.set1 {w : World} {b : Nat} {t : Vp.Tk} (h : TkAt w b t) (x : Bool) : TkAt (w.setCell ⟨b, 1, none⟩ (.bool x)) b ⟨t.rest, x⟩ := Row.set h 1 _
theorem TkAt.c0 {w : World} {b : Nat} {t : Vp.Tk} (h : TkAt w b t) : w.cell? ⟨b, 0, none⟩ = some (.string ⟨t.rest.toArray⟩) := Row.cell h (i := 0) rfl
theorem TkAt.c1 {w : World} {b : Nat} {t : Vp.Tk} (h : TkAt w b t) : w.cell? ⟨b, 1, none⟩ = some (.bool t.bad) := Row.cell h (i := 1) rfl
theorem TkAt.f0 {w : World} {b : Nat} {t : Vp.Tk} (h : TkAt w b t) : w.frozen? ⟨b, 0, none⟩ = false   := Row.free h (i := 0) (by simp)
theorem TkAt.f1 {w : World} {b : Nat} {t : Vp.Tk} (h : TkAt w b t) : w.frozen? ⟨b, 1, none⟩ = false   := Row.free h (i := 1) (by simp)

theorem fail_calls (b : Nat) (t : Vp.Tk) (W : World) (h : TkAt W b t) :
  Calls Tryz.prog 141 #[.pointer (some ⟨b, 0, none⟩)] W fun e w' => e = .returned (.tuple #[.int .i64 0, .slice none 0 0]) ∧ TkAt w' b ⟨t.rest, true⟩ ∧ W.grownBy w' (some b) := by
 obtain ⟨s, bad⟩ := t
 have f1 := h.f1
 have c1 := h.c1
 go_enter Tryz.func141, Tryz.ntmps141
 go_wp2
 go_ret2
 exact ⟨rfl, h.set1 _, grown_set (grown_refl _ _) _ _⟩

set_option maxHeartbeats 800000 in
theorem byte_calls (b : Nat) (t : Vp.Tk) (W : World) (h : TkAt W b t) (hs : t.rest.length ≤ 65536) :
  Calls Tryz.prog 142 #[.pointer (some ⟨b, 0, none⟩)] W fun e w' => e = .returned (.int .u8 ((Vp.byte t).1.toNat : Int)) ∧ TkAt w' b (Vp.byte t).2 ∧ W.grownBy w' (some b) := by
 obtain ⟨s, bad⟩ := t
 have f0 := h.f0
 have f1 := h.f1
 have c1 : W.cell? ⟨b, 1, none⟩ = some (.bool bad) := h.c1
 cases s with
 | nil =>
  have c0 : W.cell? ⟨b, 0, none⟩ = some (.string ⟨#[]⟩) := h.c0
  go_enter Tryz.func142, Tryz.ntmps142
  go_wp2
  go_ret
  exact ⟨rfl, h.set1 _, grown_set (grown_refl _ _) _ _⟩
 | cons c r =>
  have c0 : W.cell? ⟨b, 0, none⟩ = some (.string ⟨(c :: r).toArray⟩) := h.c0
  have hz : (⟨(c :: r).toArray⟩ : ByteArray).size = r.length + 1 := mk_size _
  have hl : r.length + 1 ≤ 65536 := hs
  go_enter Tryz.func142, Tryz.ntmps142
  go_wp2
  go_ret
  have hx : (⟨(c :: r).toArray⟩ : ByteArray).extract 1 (r.length + 1) = ⟨r.toArray⟩ := by rw [mk_extract]; simp
  exact ⟨rfl, by rw [hx]; exact h.set0 r, grown_set (grown_refl _ _) _ _⟩

set_option maxHeartbeats 800000 in
theorem bytes_calls (b : Nat) (t : Vp.Tk) (x : Int) (W : World) (h : TkAt W b t) (hs : t.rest.length ≤ 65536) (hx : x ≤ 9223372036854775807) :
  Calls Tryz.prog 144 #[.pointer (some ⟨b, 0, none⟩), .int .i64 x] W fun e w' => e = .returned (tv (Vp.bytes t x).1) ∧ TkAt w' b (Vp.bytes t x).2 ∧ W.grownBy w' (some b) := by
 obtain ⟨s, bad⟩ := t
 have f0 := h.f0
 have f1 := h.f1
 have c1 : W.cell? ⟨b, 1, none⟩ = some (.bool bad) := h.c1
 have c0 : W.cell? ⟨b, 0, none⟩ = some (.string ⟨s.toArray⟩) := h.c0
 have hz : (⟨s.toArray⟩ : ByteArray).size = s.length := mk_size _
 have hl : s.length ≤ 65536 := hs
 cases bad with
 | true =>
  have HU := Lib.hid (show Vp.bytes ⟨s, true⟩ x = ([], ⟨s, true⟩) by simp [Vp.bytes])
  go_enter Tryz.func144, Tryz.ntmps144
  go_wp2
  go_ret
  rw [HU.out]
  exact ⟨rfl, h.set1 _, grown_set (grown_refl _ _) _ _⟩
 | false =>
  by_cases h0 : 0 ≤ x
  ·obtain ⟨n, rfl⟩ := Int.eq_ofNat_of_zero_le h0
   by_cases hn : n ≤ s.length
   ·have hn' : ¬ ((s.length : Int) < (n : Int)) := by omega
    have HU := Lib.hid (show Vp.bytes ⟨s, false⟩ (n : Int) = (s.take n, ⟨s.drop n, false⟩) by unfold Vp.bytes; rw [if_neg (by simp; omega)]; rfl)
    go_enter Tryz.func144, Tryz.ntmps144
    go_wp2
    go_ret
    rw [HU.out]
    refine ⟨?_, ?_, grown_set (grown_refl _ _) _ _⟩
    ·rw [mk_extract]; simp [tv]
    ·have e : ∀ m, s.length ≤ m → (⟨s.toArray⟩ : ByteArray).extract n m = ⟨(s.drop n).toArray⟩ := fun m hm => by rw [mk_extract, List.take_of_length_le hm]
     rw [e _ (Nat.le_refl _)]
     exact h.set0 (s.drop n)
   ·have hn' : (s.length : Int) < (n : Int) := by omega
    have HU := Lib.hid (show Vp.bytes ⟨s, false⟩ (n : Int) = ([], ⟨s, true⟩) by unfold Vp.bytes; rw [if_pos (by simp; omega)])
    go_enter Tryz.func144, Tryz.ntmps144
    go_wp2
    go_ret
    rw [HU.out]
    exact ⟨rfl, h.set1 _, grown_set (grown_refl _ _) _ _⟩
  ·have h0' : x < 0 := by omega
   have HU := Lib.hid (show Vp.bytes ⟨s, false⟩ x = ([], ⟨s, true⟩) by unfold Vp.bytes; rw [if_pos (.inr (.inl h0'))])
   go_enter Tryz.func144, Tryz.ntmps144
   go_wp2
   go_ret
   rw [HU.out]
   exact ⟨rfl, h.set1 _, grown_set (grown_refl _ _) _ _⟩

theorem bytesWorld_below (w : World) (e : TypeId) (s : ByteArray) : Below w.heap.size w (Lib.bytesWorld w e s) := bytes_below (Below.refl _ _) (Nat.le_refl _) e s

/-- strconv.Atoi. -/
theorem atoi_ok (l : List UInt8) (W : World) (hl : l.length ≤ 65536) (h : (Vp.atoi l).2 = true) :
  Calls Tryz.prog 125 #[.string ⟨l.toArray⟩] W fun e w' => e = .returned (.tuple #[.int .i64 (Vp.atoi l).1, .nilIface]) ∧ Below W.heap.size W w' := by
 have hz := mk_size l
 rcases ha : Lib.atoiAll l with v | _ | _
 ·refine (Tryz.strconv_Atoi_ok ⟨l.toArray⟩ (by omega) v (by simpa using ha) W).mono ?_
  rintro e w' ⟨rfl, hw⟩
  refine ⟨by simp [Vp.atoi, ha], ?_⟩
  rcases hw with rfl | ⟨t, rfl⟩
  ·exact Below.refl _ _
  ·exact bytesWorld_below _ _ _
 ·simp [Vp.atoi, ha] at h
 ·simp [Vp.atoi, ha] at h
theorem atoi_no (l : List UInt8) (W : World) (hv : Vars W) (hl : l.length ≤ 65536) (h : (Vp.atoi l).2 = false) :
  Calls Tryz.prog 125 #[.string ⟨l.toArray⟩] W fun e w' => (∃ N, e = .returned (.tuple #[.int .i64 (Vp.atoi l).1, .iface 173 (.pointer (some ⟨N, 0, none⟩))])) ∧ Below W.heap.size W w' := by
 have hz := mk_size l
 rcases ha : Lib.atoiAll l with v | _ | _
 ·simp [Vp.atoi, ha] at h
 ·obtain ⟨tp, p, hp⟩ := hv.syn
  refine (Tryz.strconv_Atoi_syntax_var ⟨l.toArray⟩ (by omega) ha tp p W hp).mono ?_
  rintro e w' ⟨N, rfl, _, _, hb⟩
  exact ⟨⟨N, by simp [Vp.atoi, ha]⟩, hb⟩
 ·obtain ⟨tp, p, hp⟩ := hv.rng
  refine (Tryz.strconv_Atoi_range_var ⟨l.toArray⟩ (by omega) (by simpa using ha) tp p W hp).mono ?_
  rintro e w' ⟨N, rfl, _, _, hb⟩
  exact ⟨⟨N, by simp [Vp.atoi, ha]⟩, hb⟩
theorem below_grow (w : World) (k : Nat) (os : Array Obj) : Below w.heap.size w (Sort.grow (w.drewN k) os) :=
 ⟨rfl, rfl, rfl, by simp [Sort.grow, World.drewN], fun j hj => by simp [Sort.grow, World.drewN, Array.getElem?_append, hj]⟩
theorem itoa_calls (n : Int) (W : World) (hv : Vars W) (h0 : -9223372036854775808 ≤ n) (h1 : n ≤ 9223372036854775807) :
  Calls Tryz.prog 152 #[.int .i64 n] W fun e w' => e = .returned (tv (Lib.itoa n)) ∧ Below W.heap.size W w' := by
 refine (Tryz.strconv_Itoa n h0 h1 W hv.tab).mono ?_
 rintro e w' ⟨rfl, k, os, rfl⟩
 exact ⟨rfl, below_grow _ _ _⟩
theorem cut_calls (l sep : List UInt8) (W : World) (hv : Vars W) (hl : l.length ≤ 65536) :
  Calls Tryz.prog 153 #[.string ⟨l.toArray⟩, .string ⟨sep.toArray⟩] W fun e w' => e = .returned (.tuple #[tv (Lib.cut l sep).1, tv (Lib.cut l sep).2.1, .bool (Lib.cut l sep).2.2]) ∧ Below W.heap.size W w' := by
 have hz := mk_size l
 obtain ⟨m, hm⟩ := hv.max
 refine (Tryz.strings_Cut ⟨l.toArray⟩ ⟨sep.toArray⟩ m W (by omega) hm).mono ?_
 rintro e w' ⟨rfl, n, rfl⟩
 exact ⟨rfl, below_drewN (Below.refl _ _) n⟩

theorem atoi_bd (l : List UInt8) : -9223372036854775808 ≤ (Vp.atoi l).1 ∧ (Vp.atoi l).1 ≤ 9223372036854775807 := by
 unfold Vp.atoi
 rcases ha : Lib.atoiAll l with v | _ | _
 ·exact Lib.atoiAll_bounds ha
 ·simp
 ·simp only [Lib.atoiSat]; split <;> simp

set_option maxHeartbeats 1600000 in
theorem number_calls (b : Nat) (t : Vp.Tk) (c : UInt8) (W : World) (hv : Vars W) (hb6 : 6 ≤ b) (h : TkAt W b t) (hs : t.rest.length ≤ 65536) :
  Calls Tryz.prog 143 #[.pointer (some ⟨b, 0, none⟩), .string ⟨#[c]⟩] W
   fun e w' => e = .returned (.tuple #[.int .i64 (Vp.number t c).1, tv (Vp.number t c).2.1]) ∧ TkAt w' b (Vp.number t c).2.2 ∧ W.grownBy w' (some b) := by
 obtain ⟨s, bad⟩ := t
 have c0 : W.cell? ⟨b, 0, none⟩ = some (.string ⟨s.toArray⟩) := h.c0
 have hU : Vp.number ⟨s, bad⟩ c = ((Vp.atoi (Lib.cut s [c]).1).1, (Lib.cut s [c]).1, ⟨(Lib.cut s [c]).2.1, bad || !(Lib.cut s [c]).2.2 || !(Vp.atoi (Lib.cut s [c]).1).2 || (Lib.itoa (Vp.atoi (Lib.cut s [c]).1).1 != (Lib.cut s [c]).1)⟩) := rfl
 rw [hU]
 clear hU
 have hcall := cut_calls s [c] W hv hs
 have hd1 : (Lib.cut s [c]).1.length ≤ 65536 := by
  unfold Lib.cut
  split
  ·exact Nat.le_trans (by simp; omega) hs
  ·exact hs
 generalize hcut : Lib.cut s [c] = q at hcall hd1 ⊢
 obtain ⟨d, r, is⟩ := q
 simp only at hcall hd1 ⊢
 have hbd := atoi_bd d
 have GB := grown_refl W (some b)
 have H := h
 cases is with
 | false =>
  cases ha : (Vp.atoi d).2 with
  | true =>
   go_enter Tryz.func143, Tryz.ntmps143
   go_wp2_with (first
    | (go_at_call 153; refine hcall.mono ?_; rintro e w' ⟨rfl, hb⟩; replace H := H.below hb; replace GB := grown_of_below GB hb; clear hb; have f0 := H.f0; have f1 := H.f1; have c0 := H.c0; have c1 := H.c1)
    | (go_at_call 125; refine (atoi_ok _ _ hd1 ha).mono ?_; rintro e w' ⟨rfl, hb⟩; replace H := H.below hb; replace GB := grown_of_below GB hb; clear hb; have f0 := H.f0; have f1 := H.f1; have c0 := H.c0; have c1 := H.c1))
   go_ret2
   exact ⟨rfl, by simpa using (H.set0 r).set1 true, grown_set (grown_set GB _ _) _ _⟩
  | false =>
   go_enter Tryz.func143, Tryz.ntmps143
   go_wp2_with (first
    | (go_at_call 153; refine hcall.mono ?_; rintro e w' ⟨rfl, hb⟩; replace H := H.below hb; replace GB := grown_of_below GB hb; clear hb; have f0 := H.f0; have f1 := H.f1; have c0 := H.c0; have c1 := H.c1)
    | (go_at_call 125; refine (atoi_no _ _ (hv.grown GB hb6) hd1 ha).mono ?_; rintro e w' ⟨⟨N, rfl⟩, hb⟩; replace H := H.below hb; replace GB := grown_of_below GB hb; clear hb; have f0 := H.f0; have f1 := H.f1; have c0 := H.c0; have c1 := H.c1))
   go_ret2
   exact ⟨rfl, by simpa using (H.set0 r).set1 true, grown_set (grown_set GB _ _) _ _⟩
 | true =>
  cases ha : (Vp.atoi d).2 with
  | false =>
   go_enter Tryz.func143, Tryz.ntmps143
   go_wp2_with (first
    | (go_at_call 153; refine hcall.mono ?_; rintro e w' ⟨rfl, hb⟩; replace H := H.below hb; replace GB := grown_of_below GB hb; clear hb; have f0 := H.f0; have f1 := H.f1; have c0 := H.c0; have c1 := H.c1)
    | (go_at_call 125; refine (atoi_no _ _ (hv.grown GB hb6) hd1 ha).mono ?_; rintro e w' ⟨⟨N, rfl⟩, hb⟩; replace H := H.below hb; replace GB := grown_of_below GB hb; clear hb; have f0 := H.f0; have f1 := H.f1; have c0 := H.c0; have c1 := H.c1))
   go_ret2
   exact ⟨rfl, by simpa using (H.set0 r).set1 true, grown_set (grown_set GB _ _) _ _⟩
  | true =>
   by_cases he : Lib.itoa (Vp.atoi d).1 = d
   ·go_enter Tryz.func143, Tryz.ntmps143
    go_wp2_with (first
     | (go_at_call 153; refine hcall.mono ?_; rintro e w' ⟨rfl, hb⟩; replace H := H.below hb; replace GB := grown_of_below GB hb; clear hb; have f0 := H.f0; have f1 := H.f1; have c0 := H.c0; have c1 := H.c1)
     | (go_at_call 125; refine (atoi_ok _ _ hd1 ha).mono ?_; rintro e w' ⟨rfl, hb⟩; replace H := H.below hb; replace GB := grown_of_below GB hb; clear hb; have f0 := H.f0; have f1 := H.f1; have c0 := H.c0; have c1 := H.c1)
     | (go_at_call 152; refine (itoa_calls _ _ (hv.grown (grown_set GB _ _) hb6) hbd.1 hbd.2).mono ?_; rintro e w' ⟨rfl, hb⟩; replace H := (H.set0 _).below hb; replace GB := grown_of_below (grown_set GB _ _) hb; clear hb; have f0 := H.f0; have f1 := H.f1; have c0 := H.c0; have c1 := H.c1))
    go_ret2
    exact ⟨rfl, by simpa [he] using H, GB⟩
   ·have he' : (Lib.itoa (Vp.atoi d).1 == d) = false := by simp [he]
    go_enter Tryz.func143, Tryz.ntmps143
    go_wp2_with (first
     | (go_at_call 153; refine hcall.mono ?_; rintro e w' ⟨rfl, hb⟩; replace H := H.below hb; replace GB := grown_of_below GB hb; clear hb; have f0 := H.f0; have f1 := H.f1; have c0 := H.c0; have c1 := H.c1)
     | (go_at_call 125; refine (atoi_ok _ _ hd1 ha).mono ?_; rintro e w' ⟨rfl, hb⟩; replace H := H.below hb; replace GB := grown_of_below GB hb; clear hb; have f0 := H.f0; have f1 := H.f1; have c0 := H.c0; have c1 := H.c1)
     | (go_at_call 152; refine (itoa_calls _ _ (hv.grown (grown_set GB _ _) hb6) hbd.1 hbd.2).mono ?_; rintro e w' ⟨rfl, hb⟩; replace H := (H.set0 _).below hb; replace GB := grown_of_below (grown_set GB _ _) hb; clear hb; have f0 := H.f0; have f1 := H.f1; have c0 := H.c0; have c1 := H.c1))
    go_ret2
    exact ⟨rfl, by have := H.set1 true; simpa [bne, he'] using this, grown_set GB _ _⟩

def ValOK (d : Nat) : Prop := ∀ (b : Nat) (t : Vp.Tk) (W : World), 6 ≤ b → Vars W → TkAt W b t → t.rest.length ≤ 65536 →
 Calls Tryz.prog 119 #[.pointer (some ⟨b, 0, none⟩), .int .i64 (5 - (d : Int))] W fun e w' => ∃ v, e = .returned (.tuple #[.int .i64 (Vp.value d t).1, v]) ∧
  w'.ownsRow W.heap.size 9 1 v (Vp.value d t).2.1.length ((Vp.value d t).2.1.map tv) ∧ TkAt w' b (Vp.value d t).2.2 ∧ W.grownBy w' (some b)

/-- How many rounds are left, read off the world. -/
def lenAt (w : World) (b : Nat) : Nat :=
 match w.cell? ⟨b, 1, none⟩, w.cell? ⟨b, 0, none⟩ with
 | some (.bool true), _ => 0
 | _, some (.string s) => s.size
 | _, _ => 0
theorem lenAt_eq {w : World} {b : Nat} {t : Vp.Tk} (h : TkAt w b t) : lenAt w b = Vp.left t := by
 obtain ⟨s, bad⟩ := t
 have c0 := h.c0
 have c1 := h.c1
 unfold lenAt Vp.left
 rw [c0, c1]
 cases bad
 ·exact mk_size s
 ·rfl
theorem info_string : (Tryz.prog.info? 9).map (fun i => (i.zero, i.size, i.bytes)) = some (some (.string ⟨#[]⟩), 1, 16) := by kernel_rfl

set_option maxHeartbeats 1600000 in
theorem row_calls (d : Nat) (hd : d ≤ 5) (hval : ValOK d) (b : Nat) (t : Vp.Tk) (c : UInt8) (W : World) (hb6 : 6 ≤ b) (hv : Vars W) (h : TkAt W b t) (hs : t.rest.length ≤ 65536) :
  Calls Tryz.prog 145 #[.pointer (some ⟨b, 0, none⟩), .int .u8 (c.toNat : Int), .int .i64 (5 - (d : Int))] W fun e w' => ∃ v, e = .returned v ∧
   w'.ownsRow W.heap.size 9 1 v (Vp.row (fun t => (Vp.value d t).2.2) c t).1.length ((Vp.row (fun t => (Vp.value d t).2.2) c t).1.map tv) ∧ TkAt w' b (Vp.row (fun t => (Vp.value d t).2.2) c t).2 ∧ W.grownBy w' (some b) := by
 obtain ⟨R, hR⟩ : ∃ R, Vp.rowLoop (fun t => (Vp.value d t).2.2) c (t.rest.length + 1) t [] = R := ⟨_, rfl⟩
 have HU := Lib.hid (show Vp.row (fun t => (Vp.value d t).2.2) c t = (R.1, (Vp.byte R.2).2) by unfold Vp.row; rw [hR])
 have hg := h.lt
 go_enter Tryz.func145, Tryz.ntmps145
 go_wp2
 go_loopw [7, 8] (fun v _ wr => ∃ (k : Nat) (t' : Vp.Tk) (out : List Vp.Txt), wr.ownsRow W.heap.size 9 1 v out.length (out.map tv) ∧ TkAt wr b t' ∧ W.grownBy wr (some b) ∧ (t'.rest.length ≤ 65536 ∧ Vp.left t' + out.length ≤ 65536) ∧ Vp.left t' ≤ k ∧ Vp.rowLoop (fun t => (Vp.value d t).2.2) c k t' out = R) (fun _ _ wr => lenAt wr b)
 case atStart => exact ⟨t.rest.length + 1, t, [], ⟨rfl, .inl ⟨rfl, rfl⟩⟩, h, grown_refl _ _, ⟨hs, by unfold Vp.left; simp only [List.length_nil]; split <;> omega⟩, by unfold Vp.left; split <;> omega, hR⟩
 case round =>
  obtain ⟨k, ⟨s, bad⟩, out, hown, H, GB, ⟨hlen, hlo⟩, hk, hloop⟩ := hrel
  have c1 : wr.cell? ⟨b, 1, none⟩ = some (.bool bad) := H.c1
  have c0 : wr.cell? ⟨b, 0, none⟩ = some (.string ⟨s.toArray⟩) := H.c0
  have HO := Lib.hid hown
  clear hown
  cases bad with
  | true =>
   have hend := Vp.rowLoop_end (fun t => (Vp.value d t).2.2) c k ⟨s, true⟩ out (by simp [Vp.goes])
   rw [hloop] at hend
   clear hloop
   have HE := Lib.hid hend
   clear hend
   go_wp2_with (go_at_call 142; refine (byte_calls _ _ _ H (by simp only at hlen ⊢; omega)).mono ?_; rintro e w' ⟨rfl, H', hb⟩)
   go_ret
   refine ⟨_, rfl, ?_⟩
   rw [HU.out, HE.out]
   exact ⟨HO.out.kept hb (.inr fun e => by have := (HO.out.lt _ e).1; omega), H', GB.trans hb⟩
  | false =>
   cases s with
   | nil =>
    have hend := Vp.rowLoop_end (fun t => (Vp.value d t).2.2) c k ⟨[], false⟩ out (by simp [Vp.goes])
    rw [hloop] at hend
    clear hloop
    have HE := Lib.hid hend
    clear hend
    replace c0 : wr.cell? ⟨b, 0, none⟩ = some (.string ⟨#[]⟩) := c0
    go_wp2_with (go_at_call 142; refine (byte_calls _ _ _ H (by simp only at hlen ⊢; omega)).mono ?_; rintro e w' ⟨rfl, H', hb⟩)
    go_ret
    refine ⟨_, rfl, ?_⟩
    rw [HU.out, HE.out]
    exact ⟨HO.out.kept hb (.inr fun e => by have := (HO.out.lt _ e).1; omega), H', GB.trans hb⟩
   | cons x r =>
    have hz : (⟨(x :: r).toArray⟩ : ByteArray).size = r.length + 1 := mk_size _
    have hx0 : (⟨(x :: r).toArray⟩ : ByteArray)[0]'(by rw [hz]; omega) = x := rfl
    have hl : r.length + 1 + out.length ≤ 65536 := hlo
    clear hlo
    by_cases hxc : x = c
    ·have hend := Vp.rowLoop_end (fun t => (Vp.value d t).2.2) c k ⟨x :: r, false⟩ out (by simp [Vp.goes, hxc])
     rw [hloop] at hend
     clear hloop
     have HE := Lib.hid hend
     clear hend
     subst hxc
     go_wp2_with (go_at_call 142; refine (byte_calls _ _ _ H (by simp only at hlen ⊢; omega)).mono ?_; rintro e w' ⟨rfl, H', hb⟩)
     go_ret
     refine ⟨_, rfl, ?_⟩
     rw [HU.out, HE.out]
     exact ⟨HO.out.kept hb (.inr fun e => by have := (HO.out.lt _ e).1; omega), H', GB.trans hb⟩
    ·have hgo : Vp.goes c ⟨x :: r, false⟩ = true := by simp [Vp.goes, hxc]
     obtain ⟨m, rfl, hstep⟩ := Vp.rowLoop_go (fun t => (Vp.value d t).2.2) c k ⟨x :: r, false⟩ out hgo hk
     rw [hloop] at hstep
     clear hloop
     have hleft := Vp.left_step d ⟨x :: r, false⟩ c hgo
     have hle := Vp.value_le d ⟨x :: r, false⟩
     have hcall := hval b ⟨x :: r, false⟩ wr hb6 (hv.grown GB hb6) H (by simp only [List.length_cons]; omega)
     have hxn : ((x.toNat : Int) != (c.toNat : Int)) = true := by
      rw [bne_iff_ne]
      intro e
      exact hxc (UInt8.toNat_inj.1 (by omega))
     generalize Vp.value d ⟨x :: r, false⟩ = q at hstep hleft hle hcall
     obtain ⟨kind, ps, ⟨s2, bad2⟩⟩ := q
     have HS := Lib.hid hstep
     have HL := Lib.hid (show Vp.left ⟨s2, bad2⟩ ≤ m ∧ Vp.left ⟨s2, bad2⟩ < Vp.left ⟨x :: r, false⟩ from ⟨by have : Vp.left ⟨s2, bad2⟩ < Vp.left ⟨x :: r, false⟩ := hleft; omega, hleft⟩)
     have HZ := Lib.hid hl
     obtain ⟨n, hn⟩ : ∃ n, r.length + 1 = s2.length + n := ⟨r.length + 1 - s2.length, by have hle' : s2.length ≤ r.length + 1 := hle; omega⟩
     have hz2 : (⟨s2.toArray⟩ : ByteArray).size = s2.length := mk_size _
     have hsub : (r.length : Int) + 1 - (s2.length : Int) = (n : Int) := by omega
     have hn9 : n ≤ r.length + 1 := by omega
     have hL1 : r.length + 1 ≤ 65536 := by omega
     have hL2 : s2.length ≤ 65536 := by omega
     have HN := Lib.hid hn
     clear hleft hstep hgo hle hlen hk hs hd hl hval hR hn
     have HC := Lib.hid hcall
     have HT := Lib.hid H
     have HX := Lib.hid (show (⟨(x :: r).toArray⟩ : ByteArray).extract 0 n = ⟨((x :: r).take n).toArray⟩ by rw [mk_extract]; rfl)
     clear hcall H
     go_wp2_with (fail)
     refine HC.out.mono ?_
     rintro e w' ⟨v', rfl, ho', H', hb⟩
     have HHc : w'.cell? ⟨b, 0, none⟩ = some (.string ⟨s2.toArray⟩) := H'.c0
     generalize hS : (⟨(x :: r).toArray⟩ : ByteArray) = S at hz HX ⊢
     clear hS hx0
     generalize hS2 : (⟨s2.toArray⟩ : ByteArray) = S2 at HHc hz2
     clear hS2
     rw [show (r.length : Int) + 1 = ((r.length + 1 : Nat) : Int) by omega] at hsub
     generalize r.length + 1 = L at hz hn9 hL1 hsub
     generalize s2.length = M at hz2 hL2 hsub
     clear c0 hxn hxc c1
     have c0 := HHc
     have HH := Lib.hid H'; have HV := Lib.hid ho'; clear H' ho'
     have HG := Lib.hid (GB.trans hb)
     have hne : u7.ownBlock = none ∨ u7.ownBlock ≠ some b := .inr fun e => by have := (HO.out.lt _ e).1; omega
     have hown := HO.out.kept hb hne
     have hsz : W.heap.size ≤ w'.heap.size := HG.out.size
     go_wp2_with (at_builtin; refine wp_app1 rfl _ _ 39 9 rfl W.heap.size 16 (.string ⟨#[]⟩) Tryz.underlying39 info_string rfl _ _ _ rfl rfl rfl hown (by have := HZ.out; omega) (by have := HZ.out; omega) hsz ?_; intro v2 w2 hown2 hbel2 hg2)
     have hg3 : w'.grownBy w2 u7.ownBlock := hg2
     have hne' : some b ≠ u7.ownBlock := fun e => hne.elim (fun h => by rw [h] at e; cases e) (fun h => h e.symm)
     have hn' : (x :: r).length - s2.length = n := by have := HN.out; rw [List.length_cons]; omega
     have HS' := HS.out
     rw [hn'] at HS'
     rw [HX.out] at hown2
     have HT2 := HH.out.grown hg3 hne'
     refine ⟨⟨m, ⟨s2, bad2⟩, out ++ [(x :: r).take n], ?_, HT2, HG.out.andThen hg3 (fun j hj => .inl (HO.out.lt j hj).1), ⟨?_, ?_⟩, HL.out.1, HS'.symm⟩, ?_⟩
     ·rw [List.length_append, List.map_append]; exact hown2
     ·have := HN.out; have := HZ.out; show s2.length ≤ 65536; omega
     ·have h1 := HL.out.2
      have h2 : Vp.left ⟨x :: r, false⟩ = r.length + 1 := rfl
      have := HZ.out
      rw [List.length_append, List.length_singleton]
      omega
     ·rw [lenAt_eq HT2, lenAt_eq HT.out]
      exact HL.out.2
end Go.Proofs.YtobhjlchpnpleaaGreatDoor
