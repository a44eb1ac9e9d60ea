/- Chapter 2: each, Count, Copy, and the reference's. -/
import Derived.Test.YtbbakifachemcaaBits
namespace Go.Proofs.Ytbbakifachemcaa
open Go.RowKit Bt
set_option linter.unusedVariables false

def okR (n : Nat) (o c : Int) : Prop := 0 ≤ o ∧ 0 ≤ c ∧ o ≤ 8 * (n : Int) ∧ c ≤ 8 * (n : Int) - o
instance (n : Nat) (o c : Int) : Decidable (okR n o c) := by unfold okR; infer_instance

set_option maxHeartbeats 1600000 in
theorem each_calls (s : ByteArray) (o c : Int) (g : FuncId) (p : Value) (Inv : Nat → World → Prop) (w : World) (hs : s.size ≤ 140737488351232) (hok : okR s.size o c) (hg : ∀ xs W, (callFunc g xs).run Try.prog W = .ok (.enter g xs) W) (h0 : Inv 0 w)
    (hstep : ∀ (i : Nat) W, (i : Int) < c → Inv i W → Calls Try.prog g #[.int .i64 i, .bool (bit s.data.toList (o.toNat + i)), p] W fun e W' => e = .returned (.tuple #[]) ∧ Inv (i + 1) W') :
    Calls Try.prog 53 #[.string s, .int .i64 o, .int .i64 c, .func (.func g) #[] #[p]] w fun e w' => e = .returned (.bool true) ∧ Inv c.toNat w' := by
  obtain ⟨o0, c0, o1, c1⟩ := hok
  obtain ⟨a, rfl⟩ := Int.eq_ofNat_of_zero_le o0
  obtain ⟨n, rfl⟩ := Int.eq_ofNat_of_zero_le c0
  rw [Int.toNat_natCast] at *
  have HS := Lib.hid hstep
  have H0 := Lib.hid h0
  clear hstep h0
  have x1 : ¬ (a : Int) < 0 := by omega
  have x2 : ¬ (n : Int) < 0 := by omega
  have x3 : ¬ 8 * (s.size : Int) < (a : Int) := by omega
  have x4 : ¬ 8 * (s.size : Int) - (a : Int) < (n : Int) := by omega
  go_enter Try.func53, Try.ntmps53
  go_wp2
  go_loopw [10, 33] (fun _ j wr => ∃ k : Nat, k ≤ n ∧ j = .int .i64 k ∧ Inv k wr) (fun _ j _ => n - (intOf j).toNat)
  case atStart => exact ⟨0, Nat.zero_le _, rfl, H0.out⟩
  case round =>
    obtain ⟨k, hk, rfl, hI⟩ := hrel
    by_cases hlt : k < n
    · have hc := HS.out k wr (by omega) hI
      have HI := Lib.hid hI
      have HC := Lib.hid hc
      clear hI hc
      go_wp2_with (first | (go_at_call 50; refine (bitsOn_calls _ _ _ (by omega) (by omega) hs).mono ?_; rintro e w' ⟨rfl, rfl⟩) | (refine HC.out.mono ?_; rintro e w' ⟨rfl, hI⟩))
      go_roundw
      case rel => exact ⟨k + 1, by omega, by go_num, hI⟩
      case measure => simp [intOf]; omega
    · obtain rfl : k = n := by omega
      go_wp2
      go_ret
      exact ⟨rfl, hI⟩

/-- not so many bits -/
theorem each_no (s : ByteArray) (o c : Int) (f : Value) (w : World) (hs : s.size ≤ 140737488351232) (h1 : o ≤ 9223372036854775807) (hok : ¬ okR s.size o c) :
    Calls Try.prog 53 #[.string s, .int .i64 o, .int .i64 c, f] w fun e w' => e = .returned (.bool false) ∧ w = w' := by
  have hs' : 8 * (s.size : Int) ≤ 1125899906842624 := by omega
  unfold okR at hok
  by_cases a0 : o < 0
  · clear hok
    go_enter Try.func53, Try.ntmps53
    go_wp2
    go_ret
    exact ⟨rfl, rfl⟩
  by_cases b0 : c < 0
  · clear hok
    go_enter Try.func53, Try.ntmps53
    go_wp2
    go_ret
    exact ⟨rfl, rfl⟩
  by_cases a1 : 8 * (s.size : Int) < o
  · clear hok
    go_enter Try.func53, Try.ntmps53
    go_wp2
    go_ret
    exact ⟨rfl, rfl⟩
  have b1 : 8 * (s.size : Int) - o < c := by omega
  clear hok
  go_enter Try.func53, Try.ntmps53
  go_wp2
  go_ret
  exact ⟨rfl, rfl⟩

def ones (l : List UInt8) (o n : Nat) : Nat := (some_ l o n).count true
theorem ones_le (l : List UInt8) (o n : Nat) : ones l o n ≤ n := by
  have := List.count_le_length (a := true) (l := some_ l o n)
  rwa [some_length] at this
theorem ones_succ (l : List UInt8) (o n : Nat) : ones l o (n + 1) = ones l o n + if bit l (o + n) then 1 else 0 := by
  unfold ones
  rw [some_snoc, List.count_append]
  congr 1
  cases bit l (o + n) <;> rfl
def countR (l : List UInt8) (n : Nat) (o c : Int) : Int × Int := if okR n o c then ((ones l o.toNat c.toNat : Nat), 0) else (0, 200)

set_option maxHeartbeats 800000 in
theorem countAdd_calls (B c : Nat) (i : Int) (on : Bool) (W : World) (hrow : Row W B 3 [.int .i64 (c : Int)]) (hc : c ≤ 1125899906842624) :
    Calls Try.prog 52 #[.int .i64 i, .bool on, .pointer (some ⟨B, 0, none⟩)] W fun e W' => e = .returned (.tuple #[]) ∧ Row W' B 3 [.int .i64 ((c + if on then 1 else 0 : Nat) : Int)] ∧ ∀ k, Below k W W' ∨ B < k := by
  have hv := hrow.cell (i := 0) (v := .int .i64 (c : Int)) rfl
  have hf := hrow.free (i := 0) (by simp)
  have HR := Lib.hid hrow
  clear hrow
  cases on
  · go_enter Try.func52, Try.ntmps52
    go_wp2
    go_end0
    exact ⟨rfl, HR.out, fun k => .inl (Below.refl _ _)⟩
  · go_enter Try.func52, Try.ntmps52
    go_wp2
    go_end0
    refine ⟨rfl, HR.out.set 0 (.int .i64 ((c : Int) + 1)), fun k => ?_⟩
    by_cases h : B < k
    · exact .inr h
    · exact .inl ((Below.refl _ _).setCell (by simpa using h) _)

theorem enter_count : ∀ xs W, (callFunc 52 xs).run Try.prog W = .ok (.enter 52 xs) W := fun _ _ => by kernel_rfl
set_option maxHeartbeats 800000 in
theorem bitsCount_calls (s : ByteArray) (o c : Int) (w : World) (hs : s.size ≤ 140737488351232) (h1 : o ≤ 9223372036854775807) :
    Calls Try.prog 40 #[.string s, .int .i64 o, .int .i64 c] w fun e w' => e = .returned (.tuple #[.int .i64 (countR s.data.toList s.size o c).1, .int .i64 (countR s.data.toList s.size o c).2]) ∧ Below w.heap.size w w' := by
  by_cases hok : okR s.size o c
  · have HU := Lib.hid (show countR s.data.toList s.size o c = (((ones s.data.toList o.toNat c.toNat : Nat) : Int), 0) by unfold countR; rw [if_pos hok])
    have HE := Lib.hid (fun (W : World) (h0 : Row W w.heap.size 3 [.int .i64 0] ∧ Below w.heap.size w W) => each_calls s o c 52 (.pointer (some ⟨w.heap.size, 0, none⟩)) (fun i W => Row W w.heap.size 3 [.int .i64 (ones s.data.toList o.toNat i : Nat)] ∧ Below w.heap.size w W) W hs hok enter_count h0 (fun i W hi hI =>
      (countAdd_calls w.heap.size (ones s.data.toList o.toNat i) i _ W hI.1 (by have := ones_le s.data.toList o.toNat i; unfold okR at hok; omega)).mono fun e W' ⟨he, hr, hb⟩ => ⟨he, by rw [ones_succ]; exact hr, hI.2.trans ((hb w.heap.size).resolve_right (by omega))⟩))
    clear hok
    go_enter Try.func40, Try.ntmps40
    go_wp2_with (go_at_call 53; refine (HE.out _ ⟨Row.new w _ #[.int .i64 0], (Below.refl _ _).alloc (Nat.le_refl _) _⟩).mono ?_; rintro e w' ⟨rfl, hr, hb⟩; have hv := hr.cell (i := 0) rfl; have HR := Lib.hid hr; clear hr)
    go_ret2
    exact ⟨by rw [HU.out]; rfl, hb⟩
  · have HU := Lib.hid (show countR s.data.toList s.size o c = (0, 200) by unfold countR; rw [if_neg hok])
    go_enter Try.func40, Try.ntmps40
    go_wp2_with (go_at_call 53; refine (each_no _ _ _ _ _ hs h1 hok).mono ?_; rintro e w' ⟨rfl, rfl⟩)
    go_ret2
    exact ⟨by rw [HU.out]; rfl, (Below.refl _ _).alloc (Nat.le_refl _) _⟩

theorem bools_snoc (xs : List Bool) (b : Bool) : bools (xs ++ [b]) = bools xs ++ [.bool b] := by simp [bools]
set_option maxHeartbeats 800000 in
theorem copyAdd_calls (B base : Nat) (v : Value) (xs : List Bool) (i : Int) (on : Bool) (W : World) (hrow : Row W B 64 [v]) (hown : W.ownsRow base 4 1 v xs.length (bools xs)) (hB : B < base) (hb : base ≤ W.heap.size) (hn : xs.length < 140737488355328) :
    Calls Try.prog 55 #[.int .i64 i, .bool on, .pointer (some ⟨B, 0, none⟩)] W fun e W' => e = .returned (.tuple #[]) ∧ (∃ v', Row W' B 64 [v'] ∧ W'.ownsRow base 4 1 v' (xs.length + 1) (bools (xs ++ [on]))) ∧ Below B W W' := by
  have hv := hrow.cell (i := 0) (v := v) rfl
  have hf := hrow.free (i := 0) (by simp)
  have HR := Lib.hid hrow
  have HS := Lib.hid (bools_snoc xs on)
  clear hrow
  go_enter Try.func55, Try.ntmps55
  go_wp2_with (at_builtin; refine wp_app1 rfl _ _ 64 4 rfl base 1 (.bool false) Try.underlying64 info_bool rfl _ _ _ rfl rfl rfl hown (by omega) (by omega) hb ?_; intro v' w1 hown' hbel _; obtain ⟨g, cap, rfl, _, _, _, _⟩ := own_row hown' (by omega); have hr1 := HR.out.below hbel hB; have hv1 := hr1.cell (i := 0) (v := v) rfl; have hf1 := hr1.free (i := 0) (by simp); have HO := Lib.hid hown'; have H1 := Lib.hid hr1; clear hown' hr1)
  go_end0
  exact ⟨rfl, ⟨_, H1.out.set 0 _, by rw [HS.out]; exact ownsRow_setCell_below HO.out (by simpa using hB) _⟩, (hbel.mono (Nat.le_of_lt hB)).setCell (Nat.le_refl _) _⟩

theorem enter_copy : ∀ xs W, (callFunc 55 xs).run Try.prog W = .ok (.enter 55 xs) W := fun _ _ => by kernel_rfl
def copyR (l : List UInt8) (n : Nat) (o c : Int) : List UInt8 × Int := if okR n o c then (packed (some_ l o.toNat c.toNat), 0) else ([], 200)
def textOf (l : List UInt8) : Value := .string ⟨l.toArray⟩
set_option maxHeartbeats 800000 in
theorem bitsCopy_calls (s : ByteArray) (o c : Int) (w : World) (hs : s.size ≤ 140737488351232) (h1 : o ≤ 9223372036854775807) (hc : okR s.size o c → c < 140737488355328) :
    Calls Try.prog 42 #[.string s, .int .i64 o, .int .i64 c] w fun e w' => e = .returned (.tuple #[.string ⟨(copyR s.data.toList s.size o c).1.toArray⟩, .int .i64 (copyR s.data.toList s.size o c).2]) ∧ Below w.heap.size w w' := by
  by_cases hok : okR s.size o c
  · have HU := Lib.hid (show copyR s.data.toList s.size o c = (packed (some_ s.data.toList o.toNat c.toNat), 0) by unfold copyR; rw [if_pos hok])
    have hc := hc hok
    have hc' : c.toNat < 140737488355328 := by omega
    have HE := Lib.hid (fun (W : World) h0 => each_calls s o c 55 (.pointer (some ⟨w.heap.size, 0, none⟩)) (fun i W => ∃ v, Row W w.heap.size 64 [v] ∧ W.ownsRow (w.heap.size + 1) 4 1 v i (bools (some_ s.data.toList o.toNat i)) ∧ Below w.heap.size w W ∧ w.heap.size + 1 ≤ W.heap.size) W hs hok enter_copy h0 (fun i W hi hI => by
      obtain ⟨v, hr, ho, hb, hz⟩ := hI
      have hl := some_length s.data.toList o.toNat i
      refine (copyAdd_calls w.heap.size (w.heap.size + 1) v (some_ s.data.toList o.toNat i) i _ W hr (by rw [hl]; exact ho) (by omega) hz (by omega)).mono ?_
      rintro e W' ⟨he, ⟨v', hr', ho'⟩, hb'⟩
      exact ⟨he, v', hr', by rw [some_snoc]; rw [hl] at ho'; exact ho', hb.trans hb', Nat.le_trans hz hb'.size⟩))
    have hl := some_length s.data.toList o.toNat c.toNat
    clear hok
    go_enter Try.func42, Try.ntmps42
    go_wp2_with (first | (go_at_call 53; refine (HE.out _ ⟨_, Row.new w _ #[.slice none 0 0], World.ownsRow_nil _ _ _ _, (Below.refl _ _).alloc (Nat.le_refl _) _, by simp⟩).mono ?_; rintro e w' ⟨rfl, v, hr, ho, hb, hz⟩; have hv := hr.cell (i := 0) rfl; have HR := Lib.hid hr; clear hr) | (go_at_call 56; refine (bitsOf_calls _ _ _ _ (by rw [hl]; exact ho) (by omega)).mono ?_; rintro e w' ⟨rfl, hb2⟩))
    go_ret2
    exact ⟨by rw [HU.out]; rfl, below_then hb hb2⟩
  · have HU := Lib.hid (show copyR s.data.toList s.size o c = ([], 200) by unfold copyR; rw [if_neg hok])
    go_enter Try.func42, Try.ntmps42
    go_wp2_with (go_at_call 53; refine (each_no _ _ _ _ _ hs h1 hok).mono ?_; rintro e w' ⟨rfl, rfl⟩)
    go_ret2
    exact ⟨by rw [HU.out]; rfl, (Below.refl _ _).alloc (Nat.le_refl _) _⟩
end Go.Proofs.Ytbbakifachemcaa
