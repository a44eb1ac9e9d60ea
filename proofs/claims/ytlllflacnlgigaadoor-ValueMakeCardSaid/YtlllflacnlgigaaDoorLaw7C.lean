/- Chapter 7: the walk of ValueBack. -/
import Derived.Test.YtlllflacnlgigaaDoorAwake7
import Derived.Test.YtlllflacnlgigaaDoorValLaw
namespace Go.Proofs.YtlllflacnlgigaaDoor
open Go.RowKit
set_option linter.unusedVariables false
set_option linter.unusedSimpArgs false

/-- Parts of a value, told. -/
theorem partsAt_calls (v : Vp.Txt) (k : Int) (ps : List Vp.Txt) (er : Int) (W : World) (hv : Vars W) (hl : v.length ≤ 140737488351232) (hp : Vp.parts v = (k, ps, er)) :
    Calls Tryd.prog 14 #[.string ⟨v.toArray⟩] W fun e w' => ∃ a c, e = .returned (.tuple #[.int .i64 k, .slice a ps.length c, .int .i64 er]) ∧ TextsAt w' (.slice a ps.length c) ps ∧ Below W.heap.size W w' := by
  have h := parts_calls v W hv hl
  rw [hp] at h
  refine h.mono fun e w' ⟨r, he, ho, hb⟩ => ?_
  obtain ⟨a, c, rfl⟩ := own_slice ho
  exact ⟨a, c, he, own_texts ho, hb⟩
theorem text_one {w : World} {a : Option Addr} {c : Nat} {p : Vp.Txt} (h : TextsAt w (.slice a 1 c) [p]) : ∃ b o, a = some ⟨b, o, none⟩ ∧ b < w.heap.size ∧ w.cell? ⟨b, o, none⟩ = some (tv p) := by
  obtain ⟨a', c', hr, _, _, hc⟩ := h
  obtain ⟨rfl, _, rfl⟩ := Value.slice.inj hr
  obtain ⟨b, o, rfl, hk, hc⟩ := hc (by simp)
  have := hc 0 _ rfl
  rw [Nat.add_zero] at this
  exact ⟨b, o, rfl, hk, this⟩

theorem bool1_calls (w : World) : Calls Tryd.prog 19 #[.bool true] w fun e w' => e = .returned (.string ⟨#[116]⟩) ∧ w = w' := bool_calls true w
theorem bool0_calls (w : World) : Calls Tryd.prog 19 #[.bool false] w fun e w' => e = .returned (.string ⟨#[102]⟩) ∧ w = w' := bool_calls false w

set_option maxHeartbeats 1600000 in
theorem valueBack_made (v : Vp.Txt) (k : Int) (ps : List Vp.Txt) (hl : v.length ≤ 65536) (hm : Vp.Made k ps v) (hp : Vp.parts v = (k, ps, 0)) (hn : 3 ≤ k → ps.length ≤ 140737488351232) (W : World) (hv : Vars W) :
    Calls Tryd.prog 3 #[.string ⟨v.toArray⟩] W fun e w' => e = .returned (.bool true) ∧ Below W.heap.size W w' := by
  have HP := Lib.hid (fun W hv => partsAt_calls v k ps 0 W hv (by omega) hp)
  clear hp
  cases hm with
  | null =>
    go_enter Tryd.func3, Tryd.ntmps3
    go_wp2_with (fail)
    refine (awake7_calls W hv).mono ?_; rintro e w1 ⟨rfl, HB⟩
    go_wp2_with (fail)
    refine (HP.out _ (hv.below HB hv.six)).mono ?_; rintro e w2 ⟨a, c, rfl, hT, hb⟩
    replace HB := below_then HB hb; clear hb
    go_wp2_with (fail)
    refine (num_calls _ _).mono ?_; rintro e w' ⟨rfl, rfl⟩
    go_wp2_with (fail)
    refine (null_calls _).mono ?_; rintro e w' ⟨rfl, rfl⟩
    go_wp2
    go_ret
    exact ⟨rfl, HB⟩
  | int x h0 h1 =>
    have hz := mk_size (Lib.itoa x)
    have hz2 := itoa_length x h0 h1
    have hcat : ((⟨#[105]⟩ : ByteArray) ++ ⟨(Lib.itoa x).toArray⟩ ++ ⟨#[59]⟩) = ⟨(Vp.int x).toArray⟩ := by
      rw [show (⟨#[105]⟩ : ByteArray) = ⟨[105].toArray⟩ from rfl, show (⟨#[59]⟩ : ByteArray) = ⟨[59].toArray⟩ from rfl, mk_append, mk_append]; rfl
    go_enter Tryd.func3, Tryd.ntmps3
    go_wp2_with (fail)
    refine (awake7_calls W hv).mono ?_; rintro e w1 ⟨rfl, HB⟩
    go_wp2_with (fail)
    refine (HP.out _ (hv.below HB hv.six)).mono ?_; rintro e w2 ⟨a, c, rfl, hT, hb⟩
    replace HB := below_then HB hb; clear hb
    obtain ⟨b, o, rfl, hbs, hc⟩ := text_one hT
    clear hT
    go_wp2_with (fail)
    refine (num_calls _ _).mono ?_; rintro e w' ⟨rfl, rfl⟩
    go_wp2
    go_ret
    exact ⟨rfl, HB⟩
  | bool on =>
    cases on with
    | true =>
      rw [show Vp.bool true = [116] from rfl] at HP ⊢
      go_enter Tryd.func3, Tryd.ntmps3
      go_wp2_with (fail)
      refine (awake7_calls W hv).mono ?_; rintro e w1 ⟨rfl, HB⟩
      go_wp2_with (fail)
      refine (HP.out _ (hv.below HB hv.six)).mono ?_; rintro e w2 ⟨a, c, rfl, hT, hb⟩
      replace HB := below_then HB hb; clear hb
      obtain ⟨b, o, rfl, hbs, hc⟩ := text_one hT
      clear hT
      go_wp2_with (fail)
      refine (num_calls _ _).mono ?_; rintro e w' ⟨rfl, rfl⟩
      go_wp2_with (fail)
      refine (bool1_calls _).mono ?_; rintro e w' ⟨rfl, rfl⟩
      go_wp2
      go_ret
      exact ⟨rfl, HB⟩
    | false =>
      rw [show Vp.bool false = [102] from rfl] at HP ⊢
      go_enter Tryd.func3, Tryd.ntmps3
      go_wp2_with (fail)
      refine (awake7_calls W hv).mono ?_; rintro e w1 ⟨rfl, HB⟩
      go_wp2_with (fail)
      refine (HP.out _ (hv.below HB hv.six)).mono ?_; rintro e w2 ⟨a, c, rfl, hT, hb⟩
      replace HB := below_then HB hb; clear hb
      obtain ⟨b, o, rfl, hbs, hc⟩ := text_one hT
      clear hT
      go_wp2_with (fail)
      refine (num_calls _ _).mono ?_; rintro e w' ⟨rfl, rfl⟩
      go_wp2_with (fail)
      refine (bool1_calls _).mono ?_; rintro e w' ⟨rfl, rfl⟩
      go_wp2_with (fail)
      refine (bool0_calls _).mono ?_; rintro e w' ⟨rfl, rfl⟩
      go_wp2
      go_ret
      exact ⟨rfl, HB⟩
  | str s =>
    have hs : s.length ≤ 140737488351232 := by simp [Vp.str] at hl; omega
    go_enter Tryd.func3, Tryd.ntmps3
    go_wp2_with (fail)
    refine (awake7_calls W hv).mono ?_; rintro e w1 ⟨rfl, HB⟩
    go_wp2_with (fail)
    refine (HP.out _ (hv.below HB hv.six)).mono ?_; rintro e w2 ⟨a, c, rfl, hT, hb⟩
    replace HB := below_then HB hb; clear hb
    obtain ⟨b, o, rfl, hbs, hc⟩ := text_one hT
    clear hT
    go_wp2_with (fail)
    refine (num_calls _ _).mono ?_; rintro e w' ⟨rfl, rfl⟩
    go_wp2_with (fail)
    refine (str_calls s _ (hv.below HB hv.six) hs).mono ?_; rintro e w3 ⟨rfl, hb⟩
    replace HB := below_then HB hb; clear hb
    go_wp2
    go_ret
    exact ⟨rfl, HB⟩
  | list vs =>
    have hj : (Vp.join ps).length ≤ 140737488351232 := by simp [Vp.list] at hl; omega
    have HN := Lib.hid (show ps.length ≤ 140737488351232 from hn (by decide))
    go_enter Tryd.func3, Tryd.ntmps3
    go_wp2_with (fail)
    refine (awake7_calls W hv).mono ?_; rintro e w1 ⟨rfl, HB⟩
    go_wp2_with (fail)
    refine (HP.out _ (hv.below HB hv.six)).mono ?_; rintro e w2 ⟨a, c, rfl, hT, hb⟩
    replace HB := below_then HB hb; clear hb
    replace hT := Lib.hid hT
    go_wp2_with (fail)
    refine (num_calls _ _).mono ?_; rintro e w' ⟨rfl, rfl⟩
    go_wp2_with (fail)
    refine (list_calls _ ps _ hT.out HN.out hj).mono ?_; rintro e w3 ⟨rfl, hb⟩
    replace HB := below_then HB hb; clear hb
    go_wp2
    go_ret
    exact ⟨rfl, HB⟩
  | struct vs =>
    have hj : (Vp.join ps).length ≤ 140737488351232 := by simp [Vp.struct] at hl; omega
    have HN := Lib.hid (show ps.length ≤ 140737488351232 from hn (by decide))
    go_enter Tryd.func3, Tryd.ntmps3
    go_wp2_with (fail)
    refine (awake7_calls W hv).mono ?_; rintro e w1 ⟨rfl, HB⟩
    go_wp2_with (fail)
    refine (HP.out _ (hv.below HB hv.six)).mono ?_; rintro e w2 ⟨a, c, rfl, hT, hb⟩
    replace HB := below_then HB hb; clear hb
    replace hT := Lib.hid hT
    go_wp2_with (fail)
    refine (num_calls _ _).mono ?_; rintro e w' ⟨rfl, rfl⟩
    go_wp2_with (fail)
    refine (struct_calls _ ps _ hT.out HN.out hj).mono ?_; rintro e w3 ⟨rfl, hb⟩
    replace HB := below_then HB hb; clear hb
    go_wp2
    go_ret
    exact ⟨rfl, HB⟩

set_option maxHeartbeats 800000 in
theorem valueBack_no (v : Vp.Txt) (hl : v.length ≤ 140737488351232) (hp : Vp.parts v = (0, [], 700)) (W : World) (hv : Vars W) :
    Calls Tryd.prog 3 #[.string ⟨v.toArray⟩] W fun e w' => e = .returned (.bool true) ∧ Below W.heap.size W w' := by
  have HP := Lib.hid (fun W hv => partsAt_calls v 0 [] 700 W hv hl hp)
  clear hp
  go_enter Tryd.func3, Tryd.ntmps3
  go_wp2_with (fail)
  refine (awake7_calls W hv).mono ?_; rintro e w1 ⟨rfl, HB⟩
  go_wp2_with (fail)
  refine (HP.out _ (hv.below HB hv.six)).mono ?_; rintro e w2 ⟨a, c, rfl, hT, hb⟩
  replace HB := below_then HB hb; clear hb
  clear hT
  go_wp2_with (fail)
  refine (num_calls _ _).mono ?_; rintro e w' ⟨rfl, rfl⟩
  go_wp2
  go_ret
  exact ⟨rfl, HB⟩

theorem valueBack_walk (a0 : ByteArray) (W : World) (hv : Vars W) (w0 : a0.size ≤ 140737488351232) :
    Calls Tryd.prog 3 #[.string a0] W fun e w' => e = .returned (.bool true) ∧ Below W.heap.size W w' := by
  obtain ⟨⟨l⟩⟩ := a0
  have hl : l.length ≤ 140737488351232 := w0
  show Calls Tryd.prog _ #[.string ⟨l.toArray⟩] W _
  by_cases he : (Vp.parts l).2.2 = 0
  · obtain ⟨h1, h2, h3, h4⟩ := Vp.is_of_parts he
    exact valueBack_made l _ _ h1 h3 (by rw [← he]) (fun hk => Vp.parts_many he hk) W hv
  · exact valueBack_no l hl (Vp.parts_bad he) W hv
end Go.Proofs.YtlllflacnlgigaaDoor
