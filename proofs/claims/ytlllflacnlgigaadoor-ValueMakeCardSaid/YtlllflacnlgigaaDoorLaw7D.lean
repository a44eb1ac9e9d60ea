/- Chapter 7: the walk of ValueMake. -/
import Derived.Test.YtlllflacnlgigaaDoorLaw7C
import Derived.Test.YtlllflacnlgigaaDoorLaw7B
namespace Go.Proofs.YtlllflacnlgigaaDoor
open Go.RowKit
set_option linter.unusedVariables false
set_option linter.unusedSimpArgs false

theorem cell_lt {w : World} {p : Addr} {v : Value} (h : w.cell? p = some v) : p.block < w.heap.size := by
  rcases Nat.lt_or_ge p.block w.heap.size with hlt | hge
  · exact hlt
  · unfold World.cell? at h
    rw [Array.getElem?_eq_none hge] at h
    split at h <;> simp_all
theorem own_below {w w' : World} {base n sz : Nat} {e : TypeId} {v : Value} {xs : List Value} (h : w.ownsRow base e sz v n xs) (hb : Below w.heap.size w w') : w'.ownsRow base e sz v n xs := by
  obtain ⟨h1, h2⟩ := h
  refine ⟨h1, h2.imp id ?_⟩
  rintro ⟨g, cap, cur, h3, h4, h5, h6⟩
  exact ⟨g, cap, cur, h3, h4, by rw [hb.block g (Array.getElem?_eq_some_iff.1 h5).1]; exact h5, h6⟩
theorem below_grown {w w1 w2 : World} {row : Option Nat} (h : Below w.heap.size w w1) (g : w1.grownBy w2 row) (hr : ∀ b, row = some b → w.heap.size ≤ b) : Below w.heap.size w w2 :=
  h.trans ⟨g.os, g.tape, g.output, g.size, fun k hk => g.block k (Nat.lt_of_lt_of_le hk h.size) (fun e => by have := hr k e.symm; omega)⟩

/-- What the law collects. -/
def Fine (out : List Vp.Txt) : Prop := ∀ p ∈ out, Vp.IsV 4 p ∧ p.length ≤ 122
theorem fine_snoc {out : List Vp.Txt} {p : Vp.Txt} (h : Fine out) (h1 : Vp.IsV 4 p) (h2 : p.length ≤ 122) : Fine (out ++ [p]) := by
  intro q hq
  rw [List.mem_append, List.mem_singleton] at hq
  rcases hq with hq | rfl
  · exact h q hq
  · exact ⟨h1, h2⟩
theorem fine_join {out : List Vp.Txt} (h : Fine out) : (Vp.join out).length ≤ out.length * 122 := by
  induction out with
  | nil => simp [Vp.join]
  | cons p out ih =>
    have e : (Vp.join (p :: out)).length = p.length + (Vp.join out).length := by simp [Vp.join]
    have h1 := (h p (by simp)).2
    have h2 := ih (fun q hq => h q (by simp [hq]))
    rw [e, List.length_cons, Nat.add_mul]
    omega
theorem fine_list {out : List Vp.Txt} (h : Fine out) (hl : out.length ≤ 30) : Vp.parts (Vp.list out) = (3, out, 0) :=
  Vp.parts_of_is (by have := fine_join h; simp [Vp.list]; omega) (Vp.is_list 4 out fun p hp => (h p hp).1)
theorem fine_struct {out : List Vp.Txt} (h : Fine out) (hl : out.length ≤ 30) : Vp.parts (Vp.struct out) = (4, out, 0) :=
  Vp.parts_of_is (by have := fine_join h; simp [Vp.struct]; omega) (Vp.is_struct 4 out fun p hp => (h p hp).1)
theorem isv_int (x : Int) (h0 : -9223372036854775808 ≤ x) (h1 : x ≤ 9223372036854775807) : Vp.IsV 4 (Vp.int x) ∧ (Vp.int x).length ≤ 122 :=
  ⟨⟨_, _, Vp.is_int 3 x h0 h1⟩, by have := itoa_length x h0 h1; simp [Vp.int]; omega⟩
theorem isv_bool (b : Bool) : Vp.IsV 4 (Vp.bool b) ∧ (Vp.bool b).length ≤ 122 := ⟨⟨_, _, Vp.is_bool 3 b⟩, by cases b <;> simp [Vp.bool]⟩
theorem isv_str (s : Vp.Txt) (h : s.length ≤ 100) : Vp.IsV 4 (Vp.str s) ∧ (Vp.str s).length ≤ 122 :=
  ⟨⟨_, _, Vp.is_str 3 s (by omega)⟩, by have := itoa_length s.length (by omega) (by omega); simp [Vp.str]; omega⟩
theorem isv_odd : Vp.IsV 4 [91, 110, 123, 125, 93] ∧ ([91, 110, 123, 125, 93] : Vp.Txt).length ≤ 122 := by
  refine ⟨?_, by decide⟩
  have h : Vp.IsV 4 (Vp.list [[110], Vp.struct []]) := ⟨_, _, Vp.is_list 3 _ (by
    intro v hv
    simp only [List.mem_cons, List.not_mem_nil, or_false] at hv
    rcases hv with rfl | rfl
    · exact ⟨_, _, Vp.is_null 2⟩
    · exact ⟨_, _, Vp.is_struct 2 [] (by simp)⟩)⟩
  exact h
theorem struct0_calls (W : World) : Calls Tryd.prog 17 #[.slice none 0 0] W fun e w' => e = .returned (.string ⟨#[123, 125]⟩) ∧ Below W.heap.size W w' :=
  struct_calls (.slice none 0 0) [] W ⟨none, 0, rfl, Nat.le_refl _, by decide, fun h => absurd rfl h⟩ (by decide) (by decide)
theorem listOdd_calls (W : World) (v : Value) (ht : TextsAt W v [[110], [123, 125]]) : Calls Tryd.prog 16 #[v] W fun e w' => e = .returned (.string ⟨#[91, 110, 123, 125, 93]⟩) ∧ Below W.heap.size W w' :=
  list_calls v _ W ht (by decide) (by decide)

theorem ints_cell {w : World} {a : Option Addr} {len cap : Nat} {zs : List Int} (h : IntsAt .i64 w a len cap zs) {k : Nat} (hk : k < len) :
    ∃ x z, a = some x ∧ x.block < w.heap.size ∧ w.cell? (x.add k) = some (.int .i64 z) ∧ -9223372036854775808 ≤ z ∧ z ≤ 9223372036854775807 := by
  rcases h with ⟨_, rfl, _⟩ | ⟨x, rfl, h1, h2, h3, h4, h5⟩
  · omega
  · have hc := h4 k (by omega)
    have hx : zs.getD k 0 ∈ zs := by
      rw [List.getD_eq_getElem?_getD, List.getElem?_eq_getElem (by omega)]
      exact List.getElem_mem _
    refine ⟨x, _, rfl, ?_, hc, (i64_le (h5 _ hx)).1, (i64_le (h5 _ hx)).2⟩
    have := cell_lt hc
    rwa [show (x.add k).block = x.block by unfold Addr.add; split <;> rfl] at this

theorem make_next {W w3 : World} {v2 : Value} {out : List Vp.Txt} {p : Vp.Txt} {len : Nat} (hf : Fine out) (hp : Vp.IsV 4 p ∧ p.length ≤ 122)
    (ho3 : w3.ownsRow W.heap.size 9 1 v2 (out.length + 1) (out.map tv ++ [tv p])) (hb : Below W.heap.size W w3) (h1 : out.length < len) (h2 : out.length < 30) :
    (∃ (k : Nat) (out' : List Vp.Txt), k ≤ 30 ∧ k ≤ len ∧ Value.int .i64 ((out.length : Int) + 1) = .int .i64 k ∧ out'.length = k ∧ Fine out' ∧ w3.ownsRow W.heap.size 9 1 v2 out'.length (out'.map tv) ∧ Below W.heap.size W w3) ∧
      len - (intOf (Value.int .i64 ((out.length : Int) + 1))).toNat < len - (intOf (Value.int .i64 (out.length : Int))).toNat :=
  ⟨⟨out.length + 1, out ++ [p], by omega, by omega, by go_num, by simp, fine_snoc hf hp.1 hp.2, by simpa using ho3, hb⟩, by simp [intOf]; omega⟩

set_option maxHeartbeats 3200000 in
theorem valueMake_walk (a : Option Addr) (len cap : Nat) (zs : List Int) (s : ByteArray) (on : Bool) (W : World) (hv : Vars W) (hz : IntsAt .i64 W a len cap zs) (hs : s.size ≤ 140737488351232) :
    Calls Tryd.prog 7 #[.slice a len cap, .string s, .bool on] W fun e w' => e = .returned (.bool true) ∧ Below W.heap.size W w' := by
  have hlen : len ≤ 9223372036854775807 := by
    rcases hz with ⟨_, rfl, _⟩ | ⟨x, rfl, h1, h2, _⟩
    · omega
    · unfold maxLen at h2; omega
  obtain ⟨m, hm⟩ : ∃ m, min s.size 100 = m := ⟨_, rfl⟩
  have hm1 : m ≤ s.size := by omega
  have hm2 : m ≤ 100 := by omega
  have HM := Lib.hid (show min (s.size : Int) 100 = (m : Int) by omega)
  have HX := Lib.hid (show s.extract 0 m = ⟨(s.data.toList.take m).toArray⟩ by
    obtain ⟨⟨l⟩⟩ := s
    rw [mk_extract]; rfl)
  have HT := Lib.hid (show (s.data.toList.take m).length ≤ 100 by rw [List.length_take]; omega)
  generalize s.data.toList.take m = t at HX HT
  have HZ := Lib.hid hz
  clear hz hm
  go_enter Tryd.func7, Tryd.ntmps7
  go_wp2_with (fail)
  refine (awake7_calls W hv).mono ?_; rintro e w1 ⟨rfl, HB⟩
  go_wp2_with (fail)
  go_loopw [7, 8] (fun v i wr => ∃ (k : Nat) (out : List Vp.Txt), k ≤ 30 ∧ k ≤ len ∧ i = .int .i64 k ∧ out.length = k ∧ Fine out ∧ wr.ownsRow W.heap.size 9 1 v out.length (out.map tv) ∧ Below W.heap.size W wr) (fun _ i _ => len - (intOf i).toNat)
  case atStart => exact ⟨0, [], by omega, by omega, rfl, rfl, fun p hp => by simp at hp, own_nil, HB⟩
  case round =>
    obtain ⟨k, out, hk30, hkl, rfl, rfl, hf, ho, hb⟩ := hrel
    replace hf := Lib.hid hf
    replace ho := Lib.hid ho
    by_cases hgo : out.length < len ∧ out.length < 30
    · obtain ⟨hg1, hg2⟩ := hgo
      obtain ⟨x, z, rfl, hxb, hc, z0, z1⟩ := ints_cell HZ.out hg1
      have hc1 := (hb.cell (p := x.add out.length) (by rw [show (x.add out.length).block = x.block by unfold Addr.add; split <;> rfl]; exact hxb)).trans hc
      have hy := and_bd z 3 (by decide)
      have hcases : bits .and .i64 z 3 = 0 ∨ bits .and .i64 z 3 = 1 ∨ bits .and .i64 z 3 = 2 ∨ bits .and .i64 z 3 = 3 := by
        rw [show (3 : Int) = ((3 : Nat) : Int) from rfl]; omega
      clear hy hc
      rcases hcases with hy | hy | hy | hy
      · have hw : -9223372036854775808 ≤ wrap64 (z - 30000) ∧ wrap64 (z - 30000) ≤ 9223372036854775807 := by simp only [wrap64]; omega
        go_wp2_with (fail)
        refine (int_calls (wrap64 (z - 30000)) _ (hv.below hb hv.six) hw.1 hw.2).mono ?_; rintro e w2 ⟨rfl, hb2⟩
        have hb' := below_then hb hb2
        have ho' := own_below ho.out hb2
        go_wp2_with (at_builtin; refine wp_app1 rfl _ _ 23 9 rfl W.heap.size 16 (.string ⟨#[]⟩) Tryd.underlying23 info_string rfl _ _ _ rfl rfl rfl ho' (by omega) (by omega) hb'.size ?_; intro v2 w3 ho3 hb3 hg3)
        exact make_next hf.out (isv_int _ hw.1 hw.2) ho3 (hb'.trans hb3) hg1 hg2
      · go_wp2_with (fail)
        refine (bool_calls _ _).mono ?_; rintro e w' ⟨rfl, rfl⟩
        have hb2 := Below.refl wr.heap.size wr
        have hb' := below_then hb hb2
        have ho' := own_below ho.out hb2
        go_wp2_with (at_builtin; refine wp_app1 rfl _ _ 23 9 rfl W.heap.size 16 (.string ⟨#[]⟩) Tryd.underlying23 info_string rfl _ _ _ rfl rfl rfl ho' (by omega) (by omega) hb'.size ?_; intro v2 w3 ho3 hb3 hg3)
        exact make_next hf.out (isv_bool _) ho3 (hb'.trans hb3) hg1 hg2
      · have hmin := HM.out
        have hx := HX.out
        go_wp2_with (fail)
        clear hmin hx
        refine (str_calls t _ (hv.below hb hv.six) (by have := HT.out; omega)).mono ?_; rintro e w2 ⟨rfl, hb2⟩
        have hb' := below_then hb hb2
        have ho' := own_below ho.out hb2
        go_wp2_with (at_builtin; refine wp_app1 rfl _ _ 23 9 rfl W.heap.size 16 (.string ⟨#[]⟩) Tryd.underlying23 info_string rfl _ _ _ rfl rfl rfl ho' (by omega) (by omega) hb'.size ?_; intro v2 w3 ho3 hb3 hg3)
        exact make_next hf.out (isv_str _ HT.out) ho3 (hb'.trans hb3) hg1 hg2
      · go_wp2_with (fail)
        refine (null_calls _).mono ?_; rintro e w' ⟨rfl, rfl⟩
        go_wp2_with (fail)
        refine (struct0_calls _).mono ?_; rintro e w2 ⟨rfl, hb2⟩
        go_wp2_with (fail)
        refine (listOdd_calls _ _ (texts_at _ _ _ 2 [[110], [123, 125]] rfl rfl rfl (by decide))).mono ?_; rintro e w4 ⟨rfl, hb4⟩
        replace hb2 := below_then (below_alloc hb2 _) hb4
        clear hb4
        rename_i w2'
        have hb' := below_then hb hb2
        have ho' := own_below ho.out hb2
        go_wp2_with (at_builtin; refine wp_app1 rfl _ _ 23 9 rfl W.heap.size 16 (.string ⟨#[]⟩) Tryd.underlying23 info_string rfl _ _ _ rfl rfl rfl ho' (by omega) (by omega) hb'.size ?_; intro v2 w3 ho3 hb3 hg3)
        exact make_next hf.out isv_odd ho3 (hb'.trans hb3) hg1 hg2
    · have HF1 := Lib.hid (fine_list hf.out hk30)
      have HF2 := Lib.hid (fine_struct hf.out hk30)
      have HJ := Lib.hid (fine_join hf.out)
      have HLl : Hid ((Vp.list out).length ≤ 65536 ∧ (Vp.struct out).length ≤ 65536) := Lib.hid (by have := fine_join hf.out; simp [Vp.list, Vp.struct]; omega)
      by_cases hg1 : out.length < len
      · have hg2 : ¬ out.length < 30 := fun h => hgo ⟨hg1, h⟩
        clear hgo
        cases on with
        | true =>
          go_wp2_with (fail)
          refine (struct_calls _ out _ (own_texts ho.out) (by omega) (by have := HJ.out; omega)).mono ?_; rintro e w2 ⟨rfl, hb2⟩
          replace hb := below_then hb hb2; replace ho := Lib.hid (own_below ho.out hb2); clear hb2
          go_wp2_with (fail)
          refine (list_calls _ out _ (own_texts ho.out) (by omega) (by have := HJ.out; omega)).mono ?_; rintro e w2 ⟨rfl, hb2⟩
          replace hb := below_then hb hb2; replace ho := Lib.hid (own_below ho.out hb2); clear hb2
          go_wp2_with (fail)
          refine (partsAt_calls (Vp.list out) 3 out 0 _ (hv.below hb hv.six) (by have := HLl.out; omega) HF1.out).mono ?_; rintro e w4 ⟨a4, c4, rfl, hT4, hb4⟩
          replace hb := below_then hb hb4; replace ho := Lib.hid (own_below ho.out hb4); clear hb4; replace hT4 := Lib.hid hT4
          go_wp2_with (fail)
          refine (num_calls _ _).mono ?_; rintro e w' ⟨rfl, rfl⟩
          go_wp2_with (fail)
          refine (aw_same _ _ out _ hT4.out (own_texts ho.out)).mono ?_; rintro e w5 ⟨rfl, hb5⟩
          replace hb := below_then hb hb5
          go_wp2
          go_ret
          exact ⟨rfl, hb⟩
        | false =>
          go_wp2_with (fail)
          refine (struct_calls _ out _ (own_texts ho.out) (by omega) (by have := HJ.out; omega)).mono ?_; rintro e w2 ⟨rfl, hb2⟩
          replace hb := below_then hb hb2; replace ho := Lib.hid (own_below ho.out hb2); clear hb2
          go_wp2_with (fail)
          refine (partsAt_calls (Vp.struct out) 4 out 0 _ (hv.below hb hv.six) (by have := HLl.out; omega) HF2.out).mono ?_; rintro e w4 ⟨a4, c4, rfl, hT4, hb4⟩
          replace hb := below_then hb hb4; replace ho := Lib.hid (own_below ho.out hb4); clear hb4; replace hT4 := Lib.hid hT4
          go_wp2_with (fail)
          refine (num_calls _ _).mono ?_; rintro e w' ⟨rfl, rfl⟩
          go_wp2_with (fail)
          refine (aw_same _ _ out _ hT4.out (own_texts ho.out)).mono ?_; rintro e w5 ⟨rfl, hb5⟩
          replace hb := below_then hb hb5
          go_wp2
          go_ret
          exact ⟨rfl, hb⟩
      · cases on with
        | true =>
          go_wp2_with (fail)
          refine (struct_calls _ out _ (own_texts ho.out) (by omega) (by have := HJ.out; omega)).mono ?_; rintro e w2 ⟨rfl, hb2⟩
          replace hb := below_then hb hb2; replace ho := Lib.hid (own_below ho.out hb2); clear hb2
          go_wp2_with (fail)
          refine (list_calls _ out _ (own_texts ho.out) (by omega) (by have := HJ.out; omega)).mono ?_; rintro e w2 ⟨rfl, hb2⟩
          replace hb := below_then hb hb2; replace ho := Lib.hid (own_below ho.out hb2); clear hb2
          go_wp2_with (fail)
          refine (partsAt_calls (Vp.list out) 3 out 0 _ (hv.below hb hv.six) (by have := HLl.out; omega) HF1.out).mono ?_; rintro e w4 ⟨a4, c4, rfl, hT4, hb4⟩
          replace hb := below_then hb hb4; replace ho := Lib.hid (own_below ho.out hb4); clear hb4; replace hT4 := Lib.hid hT4
          go_wp2_with (fail)
          refine (num_calls _ _).mono ?_; rintro e w' ⟨rfl, rfl⟩
          go_wp2_with (fail)
          refine (aw_same _ _ out _ hT4.out (own_texts ho.out)).mono ?_; rintro e w5 ⟨rfl, hb5⟩
          replace hb := below_then hb hb5
          go_wp2
          go_ret
          exact ⟨rfl, hb⟩
        | false =>
          go_wp2_with (fail)
          refine (struct_calls _ out _ (own_texts ho.out) (by omega) (by have := HJ.out; omega)).mono ?_; rintro e w2 ⟨rfl, hb2⟩
          replace hb := below_then hb hb2; replace ho := Lib.hid (own_below ho.out hb2); clear hb2
          go_wp2_with (fail)
          refine (partsAt_calls (Vp.struct out) 4 out 0 _ (hv.below hb hv.six) (by have := HLl.out; omega) HF2.out).mono ?_; rintro e w4 ⟨a4, c4, rfl, hT4, hb4⟩
          replace hb := below_then hb hb4; replace ho := Lib.hid (own_below ho.out hb4); clear hb4; replace hT4 := Lib.hid hT4
          go_wp2_with (fail)
          refine (num_calls _ _).mono ?_; rintro e w' ⟨rfl, rfl⟩
          go_wp2_with (fail)
          refine (aw_same _ _ out _ hT4.out (own_texts ho.out)).mono ?_; rintro e w5 ⟨rfl, hb5⟩
          replace hb := below_then hb hb5
          go_wp2
          go_ret
          exact ⟨rfl, hb⟩
end Go.Proofs.YtlllflacnlgigaaDoor
