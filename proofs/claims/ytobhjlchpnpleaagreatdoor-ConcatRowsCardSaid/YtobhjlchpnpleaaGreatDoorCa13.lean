/- Several texts in one: ArrX, Tk, RefRow. -/
import Derived.Test.YtobhjlchpnpleaaGreatDoorCa12
import Derived.Test.YtobhjlchpnpleaaGreatDoorCa2
import Derived.Test.YtobhjlchpnpleaaGreatDoorCa3
import Derived.Deep.RegionHeld3
import Derived.Test.YtobhjlchpnpleaaGreatDoorCa9
import Derived.Test.YtobhjlchpnpleaaGreatDoorCa7
import Derived.Laws.BitsAllLaws
/- Arrays that may be, and what their rows are, seen from their numbers. -/
namespace Go.Proofs.YtobhjlchpnpleaaGreatDoor
open Go.RowKit
set_option linter.unusedVariables false
set_option linter.unusedSimpArgs false

theorem num4_rng (l : Vp.Txt) (i : Nat) : 0 ≤ (Vp.num4 l i).1 ∧ (Vp.num4 l i).1 ≤ 2147483647 := by
 unfold Vp.num4
 split
 ·rename_i h
  have := h.2
  constructor <;> simp <;> omega
 ·constructor <;> decide
theorem ends_no {l : Vp.Txt} {rows : Nat} {most : Int} {f ap k : Nat} (hk : k ≤ rows) (h : Vp.endOk l most f ap k = false) : Vp.endsOk l rows most f ap = false := by
 unfold Vp.endsOk
 rw [Bool.eq_false_iff]
 intro ha
 have := (List.all_eq_true.1 ha) k (List.mem_range.2 (by omega))
 rw [h] at this
 exact absurd this (by decide)
theorem ends_yes {l : Vp.Txt} {rows : Nat} {most : Int} {f ap : Nat} (h : ∀ j, j < rows + 1 → Vp.endOk l most f ap j = true) : Vp.endsOk l rows most f ap = true := by
 unfold Vp.endsOk
 rw [List.all_eq_true]
 exact fun j hj => h j (List.mem_range.1 hj)
theorem endOk_eq (l : Vp.Txt) (most : Int) (f ap k : Nat) (x was : Int) (b : Bool) (hx : Vp.num4 l k = (x, b)) (hw : was = Vp.runEnd l k) (h0 : 0 ≤ x) :
  Vp.endOk l most f ap k = (b && (decide (was ≤ x) && (decide (x ≤ most) && (decide (k ≤ f) || decide (x - was ≤ ap))))) := by
 unfold Vp.endOk
 rw [hx]
 unfold Vp.runEnd at hw
 rcases Nat.eq_zero_or_pos k with h | h
 ·subst h
  rw [if_pos rfl] at hw
  subst hw
  simp [h0]
 ·rw [if_neg (by omega)] at hw
  rw [← hw]
  have : decide (k = 0) = false := decide_eq_false (by omega)
  rw [this, Bool.false_or]
  cases b
  ·rfl
  ·rw [Bool.true_and, Bool.true_and]; exact Bool.and_left_comm _ _ _
theorem no_empty {e : Vp.Txt} (h : e ≠ []) : e.isEmpty = false := by cases e with | nil => exact absurd rfl h | cons => rfl
theorem nodes_open {w : World} {vv : Value} {ns : List Tp.Nd} (h : NodesAt w vv ns) {i : Nat} (hi : i < ns.length) : ∃ bk o c, vv = .slice (some ⟨bk, o, none⟩) ns.length c ∧ ns.length ≤ c ∧ c ≤ maxLen ∧ bk < w.heap.size ∧
  w.cell? ⟨bk, o + i * 3, none⟩ = some (.int .i64 (Tp.kindOf ns i)) ∧ w.cell? ⟨bk, o + i * 3 + 2, none⟩ = some (.bool (Vp.isNull ns i)) := by
 obtain ⟨a, c, rfl, h1, h2, h3⟩ := h
 obtain ⟨bk, o, rfl, hbk, hc⟩ := h3 (by intro e; rw [e] at hi; exact Nat.not_lt_zero _ hi)
 obtain ⟨g0, _, g2⟩ := hc i _ (List.getElem?_eq_getElem hi)
 have e : ns.getD i default = ns[i] := by rw [List.getD_eq_getElem?_getD, List.getElem?_eq_getElem hi]; rfl
 exact ⟨bk, o, c, rfl, h1, h2, hbk, by unfold Tp.kindOf; rw [e]; exact g0, by unfold Vp.isNull; rw [e]; exact g2⟩
/-- May an array be, of a node that is told by any number? -/
def mayX (ns : List Tp.Nd) (a : Arr) (x : Int) : Bool := Tp.node ns x && Vp.mayA ns a x.toNat
theorem mayX_nat (ns : List Tp.Nd) (a : Arr) (i : Nat) : mayX ns a (i : Int) = Vp.mayA ns a i := by
 unfold mayX
 rw [Int.toNat_natCast]
 cases h : Tp.node ns (i : Int) with
 | true => rfl
 | false =>
  obtain ⟨l, f, n, v, e, d, ks⟩ := a
  rw [Vp.mayA, h]; rfl
/-- What an array of LayoutPlain must be. -/
def plainX (ns : List Tp.Nd) (i : Nat) (f n : Int) (e d : Vp.Txt) (ks : List Arr) : Bool :=
 decide (ks.length = (Tp.kids ns i).length) && (Vp.mayAll ns ks (Tp.kids ns i) && Vp.plainOk ns i f n e d ks)
theorem box7 {w w' : World} {g : Nat} {t : TypeId} {c0 c1 c2 c3 c4 c5 c6 : Value} (h : w.heap[g]? = some (.cells #[c0, c1, c2, c3, c4, c5, c6] t)) (hb : Below w.heap.size w w') :
  (w'.cell? ⟨g, 0, none⟩ = some c0 ∧ w'.cell? ⟨g, 1, none⟩ = some c1 ∧ w'.cell? ⟨g, 2, none⟩ = some c2 ∧ w'.cell? ⟨g, 3, none⟩ = some c3 ∧ w'.cell? ⟨g, 4, none⟩ = some c4 ∧ w'.cell? ⟨g, 5, none⟩ = some c5 ∧ w'.cell? ⟨g, 6, none⟩ = some c6) ∧ Below w.heap.size w w' := by
 obtain ⟨h0, h1, h2, h3, h4, h5, h6, _⟩ := zero_cells ((hb.block _ (lt_of_block h)).trans h)
 exact ⟨⟨h0, h1, h2, h3, h4, h5, h6⟩, hb⟩
def plainK (kd f n : Int) (e d : Vp.Txt) (ks : List Arr) : Bool :=
 if kd = 0 then decide (e = []) && decide (8 * (f + n) ≤ d.length)
 else if kd = 1 then decide (e = []) && decide ((f + n + 7) / 8 ≤ d.length)
 else if kd = 2 then Vp.endsOk e (f + n).toNat d.length f.toNat 16
 else if kd = 3 then decide (d = []) && Vp.endsOk e (f + n).toNat (Vp.kid0 ks).len 0 64
 else decide (e = []) && (decide (d = []) && ks.all fun k => decide (f + n ≤ k.len))
theorem plainK_eq (ns : List Tp.Nd) (i : Nat) (f n : Int) (e d : Vp.Txt) (ks : List Arr) : Vp.plainOk ns i f n e d ks = plainK (Tp.kindOf ns i) f n e d ks := rfl
theorem plainX_leaf (ns : List Tp.Nd) (i : Nat) (f n : Int) (e d : Vp.Txt) (ks : List Arr) (h : Tp.kids ns (i : Int) = []) : plainX ns i f n e d ks = (decide (ks = []) && plainK (Tp.kindOf ns i) f n e d ks) := by
 unfold plainX
 rw [plainK_eq, h]
 cases ks with
 | nil => rfl
 | cons a r => rw [decide_eq_false (by simp), decide_eq_false (by simp), Bool.false_and, Bool.false_and]
def numsOk (f n : Int) (v e d : Vp.Txt) : Bool := decide (0 ≤ f ∧ 0 ≤ n ∧ f ≤ 64 ∧ n ≤ 64 - f ∧ v.length ≤ 4096 ∧ e.length ≤ 4096 ∧ d.length ≤ 4096)
def validOk (ns : List Tp.Nd) (i : Nat) (f n : Int) (v : Vp.Txt) : Bool := decide (v = []) || (Vp.isNull ns i && decide ((f + n + 7) / 8 ≤ v.length))
theorem mayX_eq (ns : List Tp.Nd) (l f n : Int) (v e d : Vp.Txt) (ks : List Arr) (x : Int) : mayX ns (.mk l f n v e d ks) x = (Tp.node ns x && numsOk f n v e d && (validOk ns x.toNat f n v &&
  (if l = 0 then plainX ns x.toNat f n e d ks
  else if l = 1 then Vp.oneOk ns x.toNat e ks && (Vp.mayAll ns ks [x.toNat] && Vp.dictOk f n v d (Vp.kid0 ks))
  else if l = 2 then Vp.oneOk ns x.toNat e ks && (Vp.mayAll ns ks [x.toNat] && Vp.runOk f n v d (Vp.kid0 ks).len)
  else false))) := by
 unfold mayX plainX numsOk validOk
 cases h : Tp.node ns x with
 | false => rfl
 | true =>
  have hx : (x.toNat : Int) = x := by
   unfold Tp.node at h
   simp only [Bool.and_eq_true, decide_eq_true_eq] at h
   omega
  rw [Vp.mayA, hx, h]
  unfold Vp.bufOk
  simp only [Bool.true_and, Bool.and_assoc]
theorem mayA_rng {ns : List Tp.Nd} {l f n : Int} {v e d : Vp.Txt} {ks : List Arr} {i : Nat} (h : Vp.mayA ns (.mk l f n v e d ks) i = true) : 0 ≤ n ∧ n ≤ 64 := by
 rw [Vp.mayA] at h
 simp only [Bool.and_eq_true] at h
 have h2 := h.1.2
 unfold Vp.bufOk at h2
 simp only [Bool.and_eq_true, decide_eq_true_eq] at h2
 omega
theorem le_lt (l : List UInt8) : Vp.le l < 256 ^ l.length := by
 induction l with
 | nil => simp [Vp.le]
 | cons c l ih =>
  rw [Vp.le_cons, List.length_cons, Nat.pow_succ]
  have := c.toNat_lt
  omega
/-- A number of four bytes at a place. -/
def num4R (l : Vp.Txt) (i : Nat) : Int × Int := ((Vp.num4 l i).1, if (Vp.num4 l i).2 then 0 else 300)
theorem cut4_lt (e : Vp.Txt) (row : Nat) : Vp.cut4 e row < 4294967296 := by
 unfold Vp.cut4
 have h := le_lt ((e.drop (4 * row)).take 4)
 have hl : ((e.drop (4 * row)).take 4).length ≤ 4 := by rw [List.length_take]; omega
 have h2 : 256 ^ ((e.drop (4 * row)).take 4).length ≤ 256 ^ 4 := Nat.pow_le_pow_right (by decide) hl
 have h3 : (256 : Nat) ^ 4 = 4294967296 := by decide
 omega
/-- What an array that may be is, as far as its numbers go. -/
theorem mayA_nums {ns : List Tp.Nd} {l f n : Int} {v e d : Vp.Txt} {ks : List Arr} {i : Nat} (h : Vp.mayA ns (.mk l f n v e d ks) i = true) :
  Tp.may ns = true ∧ i < ns.length ∧ 0 ≤ f ∧ 0 ≤ n ∧ f + n ≤ 64 ∧ v.length ≤ 4096 ∧ e.length ≤ 4096 ∧ d.length ≤ 4096 ∧ (v ≠ [] → (f + n + 7) / 8 ≤ v.length) := by
 rw [Vp.mayA] at h
 simp only [Bool.and_eq_true] at h
 obtain ⟨⟨h1, h2⟩, _⟩ := h
 obtain ⟨g1, g2⟩ := (Vp.node_of ns i).1 h1
 unfold Vp.bufOk at h2
 simp only [Bool.and_eq_true, Bool.or_eq_true, decide_eq_true_eq] at h2
 obtain ⟨h2, h3⟩ := h2
 refine ⟨g1, g2, h2.1, h2.2.1, by omega, h2.2.2.2.2.1, h2.2.2.2.2.2.1, h2.2.2.2.2.2.2, fun hv => ?_⟩
 rcases h3 with h3 | h3
 ·exact absurd h3 hv
 ·exact h3.2
theorem mayA_plain {ns : List Tp.Nd} {f n : Int} {v e d : Vp.Txt} {ks : List Arr} {i : Nat} (h : Vp.mayA ns (.mk 0 f n v e d ks) i = true) : Vp.plainOk ns i f n e d ks = true := by
 rw [Vp.mayA, if_pos rfl] at h
 simp only [Bool.and_eq_true] at h
 exact h.2.2.2
def plainT (ns : List Tp.Nd) (kd : Int) (e d : Vp.Txt) (ks : List Arr) (i row : Nat) : Vp.Txt :=
 if kd = 0 then Vp.int (Vp.int8 d row)
 else if kd = 1 then Vp.bool (Bt.bit d row)
 else if kd = 2 then Vp.str ((d.drop (Vp.num4 e row).1.toNat).take ((Vp.num4 e (row + 1)).1.toNat - (Vp.num4 e row).1.toNat))
 else if kd = 3 then Vp.list ((List.range ((Vp.num4 e (row + 1)).1.toNat - (Vp.num4 e row).1.toNat)).map fun j => Vp.headA ns ks ((Tp.kids ns i).getD 0 0) ((Vp.num4 e row).1.toNat + j))
 else Vp.struct (Vp.eachA ns ks (Tp.kids ns i) row)
theorem text_plain (ns : List Tp.Nd) (f n : Int) (v e d : Vp.Txt) (ks : List Arr) (i row : Nat) (h : Vp.on v row = true) : Vp.textA ns (.mk 0 f n v e d ks) i row = plainT ns (Tp.kindOf ns i) e d ks i row := by
 rw [Vp.textA, h, if_neg (by decide), if_neg (by decide), if_neg (by decide)]; rfl
theorem List.take_drop_sub {α : Type} (l : List α) (a b : Nat) (h : a ≤ b) : (l.drop a).take (b - a) = (l.take b).drop a := by
 rw [List.drop_take]
theorem ends_at {e : Vp.Txt} {rows : Nat} {most : Int} {f ap row : Nat} (h : Vp.endsOk e rows most f ap = true) (hr : row < rows) :
  Vp.num4 e row = (((Vp.cut4 e row : Nat) : Int), true) ∧ Vp.num4 e (row + 1) = (((Vp.cut4 e (row + 1) : Nat) : Int), true) ∧ Vp.cut4 e row ≤ Vp.cut4 e (row + 1) ∧ ((Vp.cut4 e (row + 1) : Nat) : Int) ≤ most ∧ 4 * row + 8 ≤ e.length := by
 unfold Vp.endsOk at h
 have h0 := (List.all_eq_true.1 h) row (List.mem_range.2 (by omega))
 have h1 := (List.all_eq_true.1 h) (row + 1) (List.mem_range.2 (by omega))
 have key : ∀ j, (Vp.num4 e j).2 = true → Vp.num4 e j = (((Vp.cut4 e j : Nat) : Int), true) ∧ 4 * j + 4 ≤ e.length := by
  intro j hj
  unfold Vp.num4 at hj ⊢
  split at hj
  ·rename_i hc
   rw [if_pos hc]
   exact ⟨rfl, hc.1⟩
  ·exact absurd hj (by decide)
 unfold Vp.endOk at h0 h1
 simp only [Bool.and_eq_true, Bool.or_eq_true, decide_eq_true_eq] at h0 h1
 obtain ⟨a1, a2⟩ := key row h0.1
 obtain ⟨b1, b2⟩ := key (row + 1) h1.1
 have h2 := h1.2.2
 rw [Nat.add_sub_cancel, a1, b1] at h2
 have h3 := h1.2.1
 rw [b1] at h3
 simp only at h2 h3
 exact ⟨a1, b1, by omega, h3, by omega⟩
theorem int8_rng (d : Vp.Txt) (row : Nat) : -9223372036854775808 ≤ Vp.int8 d row ∧ Vp.int8 d row ≤ 9223372036854775807 := by
 unfold Vp.int8
 rw [IntKind.wrap_i64]
 omega
theorem text_dict (ns : List Tp.Nd) (f n : Int) (v e d : Vp.Txt) (y : Arr) (i row : Nat) (h : Vp.on v row = true) : Vp.textA ns (.mk 1 f n v e d [y]) i row = Vp.rowA ns y i (Vp.num4 d row).1.toNat := by
 rw [Vp.textA, h, if_neg (by decide), if_pos rfl]
 obtain ⟨l', f', n', v', e', d', ks'⟩ := y
 rfl
/-- What a dictionary's array is. -/
theorem mayA_dict {ns : List Tp.Nd} {f n : Int} {v e d : Vp.Txt} {ks : List Arr} {i : Nat} (h : Vp.mayA ns (.mk 1 f n v e d ks) i = true) :
  ∃ y, ks = [y] ∧ e = [] ∧ Vp.mayA ns y i = true ∧ Vp.dictOk f n v d y = true := by
 rw [Vp.mayA, if_neg (by decide), if_pos rfl] at h
 simp only [Bool.and_eq_true] at h
 obtain ⟨_, h1, h2, h3⟩ := h
 unfold Vp.oneOk at h1
 simp only [Bool.and_eq_true, decide_eq_true_eq] at h1
 obtain ⟨y, rfl⟩ := List.length_eq_one_iff.1 h1.2.2.1
 refine ⟨y, rfl, h1.2.1, ?_, h3⟩
 rw [Vp.mayAll, Bool.and_eq_true] at h2
 exact h2.1
theorem dict_at {f n : Nat} {v d : Vp.Txt} {y : Arr} {row : Nat} (h : Vp.dictOk f n v d y = true) (hr : row < n) (hon : Vp.on v (f + row) = true) :
  Vp.num4 d (f + row) = (((Vp.cut4 d (f + row) : Nat) : Int), true) ∧ ((Vp.cut4 d (f + row) : Nat) : Int) < y.len ∧ 4 * (f + row) + 4 ≤ d.length := by
 unfold Vp.dictOk at h
 simp only [Bool.and_eq_true, decide_eq_true_eq] at h
 obtain ⟨_, h1, h2⟩ := h
 have h3 := (List.all_eq_true.1 h2) row (List.mem_range.2 (by omega))
 rw [Int.toNat_natCast] at h3
 unfold Vp.dictAt at h3
 rw [hon, Bool.true_and] at h3
 simp only [Bool.not_eq_true', Bool.or_eq_false_iff, Bool.not_eq_false', decide_eq_false_iff_not] at h3
 have hj := h3.1
 have key : Vp.num4 d (f + row) = (((Vp.cut4 d (f + row) : Nat) : Int), true) := by
  unfold Vp.num4 at hj ⊢
  split at hj
  ·rename_i hc; rw [if_pos hc]
  ·exact absurd hj (by decide)
 rw [key] at h3
 exact ⟨key, by have := h3.2; simp only at this; omega, by omega⟩
theorem text_run (ns : List Tp.Nd) (f n : Int) (v e d : Vp.Txt) (y : Arr) (i row : Nat) (h : Vp.on v row = true) : Vp.textA ns (.mk 2 f n v e d [y]) i row = Vp.rowA ns y i (Vp.runOf d row) := by
 rw [Vp.textA, h, if_neg (by decide), if_neg (by decide), if_pos rfl]
 obtain ⟨l', f', n', v', e', d', ks'⟩ := y
 rfl
/-- What an array of runs is. -/
theorem mayA_run {ns : List Tp.Nd} {f n : Int} {v e d : Vp.Txt} {ks : List Arr} {i : Nat} (h : Vp.mayA ns (.mk 2 f n v e d ks) i = true) :
  ∃ y, ks = [y] ∧ e = [] ∧ Vp.mayA ns y i = true ∧ Vp.runOk f n v d y.len = true := by
 rw [Vp.mayA, if_neg (by decide), if_neg (by decide), if_pos rfl] at h
 simp only [Bool.and_eq_true] at h
 obtain ⟨_, h1, h2, h3⟩ := h
 unfold Vp.oneOk at h1
 simp only [Bool.and_eq_true, decide_eq_true_eq] at h1
 obtain ⟨y, rfl⟩ := List.length_eq_one_iff.1 h1.2.2.1
 refine ⟨y, rfl, h1.2.1, ?_, h3⟩
 rw [Vp.mayAll, Bool.and_eq_true] at h2
 exact h2.1
theorem run_at {f n : Nat} {v d : Vp.Txt} {k : Nat} (h : Vp.runOk f n v d (k : Int) = true) :
  d.length = 4 * k ∧ (∀ j, j < k → Vp.num4 d j = (((Vp.cut4 d j : Nat) : Int), true)) ∧ ((f : Int) + (n : Int) ≤ Vp.runEnd d k) := by
 unfold Vp.runOk at h
 simp only [Bool.and_eq_true, decide_eq_true_eq, Int.toNat_natCast] at h
 obtain ⟨_, h1, h2, h3⟩ := h
 refine ⟨by omega, fun j hj => ?_, h3⟩
 have h4 := (List.all_eq_true.1 h2) j (List.mem_range.2 hj)
 unfold Vp.runAt at h4
 simp only [Bool.and_eq_true] at h4
 have hj2 := h4.1
 unfold Vp.num4 at hj2 ⊢
 split at hj2
 ·rename_i hc; rw [if_pos hc]
 ·exact absurd hj2 (by decide)
/-- The first run whose end is above a row. -/
theorem runOf_at {d : Vp.Txt} {k q R : Nat} (hk : d.length = 4 * k) (hn : ∀ j, j < k → Vp.num4 d j = (((Vp.cut4 d j : Nat) : Int), true)) (hq : q < k) (hb : ∀ j, j < q → Vp.cut4 d j ≤ R) (ha : R < Vp.cut4 d q) : Vp.runOf d R = q := by
 unfold Vp.runOf
 rw [hk, Nat.mul_div_cancel_left k (by decide)]
 rw [List.findIdx_eq (by rw [List.length_range]; exact hq)]
 refine ⟨?_, fun j hj => ?_⟩
 ·rw [List.getElem_range, hn q hq]; exact decide_eq_true (by show (R : Int) < _; simp only; omega)
 ·rw [List.getElem_range, hn j (by omega)]; have := hb j hj; exact decide_eq_false (by simp only; omega)
theorem mayA_len2 {ns : List Tp.Nd} {a : Arr} {i : Nat} (h : Vp.mayA ns a i = true) : a.len ≤ 64 := by
 obtain ⟨l, f, n, v, e, d, ks⟩ := a
 rw [Vp.mayA] at h
 simp only [Bool.and_eq_true] at h
 have h2 := h.1.2
 unfold Vp.bufOk at h2
 simp only [Bool.and_eq_true, decide_eq_true_eq] at h2
 show n ≤ 64
 omega
theorem row_small {ns : List Tp.Nd} {a : Arr} {i r : Nat} (h : Vp.mayA ns a i = true) (hr : r < a.len.toNat) : (Vp.rowA ns a i r).length ≤ 65536 := by
 have hf := Vp.vals_fit h (Vp.rowA ns a i r) (by unfold Vp.valsA; exact List.mem_map.2 ⟨r, List.mem_range.2 hr, rfl⟩)
 exact Vp.fit_len hf
theorem head_row (ns : List Tp.Nd) (y : Arr) (r : List Arr) (i row : Nat) : Vp.headA ns (y :: r) i row = Vp.rowA ns y i row := by
 obtain ⟨l, f, n, v, e, d, ks⟩ := y
 rfl
theorem text_list (ns : List Tp.Nd) (e d : Vp.Txt) (y : Arr) (i row A B z0 : Nat) (hk : Tp.kids ns (i : Int) = [z0]) (ha : Vp.num4 e row = ((A : Int), true)) (hb : Vp.num4 e (row + 1) = ((B : Int), true)) :
  plainT ns 3 e d [y] i row = Vp.list ((List.range (B - A)).map fun j => Vp.rowA ns y z0 (A + j)) := by
 unfold plainT
 rw [if_neg (by decide), if_neg (by decide), if_neg (by decide), if_pos rfl, ha, hb, hk]
 simp only [Int.toNat_natCast]
 congr 1
 exact List.map_congr_left fun j _ => head_row ns y [] z0 (A + j)
theorem text_struct (ns : List Tp.Nd) (e d : Vp.Txt) (ks : List Arr) (i row : Nat) (hl : ks.length = (Tp.kids ns (i : Int)).length) :
  plainT ns 4 e d ks i row = Vp.struct ((List.range (Tp.kids ns (i : Int)).length).map fun j => Vp.rowA ns (ks.getD j Arr.none) ((Tp.kids ns (i : Int)).getD j 0) row) := by
 unfold plainT
 rw [if_neg (by decide), if_neg (by decide), if_neg (by decide), if_neg (by decide), Vp.eachA_rows ns ks (Tp.kids ns (i : Int)) row hl]
/-- What an array of lists is. -/
theorem mayA_list {ns : List Tp.Nd} {f n : Nat} {v e d : Vp.Txt} {ks : List Arr} {i z0 : Nat} (h : Vp.mayA ns (.mk 0 f n v e d ks) i = true) (hk : Tp.kindOf ns i = 3) (hz : Tp.kids ns (i : Int) = [z0]) :
  ∃ y, ks = [y] ∧ d = [] ∧ Vp.mayA ns y z0 = true ∧ Vp.endsOk e (f + n) y.len 0 64 = true := by
 have hp := mayA_plain h
 rw [Vp.mayA, if_pos rfl, hz] at h
 simp only [Bool.and_eq_true, decide_eq_true_eq] at h
 obtain ⟨_, h1, h2, _⟩ := h
 obtain ⟨y, rfl⟩ := List.length_eq_one_iff.1 h1
 rw [plainK_eq, hk] at hp
 unfold plainK at hp
 rw [if_neg (by decide), if_neg (by decide), if_neg (by decide), if_pos rfl] at hp
 simp only [Bool.and_eq_true, decide_eq_true_eq] at hp
 rw [Vp.mayAll, Bool.and_eq_true] at h2
 refine ⟨y, rfl, hp.1, h2.1, ?_⟩
 have := hp.2
 rwa [show ((f : Int) + (n : Int)).toNat = f + n by omega] at this
/-- What an array of structs is. -/
theorem mayA_struct {ns : List Tp.Nd} {f n : Nat} {v e d : Vp.Txt} {ks : List Arr} {i : Nat} (h : Vp.mayA ns (.mk 0 f n v e d ks) i = true) (hk : Tp.kindOf ns i = 4) :
  ks.length = (Tp.kids ns (i : Int)).length ∧ ∀ j, j < (Tp.kids ns (i : Int)).length → Vp.mayA ns (ks.getD j Arr.none) ((Tp.kids ns (i : Int)).getD j 0) = true ∧ (f : Int) + (n : Int) ≤ (ks.getD j Arr.none).len := by
 have hp := mayA_plain h
 rw [Vp.mayA, if_pos rfl] at h
 simp only [Bool.and_eq_true, decide_eq_true_eq] at h
 obtain ⟨_, h1, h2, _⟩ := h
 rw [plainK_eq, hk] at hp
 have hp : (decide (e = []) && (decide (d = []) && ks.all fun k => decide ((f : Int) + (n : Int) ≤ k.len))) = true := hp
 simp only [Bool.and_eq_true] at hp
 refine ⟨h1, fun j hj => ⟨(Vp.mayAll_iff ns ks _ h1).1 h2 j hj, ?_⟩⟩
 have hm : ks.getD j Arr.none ∈ ks := by
  rw [List.getD_eq_getElem?_getD, List.getElem?_eq_getElem (by omega)]
  exact List.getElem_mem _
 exact of_decide_eq_true ((List.all_eq_true.1 hp.2.2) _ hm)
end Go.Proofs.YtobhjlchpnpleaaGreatDoor

/- Short words for the laws of a drawn region, one operation at a time. -/
namespace Go.Proofs.YtobhjlchpnpleaaGreatDoor
open Go.RowKit
set_option linter.unusedVariables false

theorem sx : (∀ (a : Act) (d : Tmp) (v : Value), a.put (some d) v = { a with tmps := a.tmps.setIfInBounds d v }) ∧ (∀ (a : Act) (v : Value), a.put none v = a) ∧
  (∀ {α : Type} (xs : List α) (i : Nat) (h : i < xs.toArray.size), xs.toArray[i] = xs[i]'(by simpa using h)) ∧ (∀ {α : Type} (x : α) (l : List α) (h : 0 < (x :: l).length), (x :: l)[0] = x) ∧
  (∀ {α : Type} (x : α) (l : List α) (i : Nat) (h : i + 1 < (x :: l).length), (x :: l)[i + 1] = l[i]'(by simpa using h)) ∧ (∀ {α : Type} (l : List α) (i : Nat) (v : α), l.toArray.setIfInBounds i v = (l.set i v).toArray) ∧
  (∀ {α : Type} (x : α) (l : List α) (v : α), (x :: l).set 0 v = v :: l) ∧ (∀ {α : Type} (x : α) (l : List α) (i : Nat) (v : α), (x :: l).set (i + 1) v = x :: l.set i v) ∧
  (∀ {α : Type} (l : List α), l.toArray.size = l.length) ∧ (∀ {α : Type} (x : α) (l : List α), (x :: l).length = l.length + 1) ∧ (∀ {α : Type}, ([] : List α).length = 0) :=
 ⟨fun _ _ _ => rfl, fun _ _ => rfl, fun _ _ _ => List.getElem_toArray _, fun _ _ _ => rfl, fun _ _ _ _ => rfl, fun _ _ _ => List.setIfInBounds_toArray _ _ _, fun _ _ _ => rfl, fun _ _ _ _ => rfl, fun _ => List.size_toArray, fun _ _ => rfl, rfl⟩
/-- An operation that is wanted, taken first. -/
theorem tk (i : Nat) {P : Program} {md : Region.Mode} {ops : Array Oper} {Q : Exit → Act → World → Prop} {S : World → Prop} {oi : Oper} {v : Value} {fuel : Nat} {listed : Array Bool} {a : Act} {w : World} (hi : ops[i]? = some oi)
  (hQ : ∀ c a w, Q (.panic c) (a.put oi.dst v) w → Q (.panic c) a w) (hy : YieldsIf P ops S oi v a) (hS : S w)
  (h : wpAnyH P md ops Q S fuel (listed.setIfInBounds i true) (a.put oi.dst v) w)
  (hs : Region.noSelect ops = true := by kernel_rfl) (hf : Region.free md ops listed i = true := by kernel_rfl) (hr : (Region.ready md ops listed).contains i = true := by kernel_rfl) :
  wpAnyH P md ops Q S (fuel + 1) listed a w := wpAnyH_take hi hs hf hr hQ hy hS h
end Go.Proofs.YtobhjlchpnpleaaGreatDoor

/- The reference's rows of bytes, bits, numbers, walked. -/
namespace Go.Proofs.YtobhjlchpnpleaaGreatDoor
open Go.RowKit Bt
set_option linter.unusedVariables false
set_option linter.unusedSimpArgs false

theorem getb_at (s : ByteArray) (i : Nat) (h : i < s.size) : s[i] = s.data.toList.getD i 0 := by
 have hl : i < s.data.size := h
 simp only [List.getD, Array.getElem?_toList, Array.getElem?_eq_getElem hl, Option.getD_some]; rfl
theorem refBytes_calls (n : Int) (w : World) (h0 : 0 ≤ n) (h1 : n ≤ 1125899906842624) : Calls Tryz.prog 47 #[.int .i64 n] w fun e w' => e = .returned (.int .i64 ((n + 7) / 8)) ∧ w = w' := by
 go_enter Tryz.func47, Tryz.ntmps47
 go_wp2
 go_ret
 exact ⟨rfl, rfl⟩
set_option maxHeartbeats 800000 in
theorem refBit_calls (s : ByteArray) (x : Int) (w : World) (h0 : 0 ≤ x) (h1 : x < 8 * (s.size : Int)) (hs : s.size ≤ 140737488351232) :
  Calls Tryz.prog 66 #[.string s, .int .i64 x] w fun e w' => e = .returned (.bool (bit s.data.toList x.toNat)) ∧ w = w' := by
 obtain ⟨n, rfl⟩ := Int.eq_ofNat_of_zero_le h0
 rw [Int.toNat_natCast]
 have hn : n / 8 < s.size := by omega
 have hn' : (n : Int) / 8 < (s.size : Int) := by omega
 have HG := Lib.hid (show bit s.data.toList n = s[n / 8].toNat.testBit (n % 8) by unfold bit; rw [getb_at s (n / 8) hn])
 go_enter Tryz.func66, Tryz.ntmps66
 go_wp2
 go_ret
 exact ⟨ret_bool (by rw [HG.out]; exact byte_bit _ _), rfl⟩
set_option maxHeartbeats 1600000 in
theorem refBitsOf_calls (base : Nat) (v : Value) (xs : List Bool) (w : World) (hown : w.ownsRow base 4 1 v xs.length (bools xs)) (hn : xs.length ≤ 1125899906842624) :
  Calls Tryz.prog 76 #[v] w fun e w' => e = .returned (.string ⟨(packed xs).toArray⟩) ∧ Below w.heap.size w w' := by
 have hmk := fun W => run_makeBytes (P := Tryz.prog) 132 5 Tryz.underlying132 info_u8b ((xs.length + 7) / 8) (by omega) W
 have em : (((xs.length + 7) / 8 : Nat) : Int) = ((xs.length : Int) + 7) / 8 := by omega
 rw [em] at hmk
 clear em
 have HK := Lib.hid (packed_none xs ((xs.length + 7) / 8))
 have HA := Lib.hid (packed_all xs)
 have hlen := bytesOf_length (upto xs xs.length) ((xs.length + 7) / 8)
 rcases Nat.eq_zero_or_pos xs.length with hz | hpos
 ·have hx : xs = [] := List.eq_nil_of_length_eq_zero hz
  subst hx
  have hv : ∃ A c, v = .slice A 0 c := by
   rcases hown.2 with ⟨rfl, _⟩ | ⟨g, cap, cur, rfl, _⟩
   ·exact ⟨none, 0, rfl⟩
   ·exact ⟨_, cap, rfl⟩
  obtain ⟨A, c, rfl⟩ := hv
  have hmk : ∀ W, (Instr.makeSlice 132 (.int .i64 0) (.int .i64 0)).run Tryz.prog W = .ok (.slice (some ⟨W.heap.size, 0, none⟩) 0 0) (W.alloc (.cells #[] 5)) := fun W => run_makeBytes (P := Tryz.prog) 132 5 Tryz.underlying132 info_u8b 0 (by omega) W
  have hs := fun W n => run_string (P := Tryz.prog) (w := W) 132 9 5 Tryz.underlying132 Tryz.underlying5 Tryz.underlying9 n 0 0 [] rfl
  clear hn hlen HK HA hown
  go_enter Tryz.func76, Tryz.ntmps76
  go_wp2_with (go_at_call 47; refine (refBytes_calls _ _ (by omega) (by omega)).mono ?_; rintro e w' ⟨rfl, rfl⟩)
  refine wp_loop_rounds 1 ?_
  rw [rounds_succ]
  have hs := hs (w.alloc (.cells #[] 5)) w.heap.size (Row.new w 5 #[])
  go_wp2
  go_ret
  exact ⟨rfl, (Below.refl _ _).alloc (Nat.le_refl _) _⟩
 ·obtain ⟨g, cap, rfl, _, _, hxl, hrow⟩ := own_row hown hpos
  have hg := hrow.lt
  clear hown hxl
  go_enter Tryz.func76, Tryz.ntmps76
  go_wp2_with (go_at_call 47; refine (refBytes_calls _ _ (by omega) (by omega)).mono ?_; rintro e w' ⟨rfl, rfl⟩)
  clear hmk
  go_loopw [4] (fun i wr => ∃ k : Nat, k ≤ xs.length ∧ i = .int .i64 k ∧ Row wr w.heap.size 5 ((bytesOf (upto xs k) ((xs.length + 7) / 8)).map bv) ∧ Below w.heap.size w wr) (fun i _ => xs.length - (intOf i).toNat)
  case atStart => exact ⟨0, Nat.zero_le _, rfl, by have := Row.new w 5 (List.map bv (List.replicate ((xs.length + 7) / 8) 0)).toArray; rw [HK.out]; simpa [List.map_const'] using this, (Below.refl _ _).alloc (Nat.le_refl _) _⟩
  case round =>
   obtain ⟨k, hk, rfl, hout, hb⟩ := hrel
   have hol := bytesOf_length (upto xs k) ((xs.length + 7) / 8)
   by_cases hlt : k < xs.length
   ·have hc := (hrow.below hb hg).cell (i := k) (v := .bool (xs.getD k false)) (by rw [bools, List.getElem?_map, List.getD_eq_getElem?_getD, List.getElem?_eq_getElem hlt]; rfl)
    have hm : k / 8 < (xs.length + 7) / 8 := by omega
    have hm' : (k : Int) / 8 < ((xs.length : Int) + 7) / 8 := by omega
    have hv := hout.cell (i := k / 8) (v := bv (packB (upto xs k) (k / 8))) (by rw [List.getElem?_map, bytesOf, List.getElem?_map, List.getElem?_range hm]; rfl)
    have hf := hout.free (i := k / 8) (by rw [List.length_map, hol]; exact hm)
    have HR := Lib.hid hout
    have HP := Lib.hid (packed_set xs k ((xs.length + 7) / 8))
    have HQ := Lib.hid (packed_skip xs k ((xs.length + 7) / 8))
    generalize hx : xs.getD k false = x at hc
    rw [hx] at HP HQ
    clear hout hx hol
    cases x
    ·go_wp2
     go_roundw
     case rel => exact ⟨k + 1, by omega, by go_num, by rw [← HQ.out rfl]; exact HR.out, hb⟩
     case measure => simp [intOf]; omega
    ·generalize packB (upto xs k) (k / 8) = c at hv HP
     have hc8 := c.toNat_lt
     unfold bv at hv
     go_wp2
     go_region
     go_wp2
     go_roundw
     case rel =>
      refine ⟨k + 1, by omega, by go_num, ?_, (hb.setCell (Nat.le_refl _) _).drew⟩
      have := (HR.out.set (k / 8) (bv (c ||| mask (k % 8)))).drew
      rw [← List.map_set, HP.out trivial hm] at this
      rwa [or_mask]
     case measure => simp [intOf]; omega
   ·obtain rfl : k = xs.length := by omega
    have hs := run_string (P := Tryz.prog) (w := wr) 132 9 5 Tryz.underlying132 Tryz.underlying5 Tryz.underlying9 w.heap.size ((xs.length + 7) / 8) ((xs.length + 7) / 8) _ hol.symm hout
    rw [HA.out] at hs
    clear hout hol
    go_wp2
    go_ret
    exact ⟨rfl, hb⟩
set_option maxHeartbeats 1600000 in
theorem refLow_calls (x : Int) (n : Nat) (W : World) (hp : 0 < n) (hn : n ≤ 8) (h0 : -9223372036854775808 ≤ x) (h1 : x ≤ 9223372036854775807) :
  Calls Tryz.prog 74 #[.int .i64 x, .int .i64 (n : Int)] W fun e w' => e = .returned (tv (word x n)) ∧ Below W.heap.size W w' := by
 have hmk := fun w => run_makeBytes (P := Tryz.prog) 132 5 Tryz.underlying132 info_u8_ n (by omega) w
 have HK := Lib.hid (fill_none n (wordB x) (fun _ => (0 : UInt8)))
 have HA := Lib.hid (fill_all n n (wordB x) (fun _ => (0 : UInt8)) (Nat.le_refl _))
 go_enter Tryz.func74, Tryz.ntmps74
 go_wp2
 clear hmk
 go_loopw [6] (fun i wr => ∃ k : Nat, k ≤ n ∧ i = .int .i64 k ∧ Row wr W.heap.size 5 ((fill n k (wordB x) (fun _ => 0)).map bv) ∧ Below W.heap.size W wr) (fun i _ => n - (intOf i).toNat)
 case atStart => exact ⟨0, Nat.zero_le _, rfl, by have := Row.new W 5 (List.map bv (List.replicate n 0)).toArray; rw [HK.out]; simpa [List.map_const'] using this, (Below.refl _ _).alloc (Nat.le_refl _) _⟩
 case round =>
  obtain ⟨k, hk, rfl, hout, hb⟩ := hrel
  have hfl := fill_length n k (wordB x) (fun _ => (0 : UInt8))
  by_cases hlt : k < n
  ·have hlti : (k : Int) < (n : Int) := by omega
   have hf := hout.free (i := k) (by rw [List.length_map, hfl]; exact hlt)
   obtain ⟨v0, hc⟩ := hout.has (i := k) (by rw [List.length_map, hfl]; exact hlt)
   have HR := Lib.hid hout
   clear hout hfl
   go_wp2
   refine ⟨⟨k + 1, by omega, by go_num, ?_, hb.setCell (Nat.le_refl _) _⟩, by simp [intOf]; omega⟩
   have := HR.out.set k (bv (wordB x k))
   rw [← List.map_set, fill_set _ _ _ _ _ rfl, bv_word] at this
   exact this
  ·obtain rfl : k = n := by omega
   have hs := run_string (P := Tryz.prog) (w := wr) 132 9 5 Tryz.underlying132 Tryz.underlying5 Tryz.underlying9 W.heap.size k k _ hfl.symm hout
   go_wp2
   go_ret
   exact ⟨by rw [HA.out]; rfl, hb⟩

/-! Numbers. -/
theorem drop_step (l : List UInt8) (k : Nat) (h : k < l.length) : Vp.le (l.drop k) = l[k].toNat + 256 * Vp.le (l.drop (k + 1)) := by
 rw [List.drop_eq_getElem_cons h, Vp.le_cons]
theorem or_low (a c : Nat) (hc : c < 256) : a * 256 ||| c = a * 256 + c := by
 have := Nat.shiftLeft_add_eq_or_of_lt (b := c) (i := 8) (by omega) a
 rw [Nat.shiftLeft_eq] at this
 simpa using this.symm
theorem pow256 (n : Nat) (h : n ≤ 7) : 256 ^ n ≤ 72057594037927936 := by
 have := Nat.pow_le_pow_right (n := 256) (by decide) h
 simpa using this
set_option maxHeartbeats 800000 in
theorem refNum_calls (l : Vp.Txt) (W : World) (hl : l.length ≤ 8) :
  Calls Tryz.prog 63 #[.string ⟨l.toArray⟩] W fun e w' => e = .returned (.int .i64 (IntKind.i64.wrap (Vp.le l : Nat))) ∧ W = w' := by
 have hz := mk_size l
 go_enter Tryz.func63, Tryz.ntmps63
 go_wp2
 go_loop [3, 4] (fun x i => ∃ k : Nat, k ≤ l.length ∧ i = .int .i64 ((k : Int) - 1) ∧ x = .int .u64 (Vp.le (l.drop k) : Nat)) (fun _ i => (intOf i + 1).toNat)
 case atStart => exact ⟨l.length, Nat.le_refl _, by first | rfl | go_num, by rw [List.drop_length]; rfl⟩
 case round =>
  obtain ⟨k, hk, rfl, rfl⟩ := hrel
  rcases Nat.eq_zero_or_pos k with h0 | h0
  ·subst h0
   go_wp2
   go_ret
   exact ⟨congrArg (fun x => Ending.returned (Value.int .i64 x)) (by rw [IntKind.wrap_i64, wrap64]), rfl⟩
  ·obtain ⟨k, rfl⟩ : ∃ q, k = q + 1 := ⟨k - 1, by omega⟩
   have hlt : k < l.length := hk
   have hu : l[k] = (⟨l.toArray⟩ : ByteArray)[k]'(by omega) := rfl
   have hst := drop_step l k hlt
   have hle := le_lt (l.drop (k + 1))
   have hp := pow256 (l.length - (k + 1)) (by omega)
   rw [List.length_drop] at hle
   generalize Vp.le (l.drop (k + 1)) = a at hst hle
   rw [hu] at hst
   have hc8 := ((⟨l.toArray⟩ : ByteArray)[k]'(by omega)).toNat_lt
   go_wp2
   refine ⟨⟨k, by omega, rfl, ?_⟩, by simp [intOf]⟩
   have e := u64_or_nat (a * 256) ((⟨l.toArray⟩ : ByteArray)[k]'(by omega)).toNat (by omega) (by omega)
   rw [or_low a _ hc8] at e
   rw [show ((a * 256 : Nat) : Int) = (a : Int) * 256 by omega] at e
   rw [e, hst]
   congr 1
   omega
theorem refIn_calls (x : Int) (W : World) : Calls Tryz.prog 80 #[.int .i64 x] W fun e w' => e = .returned (.bool (decide (0 ≤ x ∧ x ≤ 2147483647))) ∧ W = w' := by
 by_cases h0 : 0 ≤ x
 ·by_cases h1 : x ≤ 2147483647
  ·go_enter Tryz.func80, Tryz.ntmps80
   go_wp2_with (go_in)
   go_ret
   exact ⟨ret_bool (decide_eq_true ⟨h0, h1⟩).symm, rfl⟩
  ·have hd : decide (x ≤ 2147483647) = false := decide_eq_false h1
   go_enter Tryz.func80, Tryz.ntmps80
   go_wp2_with (go_in)
   go_ret
   exact ⟨ret_bool (by first | (simp; done) | (simp; omega)), rfl⟩
 ·have hd : decide (0 ≤ x) = false := decide_eq_false h0
  go_enter Tryz.func80, Tryz.ntmps80
  go_wp2_with (go_in)
  go_ret
  exact ⟨ret_bool (by first | (simp; done) | (simp; omega)), rfl⟩
set_option maxHeartbeats 1600000 in
theorem getNum4_calls (l : Vp.Txt) (i : Nat) (W : World) (hl : l.length ≤ 140737488351232) (hi : i ≤ 140737488351232) :
  Calls Tryz.prog 50 #[.string ⟨l.toArray⟩, .int .i64 (4 * (i : Int)), .int .i64 4] W fun e w' => e = .returned (.tuple #[.int .i64 (num4R l i).1, .int .i64 (num4R l i).2]) ∧ W = w' := by
 have hz := mk_size l
 by_cases h4 : 4 * i + 4 ≤ l.length
 ·have hcl : ((l.drop (4 * i)).take 4).length = 4 := by rw [List.length_take, List.length_drop]; omega
  go_enter Tryz.func50, Tryz.ntmps50
  have hd : decide (4 * (i : Int) < 0) = false := by simp; omega
  have hex := mk_extract l (4 * i) (4 * i + 4)
  rw [← List.take_drop] at hex
  have HEX := Lib.hid hex
  have hc8 := le_lt ((l.drop (4 * i)).take 4)
  rw [hcl] at hc8
  have hcut : Vp.cut4 l i = Vp.le ((l.drop (4 * i)).take 4) := rfl
  have HN := Lib.hid (fun W => refNum_calls ((l.drop (4 * i)).take 4) W (by omega))
  rw [← hcut] at HN hc8
  rw [show IntKind.i64.wrap (Vp.cut4 l i : Nat) = (Vp.cut4 l i : Nat) by rw [IntKind.wrap_i64]; omega] at HN
  clear hex hcut hcl
  obtain ⟨x, hx⟩ : ∃ x, Vp.cut4 l i = x := ⟨_, rfl⟩
  by_cases hm : x ≤ 2147483647
  ·have HU := Lib.hid (show num4R l i = ((x : Int), 0) by unfold num4R Vp.num4; rw [hx, if_pos ⟨h4, hm⟩]; rfl)
   have HI := Lib.hid (fun W => refIn_calls (x : Int) W)
   rw [decide_eq_true (show 0 ≤ (x : Int) ∧ (x : Int) ≤ 2147483647 by omega)] at HI
   rw [hx] at HN
   clear hx hc8
   go_wp2_with (fail)
   rw [HEX.out]
   refine (HN.out _).mono ?_; rintro e w' ⟨rfl, rfl⟩
   go_wp2_with (fail)
   refine (HI.out _).mono ?_; rintro e w' ⟨rfl, rfl⟩
   go_wp2
   go_ret2
   exact ⟨by rw [HU.out]; rfl, rfl⟩
  ·have HU := Lib.hid (show num4R l i = (0, 300) by unfold num4R Vp.num4; rw [hx, if_neg (by omega)]; rfl)
   have HI := Lib.hid (fun W => refIn_calls (x : Int) W)
   rw [decide_eq_false (show ¬ (0 ≤ (x : Int) ∧ (x : Int) ≤ 2147483647) by omega)] at HI
   rw [hx] at HN
   clear hx hc8
   go_wp2_with (fail)
   rw [HEX.out]
   refine (HN.out _).mono ?_; rintro e w' ⟨rfl, rfl⟩
   go_wp2_with (fail)
   refine (HI.out _).mono ?_; rintro e w' ⟨rfl, rfl⟩
   go_wp2
   go_ret2
   exact ⟨by rw [HU.out]; rfl, rfl⟩
 ·have hd : (l.length : Int) - 4 < 4 * (i : Int) := by omega
  have HU := Lib.hid (show num4R l i = (0, 300) by unfold num4R Vp.num4; rw [if_neg (by omega)]; rfl)
  go_enter Tryz.func50, Tryz.ntmps50
  go_wp2_with (fail)
  go_ret2
  exact ⟨by rw [HU.out]; rfl, rfl⟩
end Go.Proofs.YtobhjlchpnpleaaGreatDoor
