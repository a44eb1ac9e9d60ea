/- Small words for all walks of this seat. -/
import Derived.Test.YtlllflacnlgigaaGreatDoorProg
import Derived.WalkKit
import Derived.KernelRfl
import Derived.Lib.Hide
import Derived.Deep.QuietTactic
import Derived.BigQuiet
import Derived.WalkSpells
import Derived.Lib.ConvBytes
import Derived.Laws.BitsAllLaws
namespace Go.Proofs.YtlllflacnlgigaaGreatDoor
open Go.RowKit
set_option linter.unusedVariables false

theorem ret_i64 {a b : Int} (h : a = b) : Ending.returned (.int .i64 a) = .returned (.int .i64 b) := by rw [h]
theorem ret_bool {a b : Bool} (h : a = b) : Ending.returned (.bool a) = .returned (.bool b) := by rw [h]

/-- A call in a region that draws its order, whose contract says 'w = w''. -/
theorem qcall {P : Program} {f : FuncId} {args : Array Value} {w : World} {a n : Nat} {v : Value}
    (h : Calls P f args (w.drewN (a + n)) fun e w' => e = .returned v ∧ w.drewN (a + n) = w') :
    Calls P f args (w.drewN (a + n)) fun e w'' => e = .returned v ∧ ∃ m, w'' = w.drewN (a + m) :=
  h.mono fun _ _ ⟨he, hm⟩ => ⟨he, n, hm.symm⟩
theorem qcall0 {P : Program} {f : FuncId} {args : Array Value} {w : World} {n : Nat} {v : Value}
    (h : Calls P f args (w.drewN n) fun e w' => e = .returned v ∧ w.drewN n = w') : Calls P f args (w.drewN n) fun e w'' => e = .returned v ∧ ∃ m, w'' = w.drewN m :=
  h.mono fun _ _ ⟨he, hm⟩ => ⟨he, n, hm.symm⟩
theorem below_drewN {B : Nat} {a w : World} (h : Below B a w) (n : Nat) : Below B a (w.drewN n) := ⟨h.os, h.tape, h.output, h.size, h.block⟩

/-- Block g begins with the cells xs, of element type t; none of these is frozen. -/
def Row (w : World) (g : Nat) (t : TypeId) (xs : List Value) : Prop :=
  ∃ cur fz, w.heap[g]? = some (.cells cur t fz) ∧ (∃ ys, cur.toList = xs ++ ys) ∧ (fz.1 < fz.2 → xs.length ≤ fz.1)
section
variable {w w' : World} {g : Nat} {t : TypeId} {xs : List Value}
theorem Row.lt (h : Row w g t xs) : g < w.heap.size := by
  obtain ⟨cur, fz, hh, _⟩ := h
  exact (Array.getElem?_eq_some_iff.1 hh).1
theorem Row.cell (h : Row w g t xs) {i : Nat} {v : Value} (hv : xs[i]? = some v) : w.cell? ⟨g, i, none⟩ = some v := by
  obtain ⟨cur, fz, hh, ⟨ys, hys⟩, _⟩ := h
  have hi := (List.getElem?_eq_some_iff.1 hv).1
  simp only [World.cell?, hh, Option.isSome_none, Bool.false_eq_true, if_false]
  rw [← Array.getElem?_toList, hys, List.getElem?_append_left hi, hv]
theorem Row.has (h : Row w g t xs) {i : Nat} (hi : i < xs.length) : ∃ v, w.cell? ⟨g, i, none⟩ = some v := ⟨_, h.cell (List.getElem?_eq_getElem hi)⟩
theorem Row.free (h : Row w g t xs) {i : Nat} (hi : i < xs.length) : w.frozen? ⟨g, i, none⟩ = false := by
  obtain ⟨cur, fz, hh, _, hf⟩ := h
  obtain ⟨lo, hi'⟩ := fz
  simp only [World.frozen?, hh, Bool.and_eq_false_iff, decide_eq_false_iff_not]
  simp only at hf
  omega
theorem Row.same (h : Row w g t xs) (hk : w'.heap[g]? = w.heap[g]?) : Row w' g t xs := by
  obtain ⟨cur, fz, hh, r⟩ := h
  exact ⟨cur, fz, hk.trans hh, r⟩
theorem Row.below {B : Nat} (h : Row w g t xs) (hb : Below B w w') (hg : g < B) : Row w' g t xs := h.same (hb.block g hg)
theorem Row.drewN (h : Row w g t xs) (n : Nat) : Row (w.drewN n) g t xs := h
theorem Row.drew (h : Row w g t xs) : Row w.drew g t xs := h
theorem Row.alloc (h : Row w g t xs) (o : Obj) : Row (w.alloc o) g t xs := h.same (Below.heap_alloc w o g h.lt)
theorem Row.far (h : Row w g t xs) {p : Addr} (hp : g ≠ p.block) (u : Value) : Row (w.setCell p u) g t xs := h.same (Below.heap_setCell w p u g hp)
theorem Row.new (w : World) (t : TypeId) (cs : Array Value) : Row (w.alloc (.cells cs t)) w.heap.size t cs.toList := ⟨cs, (0, 0), heap_alloc_new w _, ⟨[], by simp⟩, fun h => absurd h (by decide)⟩
theorem Row.set (h : Row w g t xs) (i : Nat) (u : Value) : Row (w.setCell ⟨g, i, none⟩ u) g t (xs.set i u) := by
  obtain ⟨cur, fz, hh, ⟨ys, hys⟩, hf⟩ := h
  by_cases hi : i < xs.length
  · refine ⟨cur.setIfInBounds i u, fz, ?_, ⟨ys, ?_⟩, by simpa using hf⟩
    · simp [World.setCell, Array.getElem?_modify, hh]
    · rw [Array.toList_setIfInBounds, hys, List.set_append_left _ _ hi]
  · rw [List.set_eq_of_length_le (by omega)]
    refine ⟨cur.setIfInBounds i u, fz, ?_, ⟨ys.set (i - xs.length) u, ?_⟩, hf⟩
    · simp [World.setCell, Array.getElem?_modify, hh]
    · rw [Array.toList_setIfInBounds, hys, List.set_append_right _ _ (by omega)]
theorem Row.take (h : Row w g t xs) (n : Nat) : Row w g t (xs.take n) := by
  obtain ⟨cur, fz, hh, ⟨ys, hys⟩, hf⟩ := h
  exact ⟨cur, fz, hh, ⟨xs.drop n ++ ys, by rw [← List.append_assoc, List.take_append_drop, hys]⟩, fun hl => Nat.le_trans (by rw [List.length_take]; omega) (hf hl)⟩
end

theorem add_zero_ (g j : Nat) : (⟨g, 0, none⟩ : Addr).add j = ⟨g, j, none⟩ := by unfold Addr.add; split <;> simp_all

/-- A byte as a cell. -/
def bv (c : UInt8) : Value := .int .u8 (c.toNat : Int)
theorem bv_list (l : List UInt8) : l.map bv = (l.map fun c => (c.toNat : Int)).map (Value.int .u8) := by simp [bv]
theorem Row.bytes {w : World} (e : TypeId) (s : ByteArray) : Row (Lib.bytesWorld w e s) w.heap.size e (s.data.toList.map bv) := by
  refine ⟨_, _, Lib.bytesWorld_at_new w e s, ⟨List.replicate (grownCap w s.size 0 e - s.size) (.int .u8 0), ?_⟩, fun _ => ?_⟩
  · simp [Lib.bytesCells, bv]
  · have := grownCap_ge w s.size 0 e
    simp [Lib.bytesCells]
theorem bytes_below {B : Nat} {w W : World} (h : Below B w W) (hB : B ≤ W.heap.size) (e : TypeId) (s : ByteArray) : Below B w (Lib.bytesWorld W e s) :=
  h.trans ⟨rfl, rfl, rfl, by rw [Lib.bytesWorld_size]; omega, fun k hk => Lib.bytesWorld_at_old W e s k (by omega)⟩

/-- 'string(b)' of a row of bytes. -/
theorem run_string {P : Program} {w : World} (src dst e : TypeId) (hs : P.underlying src = some (.slice e)) (he : P.underlying e = some (.int .u8)) (hd : P.underlying dst = some .string)
    (g n cap : Nat) (l : List UInt8) (hn : n = l.length) (h : Row w g e (l.map bv)) :
    (convert src dst (.slice (some ⟨g, 0, none⟩) n cap)).run P w = .ok (.string ⟨l.toArray⟩) w := by
  subst hn
  rw [run_convert_bytes_string w src dst e _ _ _ hs he hd]
  have hc : (loadCells ⟨g, 0, none⟩ l.length).run P w = .ok (((l.map fun c => (c.toNat : Int))).map (Value.int .u8)).toArray w := by
    rw [← bv_list]
    have := run_loadCells_list (P := P) (w := w) ⟨g, 0, none⟩ (l.map bv) (fun j v hv => by rw [add_zero_]; exact h.cell hv)
    rwa [List.length_map] at this
  rw [run_bytesToString w _ _ _ _ hc]
  have hid : l.map ((fun n : Int => UInt8.ofNat n.toNat) ∘ fun c : UInt8 => (c.toNat : Int)) = l := by
    rw [List.map_congr_left (g := id) (fun c _ => by simp), List.map_id]
  rw [foldl_push_bytes, List.map_map, hid]
  simp

/-- An owned row of one cell each, as a Row. -/
theorem own_row {w : World} {base n : Nat} {e : TypeId} {v : Value} {xs : List Value} (h : w.ownsRow base e 1 v n xs) (hn : 0 < n) :
    ∃ g cap, v = .slice (some ⟨g, 0, none⟩) n cap ∧ base ≤ g ∧ n ≤ cap ∧ xs.length = n ∧ Row w g e xs := by
  obtain ⟨hl, h⟩ := h
  rcases h with ⟨rfl, rfl⟩ | ⟨g, cap, cur, rfl, hb, hh, hnc, _, hcs, htake⟩
  · omega
  · refine ⟨g, cap, rfl, hb, hnc, by omega, cur, (0, 0), hh, ⟨cur.toList.drop (n * 1), ?_⟩, fun h => absurd h (by decide)⟩
    rw [← htake, List.take_append_drop]
theorem own_lit (w : World) (base : Nat) (e : TypeId) (xs : List Value) (hb : base ≤ w.heap.size) (hm : xs.length ≤ maxLen) :
    (w.alloc (.cells xs.toArray e)).ownsRow base e 1 (.slice (some ⟨w.heap.size, 0, none⟩) xs.length xs.length) xs.length xs :=
  ⟨by simp, .inr ⟨w.heap.size, xs.length, xs.toArray, rfl, hb, heap_alloc_new w _, Nat.le_refl _, hm, by simp, by simp⟩⟩
def i64s (xs : List Int) : List Value := xs.map (Value.int .i64)
theorem i64s_length (xs : List Int) : (i64s xs).length = xs.length := by simp [i64s]

/-- 'append(v, u)' onto a row of the call's own, of one cell an element: the argument lies in the block that was laid last. -/
theorem wp_app1 {P : Program} {ops : Array Oper} {rest : List Oper} {o : Oper} {a : Act} {Q : Exit → Act → World → Prop} {w0 : World} {u : Value}
    (hgd : o.guard = none) (s x : Operand) (t e : TypeId) (ho : o.op = .call { callee := .builtin .append, args := #[s, x], argTypes := #[t, t] })
    (base bytes : Nat) (z : Value) (ht : P.underlying t = some (.slice e)) (hi : (P.info? e).map (fun i => (i.zero, i.size, i.bytes)) = some (some z, 1, bytes)) (hz : z.cells.size = 1)
    (v : Value) (n : Nat) (xs : List Value) (hu : u.oneCell' = true) (hs : a.eval s = v) (hx : a.eval x = .slice (some ⟨w0.heap.size, 0, none⟩) 1 1)
    (hown : w0.ownsRow base e 1 v n xs) (hn : (n + 1) * bytes ≤ 140737488355328) (hm : n < 140737488355328) (hb : base ≤ w0.heap.size)
    (h : ∀ v' w', w'.ownsRow base e 1 v' (n + 1) (xs ++ [u]) → Below base w0 w' → w0.grownBy w' v.ownBlock → wpList P ops Q rest (a.put o.dst v') w') :
    wpList P ops Q (o :: rest) a (w0.alloc (.cells #[u] e)) := by
  obtain ⟨i0, hi, hz0, hz1, hz2⟩ := info_parts hi
  refine wpList_append_own _ hgd s x t ho base e i0 z 1 bytes ht hi hz0 hz1 hz2 hz (by decide) v n xs hs (hown.alloc _) ⟨w0.heap.size, 0, none⟩ 1 1 [u] hx rfl ?_ ?_ ?_ hn ?_ ?_
  · intro j y hy
    cases j with
    | zero =>
      have : u = y := by simpa using hy
      subst this
      simp [Addr.add]
    | succ j => simp at hy
  · intro y hy
    rw [List.mem_singleton.1 hy]; exact hu
  · unfold maxLen; omega
  · simp; omega
  · intro v' w' ho' hg _
    have hg' : w0.grownBy w' v.ownBlock := ⟨hg.os, hg.tape, hg.output, Nat.le_trans (by simp) hg.size, fun k hk hr => (hg.block k (by simp; omega) hr).trans (Below.heap_alloc w0 _ k hk)⟩
    refine h v' w' ho' ⟨hg'.os, hg'.tape, hg'.output, hg'.size, fun k hk => hg'.block k (by omega) (fun e => ?_)⟩ hg'
    have := (hown.lt k e.symm).1
    omega

theorem ofInt_i64 (a : Nat) (ha : a < 9223372036854775808) : (BitVec.ofInt 64 (a : Int)).toNat = a := by
  rw [BitVec.ofInt_natCast, BitVec.toNat_ofNat]; exact Nat.mod_eq_of_lt (by omega)
theorem below_alloc {w W : World} (h : Below w.heap.size w W) (o : Obj) : Below w.heap.size w (W.alloc o) := h.alloc h.size o
theorem below_drew {B : Nat} {w W : World} (h : Below B w W) : Below B w W.drew := h.drew
theorem below_set {w W : World} (h : Below w.heap.size w W) {p : Addr} (hp : w.heap.size ≤ p.block) (u : Value) : Below w.heap.size w (W.setCell p u) := h.setCell hp u
theorem below_then {w w1 w2 : World} (h : Below w.heap.size w w1) (k : Below w1.heap.size w1 w2) : Below w.heap.size w w2 := h.trans (k.mono h.size)
theorem and_bd (x : Int) (m : Nat) (hm : m < 9223372036854775808) : 0 ≤ bits .and .i64 x (m : Int) ∧ bits .and .i64 x (m : Int) ≤ m := by
  have h : bits .and .i64 x (m : Int) = IntKind.i64.wrap ((BitVec.ofInt 64 x &&& BitVec.ofInt 64 (m : Int)).toNat : Int) := rfl
  have h2 : (BitVec.ofInt 64 x &&& BitVec.ofInt 64 (m : Int)).toNat ≤ m := by
    rw [BitVec.toNat_and, ofInt_i64 m hm]; exact Nat.and_le_right
  rw [h, IntKind.wrap_i64]
  omega

/-- A slice of whole numbers that came in. -/
def IntsAt (k : IntKind) (w : World) (a : Option Addr) (len cap : Nat) (zs : List Int) : Prop :=
  (a = none ∧ len = 0 ∧ cap = 0 ∧ zs = []) ∨
  ∃ x, a = some x ∧ len ≤ cap ∧ cap ≤ maxLen ∧ zs.length = cap ∧ (∀ i, i < zs.length → w.cell? (x.add i) = some (.int k (zs.getD i 0))) ∧ ∀ n ∈ zs, (Lit.int k n).wf = true

/-- A row of k places of which the first n are written, the others as they were. -/
def fill {α : Type} (k n : Nat) (F G : Nat → α) : List α := (List.range k).map fun i => if i < n then F i else G i
theorem fill_length {α : Type} (k n : Nat) (F G : Nat → α) : (fill k n F G).length = k := by simp [fill]
theorem fill_set {α : Type} (k n : Nat) (F G : Nat → α) (x : α) (hx : x = F n) : (fill k n F G).set n x = fill k (n + 1) F G := by
  subst hx
  unfold fill
  apply List.ext_getElem (by simp)
  intro i h1 h2
  simp only [List.getElem_set, List.getElem_map, List.getElem_range]
  by_cases h : n = i
  · subst h; simp
  · rw [if_neg h]
    by_cases hi : i < n
    · rw [if_pos hi, if_pos (by omega)]
    · rw [if_neg hi, if_neg (by omega)]
theorem fill_all {α : Type} (k n : Nat) (F G : Nat → α) (h : k ≤ n) : fill k n F G = (List.range k).map F := by
  unfold fill
  apply List.map_congr_left
  intro i hi
  rw [if_pos (by have := List.mem_range.1 hi; omega)]
theorem fill_none {α : Type} (k : Nat) (F G : Nat → α) : fill k 0 F G = (List.range k).map G := by simp [fill]
theorem size_mk (l : List UInt8) (h : l.length ≤ 140737488351232) : (⟨l.toArray⟩ : ByteArray).size ≤ maxLen := by
  have : (⟨l.toArray⟩ : ByteArray).size = l.length := by simp [ByteArray.size]
  unfold maxLen
  omega
theorem size_cut (s : ByteArray) (a b : Nat) (h : s.size ≤ 140737488351232) : (s.extract a b).size ≤ maxLen := by
  have : (s.extract a b).size = min b s.size - a := by simp
  unfold maxLen
  omega
theorem i64_xor_nat (a b : Nat) (ha : a < 9223372036854775808) (hb : b < 9223372036854775808) : bits .xor .i64 (a : Int) (b : Int) = ((a ^^^ b : Nat) : Int) := by
  have hx : a ^^^ b < 2 ^ 63 := Nat.xor_lt_two_pow (by omega) (by omega)
  show IntKind.i64.wrap ((BitVec.ofInt 64 (a : Int) ^^^ BitVec.ofInt 64 (b : Int)).toNat : Int) = _
  rw [BitVec.toNat_xor, ofInt_i64 a ha, ofInt_i64 b hb, IntKind.wrap_i64]
  omega
theorem i64_and_nat (a b : Nat) (ha : a < 9223372036854775808) (hb : b < 9223372036854775808) : bits .and .i64 (a : Int) (b : Int) = ((a &&& b : Nat) : Int) := by
  have hx : a &&& b < 2 ^ 63 := Nat.and_lt_two_pow _ (by omega)
  show IntKind.i64.wrap ((BitVec.ofInt 64 (a : Int) &&& BitVec.ofInt 64 (b : Int)).toNat : Int) = _
  rw [BitVec.toNat_and, ofInt_i64 a ha, ofInt_i64 b hb, IntKind.wrap_i64]
  omega
theorem u8_xor_b (a b : UInt8) : bits .xor .u8 (a.toNat : Int) (b.toNat : Int) = ((a ^^^ b).toNat : Int) := by
  rw [u8_xor_nat _ _ a.toNat_lt b.toNat_lt]; simp

/-- 'min(a, b, c)' of three lengths. -/
theorem run_min3 {P : Program} (ats : Array TypeId) (ty : TypeId) (a b c : Nat) (w : World) :
    (Builtin.min_ ats ty #[.int .i64 (a : Int), .int .i64 (b : Int), .int .i64 (c : Int)]).run P w = .ok (.int .i64 ((min (min a b) c : Nat) : Int)) w := by
  have h2 : ∀ (k k' : IntKind) (x y : Int), Builtin.min2 (.int k x) (.int k' y) = pure (.int k (if y < x then y else x)) := fun k k' x y => by simp only [Builtin.min2]
  have e : ∀ x y : Nat, (if (y : Int) < (x : Int) then (y : Int) else (x : Int)) = ((min x y : Nat) : Int) := fun x y => by split <;> omega
  simp only [Builtin.min_, List.foldlM_cons, List.foldlM_nil, h2, e, pure_bind, Sem.run_pure]

/-- 'make([]byte, n)'. -/
theorem run_makeBytes {P : Program} (t e : TypeId) (ht : P.underlying t = some (.slice e)) (hi : (P.info? e).map (fun i => (i.zero, i.size, i.bytes)) = some (some (.int .u8 0), 1, 1)) (n : Nat) (hn : n ≤ 281474976710656) (w : World) :
    (Instr.makeSlice t (.int .i64 (n : Int)) (.int .i64 (n : Int))).run P w = .ok (.slice (some ⟨w.heap.size, 0, none⟩) n n) (w.alloc (.cells ((List.replicate n (0 : UInt8)).map bv).toArray e)) := by
  obtain ⟨i, hi', hz, hs, hb⟩ := info_parts hi
  rw [run_make w t e i _ ht hi' hz .i64 .i64 n n (by omega) (Int.le_refl _) (by rw [hb]; omega) (by omega)]
  simp only [Int.toNat_natCast, hs, Nat.mul_one]
  congr 3
  simp [madeCells, Value.cells, bv, Array.ext_iff]
  intro j _
  simp [Nat.mod_one]

theorem num_calls (x : Int) (w : World) : Calls Tryz.prog 11 #[.int .i64 x] w fun e w' => e = .returned (.int .i64 x) ∧ w = w' := by
  go_enter Tryz.func11, Tryz.ntmps11
  go_wp2
  go_ret
  exact ⟨rfl, rfl⟩
end Go.Proofs.YtlllflacnlgigaaGreatDoor
