/- The reference's build of kids: what is known of a kid that is built; plain law of memory. -/
import Derived.Test.YtlllflacnlgigaaGreatDoorMc36
import Derived.Test.YtlllflacnlgigaaGreatDoorMc37
namespace Go.Proofs.YtlllflacnlgigaaGreatDoor
open Go.RowKit
set_option linter.unusedVariables false
set_option linter.unusedSimpArgs false

theorem RSt.own {W wr w' : World} {O B : Nat} {vv : Value} {n : Int} {v e d : Vp.Txt} {k : Value} (h : RSt W wr O vv n v e d k) (hb : Below B wr w') (hO : O < B) : RSt W w' O vv n v e d k where
  bel := h.bel.trans (hb.mono (by have := h.olt; omega))
  box := (hb.block _ (by have := h.olt; omega)).trans h.box
  res := (hb.block _ (by have := h.olt; omega)).trans h.res
  out := (hb.block _ hO).trans h.out
  olt := h.olt
theorem make_rowsN (m : Nat) (hm : m ≤ 65536) (w : World) : (Instr.makeSlice 111 (.int .i64 (m : Int)) (.int .i64 (m : Int))).run Tryz.prog w = .ok (.slice (some ⟨w.heap.size, 0, none⟩) m m) (w.alloc (.cells (madeCells #[Value.slice none 0 0] m) 22)) :=
  run_make_row' (P := Tryz.prog) 111 22 (.slice none 0 0) 24 Tryz.underlying111 info_strings rfl .i64 .i64 m (by omega) (by omega) w
def RefBuildOK (ns : List Tp.Nd) (n : Nat) : Prop := ∀ (i : Nat) (vs : List Vp.Txt) (v vv : Value) (W : World), i < ns.length → ns.length - i ≤ n → TextsAt W v vs → NodesAt W vv ns → vs.length ≤ 140737488351232 → (∀ x ∈ vs, Vp.Fit ns i x) →
  Calls Tryz.prog 55 #[typeV vv, .int .i64 (i : Int), v] W (RefBuildQ ns i vs W)
/-- A kid that was built: its cell, whether it is not too much. -/
def KidR (ns : List Tp.Nd) (kd : Nat) (vs : List Vp.Txt) (W : World) (s21 s22 : Value) (wx : World) : Prop :=
  ∃ (c : Nat) (b : Bool) (ar : Arr) (k : Value), s21 = .pointer (some ⟨c, 0, none⟩) ∧ s22 = .bool b ∧ W.heap.size ≤ c ∧ wx.heap[c]? = some (.cells (arrC ar.lay ar.off ar.len ar.valid ar.ends ar.data k) 47) ∧
    KidsOwn wx (fun g => W.heap.size ≤ g) ar.kids k ∧ (match Vp.build ns kd vs with | none => b = false | some x => b = true ∧ ar = x) ∧ Below W.heap.size W wx
theorem kidR_alloc {ns : List Tp.Nd} {kd : Nat} {vs : List Vp.Txt} {W w6 : World} {b : Bool} {ar : Arr} {k : Value} (X : Nat) (hX : W.heap.size ≤ X) (hko : KidsOwn w6 (fun g => X ≤ g) ar.kids k)
    (hm : match Vp.build ns kd vs with | none => b = false | some x => b = true ∧ ar = x) (hb : Below W.heap.size W w6) :
    KidR ns kd vs W (.pointer (some ⟨w6.heap.size, 0, none⟩)) (.bool b) (w6.alloc (.cells (arrC ar.lay ar.off ar.len ar.valid ar.ends ar.data k) 47)) :=
  ⟨_, b, ar, k, rfl, rfl, hb.size, heap_alloc_new w6 _, KidsOwn.same _ _ _ (fun g _ hc => KeepT.below (e := 47) ((Below.refl _ _).alloc (Nat.le_refl _) _) g hc) (KidsOwn.weak _ _ _ _ (fun g hg _ => Nat.le_trans hX hg) hko), hm, below_alloc hb _⟩
theorem kidR_set {ns : List Tp.Nd} {kd : Nat} {vs : List Vp.Txt} {W w6 : World} {b : Bool} {ar : Arr} {k c0 c1 c2 c3 c4 c5 c6 : Value} (c : Nat) (hc : W.heap.size ≤ c) (X : Nat) (hX : c < X) (hko : KidsOwn w6 (fun g => X ≤ g) ar.kids k)
    (hm : match Vp.build ns kd vs with | none => b = false | some x => b = true ∧ ar = x) (hb : Below W.heap.size W w6) (hblk : w6.heap[c]? = some (.cells #[c0, c1, c2, c3, c4, c5, c6] 47)) :
    KidR ns kd vs W (.pointer (some ⟨c, 0, none⟩)) (.bool b) (set7 w6 c (.int .i64 ar.lay) (.int .i64 ar.off) (.int .i64 ar.len) (tv ar.valid) (tv ar.ends) (tv ar.data) k) :=
  ⟨c, b, ar, k, rfl, rfl, hc, set7_at hblk _ _ _ _ _ _ _, KidsOwn.weak _ _ _ _ (fun g hg _ => by have : X ≤ g := hg; omega) (KidsOwn.same _ _ _ (fun g hg _ => set7_far _ _ _ (by have : X ≤ g := hg; omega) _ _ _ _ _ _ _) hko), hm, below_set7 hb hc _ _ _ _ _ _ _⟩
/-- Behind an append of a kid. -/
theorem RSt.app {W wc w9 : World} {O : Nat} {vv : Value} {n : Int} {v e d : Vp.Txt} {k : Value} {o : Obj} {row : Option Nat} (hS : RSt W wc O vv n v e d k) (hg : (wc.alloc o).grownBy w9 row) (hr : ∀ g, row = some g → O < g) :
    RSt W w9 O vv n v e d k ∧ w9.cell? ⟨O, 6, none⟩ = some k ∧ w9.frozen? ⟨O, 6, none⟩ = false := by
  have h := (hS.below ((Below.refl _ _).alloc (Nat.le_refl _) o)).far hg hr
  obtain ⟨_, _, _, _, _, _, h6, _, _, _, _, _, _, y6⟩ := zero_cells h.out
  exact ⟨h, h6, y6⟩
theorem wp_app_arr {ops : Array Oper} {rest : List Oper} {o : Oper} {a : Act} {Q : Exit → Act → World → Prop} {w0 : World} (hgd : o.guard = none) (s x : Operand)
    (ho : o.op = .call { callee := .builtin .append, args := #[s, x], argTypes := #[45, 45] }) (kv : Value) (q : Nat) (cs : List Value) (hs : a.eval s = kv) (hown : w0.ownsRow 0 47 7 kv q cs)
    (l f n : Int) (v e d : Vp.Txt) (ka : Option Addr) (km kc : Nat) (hx : a.eval x = .slice (some ⟨w0.heap.size, 0, none⟩) 1 1) (hq : q ≤ 65536)
    (h : ∀ va vc w', w'.ownsRow 0 47 7 (.slice va (q + 1) vc) (q + 1) (cs ++ [.int .i64 l, .int .i64 f, .int .i64 n, tv v, tv e, tv d, .slice ka km kc]) → (w0.alloc (.cells (arrC l f n v e d (.slice ka km kc)) 47)).grownBy w' kv.ownBlock →
      ((Value.slice va (q + 1) vc).ownBlock = kv.ownBlock ∨ (Value.slice va (q + 1) vc).ownBlock = some (w0.alloc (.cells (arrC l f n v e d (.slice ka km kc)) 47)).heap.size) → wpList Tryz.prog ops Q rest (a.put o.dst (.slice va (q + 1) vc)) w') :
    wpList Tryz.prog ops Q (o :: rest) a (w0.alloc (.cells (arrC l f n v e d (.slice ka km kc)) 47)) := by
  refine wp_appSA hgd s x 45 47 ho 0 7 96 (.agg #[.int .i64 0, .int .i64 0, .int .i64 0, .string ⟨#[]⟩, .string ⟨#[]⟩, .string ⟨#[]⟩, .slice none 0 0]) Tryz.underlying45 info_arr rfl (by decide) kv q cs hs (hown.alloc _) (some ⟨w0.heap.size, 0, none⟩) 1 1 [.int .i64 l, .int .i64 f, .int .i64 n, tv v, tv e, tv d, .slice ka km kc] hx rfl (fun _ => ⟨_, rfl, fun j u hj => ?_⟩) (arr_one _ _ _ _ _ _ _ _ _) (by omega) (by omega) (Nat.zero_le _) ?_
  · rw [add_zero_]
    exact (Row.new w0 47 (arrC l f n v e d (.slice ka km kc))).cell (i := j) hj
  · intro v9 w9 ho9 _ hg9 hl9
    obtain ⟨va9, vc9, rfl⟩ := own_sliceN ho9
    exact h va9 vc9 w9 ho9 hg9 hl9
end Go.Proofs.YtlllflacnlgigaaGreatDoor
