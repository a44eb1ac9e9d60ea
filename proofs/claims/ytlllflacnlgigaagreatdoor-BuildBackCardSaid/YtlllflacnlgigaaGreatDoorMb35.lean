/- The reference's value of a row, walked: lists, structs: what they are made of. -/
import Derived.Test.YtlllflacnlgigaaGreatDoorMb34
namespace Go.Proofs.YtlllflacnlgigaaGreatDoor
open Go.RowKit
set_option linter.unusedVariables false
set_option linter.unusedSimpArgs false

theorem head_row (ns : List Tp.Nd) (y : Arr) (r : List Arr) (i row : Nat) : Vp.headA ns (y :: r) i row = Vp.rowA ns y i row := by
  obtain ⟨l, f, n, v, e, d, ks⟩ := y
  rfl
theorem text_list (ns : List Tp.Nd) (e d : Vp.Txt) (y : Arr) (i row A B z0 : Nat) (hk : Tp.kids ns (i : Int) = [z0]) (ha : Vp.num4 e row = ((A : Int), true)) (hb : Vp.num4 e (row + 1) = ((B : Int), true)) :
    plainT ns 3 e d [y] i row = Vp.list ((List.range (B - A)).map fun j => Vp.rowA ns y z0 (A + j)) := by
  unfold plainT
  rw [if_neg (by decide), if_neg (by decide), if_neg (by decide), if_pos rfl, ha, hb, hk]
  simp only [Int.toNat_natCast]
  congr 1
  exact List.map_congr_left fun j _ => head_row ns y [] z0 (A + j)
theorem text_struct (ns : List Tp.Nd) (e d : Vp.Txt) (ks : List Arr) (i row : Nat) (hl : ks.length = (Tp.kids ns (i : Int)).length) :
    plainT ns 4 e d ks i row = Vp.struct ((List.range (Tp.kids ns (i : Int)).length).map fun j => Vp.rowA ns (ks.getD j Arr.none) ((Tp.kids ns (i : Int)).getD j 0) row) := by
  unfold plainT
  rw [if_neg (by decide), if_neg (by decide), if_neg (by decide), if_neg (by decide), Vp.eachA_rows ns ks (Tp.kids ns (i : Int)) row hl]
/-- What an array of lists is. -/
theorem mayA_list {ns : List Tp.Nd} {f n : Nat} {v e d : Vp.Txt} {ks : List Arr} {i z0 : Nat} (h : Vp.mayA ns (.mk 0 f n v e d ks) i = true) (hk : Tp.kindOf ns i = 3) (hz : Tp.kids ns (i : Int) = [z0]) :
    ∃ y, ks = [y] ∧ d = [] ∧ Vp.mayA ns y z0 = true ∧ Vp.endsOk e (f + n) y.len 0 64 = true := by
  have hp := mayA_plain h
  rw [Vp.mayA, if_pos rfl, hz] at h
  simp only [Bool.and_eq_true, decide_eq_true_eq] at h
  obtain ⟨_, h1, h2, _⟩ := h
  obtain ⟨y, rfl⟩ := List.length_eq_one_iff.1 h1
  rw [plainK_eq, hk] at hp
  unfold plainK at hp
  rw [if_neg (by decide), if_neg (by decide), if_neg (by decide), if_pos rfl] at hp
  simp only [Bool.and_eq_true, decide_eq_true_eq] at hp
  rw [Vp.mayAll, Bool.and_eq_true] at h2
  refine ⟨y, rfl, hp.1, h2.1, ?_⟩
  have := hp.2
  rwa [show ((f : Int) + (n : Int)).toNat = f + n by omega] at this
/-- What an array of structs is. -/
theorem mayA_struct {ns : List Tp.Nd} {f n : Nat} {v e d : Vp.Txt} {ks : List Arr} {i : Nat} (h : Vp.mayA ns (.mk 0 f n v e d ks) i = true) (hk : Tp.kindOf ns i = 4) :
    ks.length = (Tp.kids ns (i : Int)).length ∧ ∀ j, j < (Tp.kids ns (i : Int)).length → Vp.mayA ns (ks.getD j Arr.none) ((Tp.kids ns (i : Int)).getD j 0) = true ∧ (f : Int) + (n : Int) ≤ (ks.getD j Arr.none).len := by
  have hp := mayA_plain h
  rw [Vp.mayA, if_pos rfl] at h
  simp only [Bool.and_eq_true, decide_eq_true_eq] at h
  obtain ⟨_, h1, h2, _⟩ := h
  rw [plainK_eq, hk] at hp
  have hp : (decide (e = []) && (decide (d = []) && ks.all fun k => decide ((f : Int) + (n : Int) ≤ k.len))) = true := hp
  simp only [Bool.and_eq_true] at hp
  refine ⟨h1, fun j hj => ⟨(Vp.mayAll_iff ns ks _ h1).1 h2 j hj, ?_⟩⟩
  have hm : ks.getD j Arr.none ∈ ks := by
    rw [List.getD_eq_getElem?_getD, List.getElem?_eq_getElem (by omega)]
    exact List.getElem_mem _
  exact of_decide_eq_true ((List.all_eq_true.1 hp.2.2) _ hm)
end Go.Proofs.YtlllflacnlgigaaGreatDoor
