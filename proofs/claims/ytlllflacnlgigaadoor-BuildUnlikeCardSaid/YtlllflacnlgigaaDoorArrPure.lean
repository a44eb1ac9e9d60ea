/- Arrays that may be, and what their rows are, in plain Lean. No program. -/
import Derived.Test.YtlllflacnlgigaaDoorPtsPure
import Derived.Laws.Entries
namespace Go.Proofs.YtlllflacnlgigaaDoor
set_option linter.unusedVariables false
set_option linter.unusedSimpArgs false

namespace Arr
def lay : Arr → Int | .mk l _ _ _ _ _ _ => l
def off : Arr → Int | .mk _ f _ _ _ _ _ => f
def len : Arr → Int | .mk _ _ n _ _ _ _ => n
def valid : Arr → Vp.Txt | .mk _ _ _ v _ _ _ => v
def ends : Arr → Vp.Txt | .mk _ _ _ _ e _ _ => e
def data : Arr → Vp.Txt | .mk _ _ _ _ _ d _ => d
def kids : Arr → List Arr | .mk _ _ _ _ _ _ k => k
def none : Arr := .mk 0 0 0 [] [] [] []
end Arr
namespace Vp
open Tp

/-- A number of bytes, the lowest first. -/
def le (l : Txt) : Nat := l.foldr (fun c a => c.toNat + 256 * a) 0
def cut4 (s : Txt) (at_ : Nat) : Nat := le ((s.drop (4 * at_)).take 4)
/-- The number at a place in a row of numbers of four bytes. -/
def num4 (s : Txt) (at_ : Nat) : Int × Bool := if 4 * at_ + 4 ≤ s.length ∧ cut4 s at_ ≤ 2147483647 then ((cut4 s at_ : Nat), true) else (0, false)
def on (v : Txt) (row : Nat) : Bool := decide (v = []) || Bt.bit v row
def bufOk (ns : List Nd) (i : Nat) (f n : Int) (v e d : Txt) : Bool :=
  decide (0 ≤ f ∧ 0 ≤ n ∧ f ≤ 64 ∧ n ≤ 64 - f ∧ v.length ≤ 4096 ∧ e.length ≤ 4096 ∧ d.length ≤ 4096) && (decide (v = []) || (isNull ns i && decide ((f + n + 7) / 8 ≤ v.length)))
def endOk (s : Txt) (most : Int) (from_ apart : Nat) (i : Nat) : Bool :=
  (num4 s i).2 && (decide ((num4 s i).1 ≤ most) && (decide (i = 0) || (decide ((num4 s (i - 1)).1 ≤ (num4 s i).1) && (decide (i ≤ from_) || decide ((num4 s i).1 - (num4 s (i - 1)).1 ≤ apart)))))
def endsOk (s : Txt) (rows : Nat) (most : Int) (from_ apart : Nat) : Bool := (List.range (rows + 1)).all (endOk s most from_ apart)
def kid0 (ks : List Arr) : Arr := ks.getD 0 Arr.none
def plainOk (ns : List Nd) (i : Nat) (f n : Int) (e d : Txt) (ks : List Arr) : Bool :=
  if kindOf ns i = 0 then decide (e = []) && decide (8 * (f + n) ≤ d.length)
  else if kindOf ns i = 1 then decide (e = []) && decide ((f + n + 7) / 8 ≤ d.length)
  else if kindOf ns i = 2 then endsOk e (f + n).toNat d.length f.toNat 16
  else if kindOf ns i = 3 then decide (d = []) && endsOk e (f + n).toNat (kid0 ks).len 0 64
  else decide (e = []) && (decide (d = []) && ks.all fun k => decide (f + n ≤ k.len))
def oneOk (ns : List Nd) (i : Nat) (e : Txt) (ks : List Arr) : Bool := !inner (kindOf ns i) && (decide (e = []) && (decide (ks.length = 1) && decide ((kid0 ks).lay = 0)))
def dictAt (v d : Txt) (k : Int) (row : Nat) : Bool := !(on v row && (!(num4 d row).2 || decide (k ≤ (num4 d row).1)))
def dictOk (f n : Int) (v d : Txt) (kid : Arr) : Bool :=
  decide (kid.valid = []) && (decide (4 * (f + n) ≤ d.length) && (List.range n.toNat).all fun j => dictAt v d kid.len (f.toNat + j))
/-- The end of the run ahead of one. -/
def runEnd (d : Txt) (i : Nat) : Int := if i = 0 then 0 else (num4 d (i - 1)).1
def runAt (d : Txt) (i : Nat) : Bool := (num4 d i).2 && decide (runEnd d i < (num4 d i).1)
def runOk (f n : Int) (v d : Txt) (k : Int) : Bool :=
  decide (v = []) && (decide ((d.length : Int) = 4 * k) && ((List.range k.toNat).all (runAt d) && decide (f + n ≤ runEnd d k.toNat)))

mutual
def mayA (ns : List Nd) : Arr → Nat → Bool
  | .mk l f n v e d ks, i => (node ns i && bufOk ns i f n v e d) &&
    (if l = 0 then decide (ks.length = (kids ns i).length) && (mayAll ns ks (kids ns i) && plainOk ns i f n e d ks)
     else if l = 1 then oneOk ns i e ks && (mayAll ns ks [i] && dictOk f n v d (kid0 ks))
     else if l = 2 then oneOk ns i e ks && (mayAll ns ks [i] && runOk f n v d (kid0 ks).len)
     else false)
def mayAll (ns : List Nd) : List Arr → List Nat → Bool
  | a :: r, k :: q => mayA ns a k && mayAll ns r q
  | [], _ => true
  | _ :: _, [] => true
end

/-- The number of the first run whose end is above a row. -/
def runOf (d : Txt) (row : Nat) : Nat := (List.range (d.length / 4)).findIdx fun i => decide ((row : Int) < (num4 d i).1)
def int8 (d : Txt) (row : Nat) : Int := IntKind.i64.wrap (le ((d.drop (8 * row)).take 8) : Nat)

mutual
/-- The value of a row, counted from the first one on. -/
def textA (ns : List Nd) : Arr → Nat → Nat → Txt
  | .mk l f n v e d ks, i, row =>
    if on v row = false then nul
    else if l = 1 then headA ns ks i (num4 d row).1.toNat
    else if l = 2 then headA ns ks i (runOf d row)
    else if kindOf ns i = 0 then int (int8 d row)
    else if kindOf ns i = 1 then bool (Bt.bit d row)
    else if kindOf ns i = 2 then str ((d.drop (num4 e row).1.toNat).take ((num4 e (row + 1)).1.toNat - (num4 e row).1.toNat))
    else if kindOf ns i = 3 then list ((List.range ((num4 e (row + 1)).1.toNat - (num4 e row).1.toNat)).map fun j => headA ns ks ((kids ns i).getD 0 0) ((num4 e row).1.toNat + j))
    else struct (eachA ns ks (kids ns i) row)
/-- A row of the first kid, counted from its Offset. -/
def headA (ns : List Nd) : List Arr → Nat → Nat → Txt
  | [], _, _ => []
  | .mk l f n v e d ks :: _, i, row => textA ns (.mk l f n v e d ks) i (f.toNat + row)
def eachA (ns : List Nd) : List Arr → List Nat → Nat → List Txt
  | .mk l f n v e d ks :: r, k :: q, row => textA ns (.mk l f n v e d ks) k (f.toNat + row) :: eachA ns r q row
  | [], _, _ => []
  | _ :: _, [], _ => []
end
def rowA (ns : List Nd) (a : Arr) (i : Nat) (row : Nat) : Txt := textA ns a i (a.off.toNat + row)
def valsA (ns : List Nd) (a : Arr) (i : Nat) : List Txt := (List.range a.len.toNat).map (rowA ns a i)
end Vp
end Go.Proofs.YtlllflacnlgigaaDoor
