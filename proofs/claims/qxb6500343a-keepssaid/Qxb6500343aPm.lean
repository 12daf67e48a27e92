/-
  The plain functions of the box's questions.
-/
import Derived.Test.Qxb6500343aPl
namespace Go.Proofs.Qxb6500343a
open Ieee (Datum)
open Fl Go.RowKit
namespace Pl
def rc (row col : Int) : Int := wrap64 (wrap64 (row * 4) + col)
/-- Cell, over two axes: the number, the Errno. -/
def cellA (ax ay : AX) (px py : Datum) : Int × Int :=
  if holds ax px then
    if holds ay py then
      if (part ax px).2 && (part ay py).2 then (rc (part ay py).1 (part ax px).1, 0) else (0, 6)
    else (0, 5)
  else (0, 5)
def cell (xs ys : List LD) (a b c : Int) : Int × Int := if xs.isEmpty then (0, 2) else cellA (axisOf xs) (axisOf ys) (coord a c) (coord b c)
def cellOk (ax ay : AX) (px py : Datum) : Bool := partOk ax px && partOk ay py
end Pl
end Go.Proofs.Qxb6500343a
