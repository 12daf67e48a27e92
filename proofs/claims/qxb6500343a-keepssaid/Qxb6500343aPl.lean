/-
  The plain functions: what each Go function of the series and the box computes, over data.
-/
import Derived.Test.Qxb6500343aFl
namespace Go.Proofs.Qxb6500343a
open Ieee (Datum)
open Fl
namespace Pl
/-- A level: sample, sum, least, greatest. -/
structure LD where
  x : Datum
  s : Datum
  l : Datum
  h : Datum
/-- An axis. -/
structure AX where
  lo : Datum
  hi : Datum
  w : Datum
  wide : Bool
def zero64 : Datum := V .f64 0
def zero32 : Datum := V .f32 0
def one32 : Datum := V .f32 1065353216
def four32 : Datum := V .f32 1082130432
def ratio (a b : Int) : Datum := div .f64 (ofInt .f64 a) (ofInt .f64 b)
def coord (a b : Int) : Datum := to32 (ratio a b)
def stepLo (x l : Datum) : Datum := if lt x l then x else l
def stepHi (x h : Datum) : Datum := if gt x h then x else h
def first (x : Datum) : LD := ⟨x, add .f64 zero64 x, x, x⟩
def step (b : LD) (x : Datum) : LD := ⟨x, add .f64 b.s x, stepLo x b.l, stepHi x b.h⟩
/-- The level that a push lays on top. -/
def next (ls : List LD) (x : Datum) : LD := match ls.getLast? with
  | none => first x
  | some t => step t x
def span (lo hi : Datum) : AX :=
  let w := sub .f32 (to32 hi) (to32 lo)
  ⟨to32 lo, to32 hi, w, !eq (add .f32 w w) w⟩
def noAX : AX := ⟨zero32, zero32, zero32, false⟩
def holds (a : AX) (p : Datum) : Bool := ge p a.lo && le p a.hi
def clamp (v lo hi : Datum) : Datum := if lt v lo then lo else if gt v hi then hi else v
def lerp (t lo hi : Datum) : Datum := add .f32 (mul .f32 (sub .f32 one32 t) lo) (mul .f32 t hi)
/-- 'int(x)' where the model gives one. -/
def toI (d : Datum) : Int := (d.toInt .zero).getD 0
def intOk (d : Datum) : Bool := match d.toInt .zero with
  | some n => decide (IntKind.i64.min ≤ n) && decide (n ≤ IntKind.i64.max)
  | none => false
def frac (a : AX) (p : Datum) : Datum := div .f32 (sub .f32 p a.lo) a.w
def inUnit (f : Datum) : Bool := ge f zero32 && le f one32
def cell4 (f : Datum) : Int := let k := toI (mul .f32 four32 f); if k = 4 then 3 else k
def part (a : AX) (p : Datum) : Int × Bool := if a.wide then (if inUnit (frac a p) then (cell4 (frac a p), true) else (0, false)) else (0, false)
def partOk (a : AX) (p : Datum) : Bool := !a.wide || !inUnit (frac a p) || intOk (mul .f32 four32 (frac a p))
/-- The axis that is kept of a series. -/
def axisOf (ls : List LD) : AX := match ls.getLast? with
  | none => noAX
  | some d => span d.l d.h
/-- The kept least and greatest can be rounded to float32. -/
def Fit (ls : List LD) : Prop := ∀ d, ls.getLast? = some d → fits32 d.l = true ∧ fits32 d.h = true
end Pl
end Go.Proofs.Qxb6500343a
