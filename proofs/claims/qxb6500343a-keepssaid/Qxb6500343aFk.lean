/-
  The closed facts behind 'Facts', by the kernel.
-/
import Derived.Test.Qxb6500343aPm
namespace Go.Proofs.Qxb6500343a
open Ieee (Datum)
open Fl Go.RowKit
namespace Fk
open Pl
def x1 : List LD := [next [] (ratio 0 1)]
def xs : List LD := [next [] (ratio 0 1)] ++ [next [next [] (ratio 0 1)] (ratio 4 1)]
def ys : List LD := [next [] (ratio 0 1)] ++ [next [next [] (ratio 0 1)] (ratio 8 1)]
def fitB (ls : List LD) : Bool := match ls.getLast? with
  | none => true
  | some d => fits32 d.l && fits32 d.h
theorem fit_of {ls : List LD} (h : fitB ls = true) : Fit ls := by
  intro d hd
  unfold fitB at h
  rw [hd] at h
  simpa using h
def cellB (a b c : Int) (want : Int) : Bool :=
  fits32 (ratio a c) && fits32 (ratio b c) && cellOk (axisOf xs) (axisOf ys) (coord a c) (coord b c) && decide (cellA (axisOf xs) (axisOf ys) (coord a c) (coord b c) = (want, 0))
def alongB (a b : Int) : Bool :=
  fits32 (ratio a b) && eq (lerp (coord a b) (axisOf xs).lo (axisOf xs).hi) (ofInt .f32 a) && eq (lerp (coord a b) (axisOf ys).lo (axisOf ys).hi) (ofInt .f32 (2 * a))
theorem fit1 : fitB x1 = true := by decide +kernel
theorem fitx : fitB xs = true := by decide +kernel
theorem fity : fitB ys = true := by decide +kernel
theorem cells1 : ∀ i j : Fin 4, cellB (i.val : Int) (2 * (j.val : Int)) 1 ((j.val : Int) * 4 + i.val) = true := by decide +kernel
theorem cells2 : ∀ i j : Fin 4, cellB (4 * (i.val : Int) + 3) (8 * (j.val : Int) + 6) 4 ((j.val : Int) * 4 + i.val) = true := by decide +kernel
theorem cells3 : cellB 4 8 1 15 = true := by decide +kernel
theorem alongs : ∀ i : Fin 4, alongB (i.val : Int) 4 = true := by decide +kernel
theorem clamps : (fits32 (ratio 9 1) && fits32 (ratio (-5) 1) && eq (clamp (coord 9 1) (axisOf xs).lo (axisOf xs).hi) four32 && eq (clamp (coord (-5) 1) (axisOf ys).lo (axisOf ys).hi) zero32) = true := by decide +kernel
end Fk
end Go.Proofs.Qxb6500343a
