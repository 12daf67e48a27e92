/-
  Floats as plain data: the value of a float's bits is an Ieee datum, all NaNs made one. What each of Go's float operations does to it, and the walk's laws.
-/
import Derived.WalkKit
import Derived.WalkSpells
import Derived.WalkLawsBesides
import Derived.Deep.Draws
namespace Go.Proofs.Qxb6500343a
open Go.RowKit
open Ieee (Datum)
namespace Fl

def nanD : Datum := .nan false 1
/-- All NaNs are one. -/
def cn : Datum → Datum
  | .nan _ _ => nanD
  | d => d
/-- The value of bits. -/
def V (k : FloatKind) (b : Nat) : Datum := cn (k.format.read b)
/-- A datum as the kind holds it: rounded once. -/
def rd (k : FloatKind) (d : Datum) : Datum := V k (k.format.write d)
def ar (k : FloatKind) : Option Datum → Datum
  | none => nanD
  | some d => rd k d
def add (k : FloatKind) (x y : Datum) : Datum := ar k (x.sum y)
def sub (k : FloatKind) (x y : Datum) : Datum := ar k (x.sum y.opposite)
def mul (k : FloatKind) (x y : Datum) : Datum := ar k (x.product y)
def div (k : FloatKind) (x y : Datum) : Datum := ar k (x.quotient (k.format.fractionBits + 2) y)
def ofInt (k : FloatKind) (n : Int) : Datum := rd k (.number (n < 0) n.natAbs 0)
def lt (x y : Datum) : Bool := x.order y == some .lt
def gt (x y : Datum) : Bool := x.order y == some .gt
def eq (x y : Datum) : Bool := x.order y == some .eq
def le (x y : Datum) : Bool := x.order y == some .lt || x.order y == some .eq
def ge (x y : Datum) : Bool := x.order y == some .gt || x.order y == some .eq

theorem order_cn (x y : Datum) : (cn x).order (cn y) = x.order y := by
  cases x <;> cases y <;> rfl
theorem sum_cn (x y : Datum) : (cn x).sum (cn y) = x.sum y := by
  cases x <;> cases y <;> rfl
theorem sub_cn (x y : Datum) : (cn x).sum (cn y).opposite = x.sum y.opposite := by
  cases x <;> cases y <;> rfl
theorem product_cn (x y : Datum) : (cn x).product (cn y) = x.product y := by
  cases x <;> cases y <;> rfl
theorem quotient_cn (n : Nat) (x y : Datum) : (cn x).quotient n (cn y) = x.quotient n y := by
  cases x <;> cases y <;> rfl

theorem order_V (k : FloatKind) (a b : Nat) : k.format.order a b = (V k a).order (V k b) := (order_cn _ _).symm

/-- The NaN bits that the tape gives. -/
def nanCut (k : FloatKind) (x y : Nat) (τ : Nat → Question → Nat) (d : Nat) : Nat := Question.cut (.nanBits k x y) (τ d (.nanBits k x y))
/-- The bits of a result, and how many draws it took. -/
def fb (op : BinOp) (k : FloatKind) (x y : Nat) (τ : Nat → Question → Nat) (d : Nat) : Nat := (floatBits op k x y).getD (nanCut k x y τ d)
def fn (op : BinOp) (k : FloatKind) (x y : Nat) : Nat := if (floatBits op k x y).isSome then 0 else 1

theorem cn_read_nan (f : Ieee.Format) (b : Nat) (h : f.infRung < b % f.signWeight) (hb : f.binade ≤ f.infRung) : cn (f.read b) = nanD := by
  unfold Ieee.Format.read
  dsimp only
  rw [if_neg (by omega), if_neg (by omega), if_neg (by omega)]
  rfl
theorem nan_lt {r : Nat} (t : Nat) (h : r = (t % 2) * 2 ^ 63 + 0x7ff0000000000000 + 1 + (t / 2) % (2 ^ 52 - 1)) : V .f64 r = nanD := by
  have h1 : (t / 2) % (2 ^ 52 - 1) < 2 ^ 52 - 1 := Nat.mod_lt _ (by decide)
  have h2 : t % 2 < 2 := Nat.mod_lt _ (by decide)
  generalize t % 2 = u at h h2
  generalize (t / 2) % _ = v at h h1
  refine cn_read_nan _ _ ?_ ?_
  · simp only [FloatKind.format, Ieee.double, Ieee.Format.signWeight, Ieee.Format.binade, Ieee.Format.infRung]; omega
  · simp only [FloatKind.format, Ieee.double, Ieee.Format.binade, Ieee.Format.infRung]; omega
theorem nan_lt32 {r : Nat} (t : Nat) (h : r = (t % 2) * 2 ^ 31 + 0x7f800000 + 1 + (t / 2) % (2 ^ 23 - 1)) : V .f32 r = nanD := by
  have h1 : (t / 2) % (2 ^ 23 - 1) < 2 ^ 23 - 1 := Nat.mod_lt _ (by decide)
  have h2 : t % 2 < 2 := Nat.mod_lt _ (by decide)
  generalize t % 2 = u at h h2
  generalize (t / 2) % _ = v at h h1
  refine cn_read_nan _ _ ?_ ?_
  · simp only [FloatKind.format, Ieee.single, Ieee.Format.signWeight, Ieee.Format.binade, Ieee.Format.infRung]; omega
  · simp only [FloatKind.format, Ieee.single, Ieee.Format.binade, Ieee.Format.infRung]; omega
theorem V_nanCut (k : FloatKind) (x y : Nat) (τ : Nat → Question → Nat) (d : Nat) : V k (nanCut k x y τ d) = nanD := by
  cases k
  · exact nan_lt32 _ rfl
  · exact nan_lt _ rfl
theorem V_conv (k : FloatKind) (x t : Nat) : V k (Question.cut (.nanConv k x) t) = nanD := by
  cases k
  · exact nan_lt32 _ rfl
  · exact nan_lt _ rfl

/-- What the operation gives, as a value. -/
def arith (op : BinOp) (k : FloatKind) (x y : Datum) : Datum :=
  match op with
  | .add => add k x y
  | .sub => sub k x y
  | .mul => mul k x y
  | _ => div k x y
theorem V_map (k : FloatKind) (o : Option Datum) (d : Nat) (hd : V k d = nanD) : V k ((o.map k.format.write).getD d) = ar k o := by
  cases o with
  | none => exact hd
  | some d => rfl
theorem V_add (k : FloatKind) (x y : Nat) (τ : Nat → Question → Nat) (d : Nat) : V k (fb .add k x y τ d) = add k (V k x) (V k y) := by
  unfold fb add V
  rw [sum_cn]
  exact V_map _ _ _ (V_nanCut _ _ _ _ _)
theorem V_sub (k : FloatKind) (x y : Nat) (τ : Nat → Question → Nat) (d : Nat) : V k (fb .sub k x y τ d) = sub k (V k x) (V k y) := by
  unfold fb sub V
  rw [sub_cn]
  exact V_map _ _ _ (V_nanCut _ _ _ _ _)
theorem V_mul (k : FloatKind) (x y : Nat) (τ : Nat → Question → Nat) (d : Nat) : V k (fb .mul k x y τ d) = mul k (V k x) (V k y) := by
  unfold fb mul V
  rw [product_cn]
  exact V_map _ _ _ (V_nanCut _ _ _ _ _)
theorem V_quo (k : FloatKind) (x y : Nat) (τ : Nat → Question → Nat) (d : Nat) : V k (fb .quo k x y τ d) = div k (V k x) (V k y) := by
  unfold fb div V
  rw [quotient_cn]
  exact V_map _ _ _ (V_nanCut _ _ _ _ _)
theorem V_ofInt (k : FloatKind) (n : Int) : V k (floatOfInt k n) = ofInt k n := rfl

section
variable {P : Program} (w : World)
theorem run_arith (op : BinOp) (hop : op = .add ∨ op = .sub ∨ op = .mul ∨ op = .quo) (t : TypeId) (k : FloatKind) (x y : Nat) :
    (binOp op t (.float k x) (.float k y)).run P w = .ok (.float k (fb op k x y w.tape w.drawn)) (w.drewN (fn op k x y)) := by
  cases h : floatBits op k x y with
  | some r =>
    rw [run_float_arith w op t k x y r h]
    simp [fb, fn, h, World.drewN_zero]
  | none =>
    have e1 : fn op k x y = 1 := by simp [fn, h]
    have e2 : fb op k x y w.tape w.drawn = nanCut k x y w.tape w.drawn := by simp [fb, h]
    rw [e1, e2]
    unfold floatBits at h
    rcases hop with rfl | rfl | rfl | rfl <;> simp only at h <;>
      simp [binOp, Op.floatArith, h, choose, nanCut, Question.forced, World.drewN, Sem.run]
theorem run_fadd (t : TypeId) (k : FloatKind) (x y : Nat) : (binOp .add t (.float k x) (.float k y)).run P w = .ok (.float k (fb .add k x y w.tape w.drawn)) (w.drewN (fn .add k x y)) := run_arith w _ (by simp) t k x y
theorem run_fsub (t : TypeId) (k : FloatKind) (x y : Nat) : (binOp .sub t (.float k x) (.float k y)).run P w = .ok (.float k (fb .sub k x y w.tape w.drawn)) (w.drewN (fn .sub k x y)) := run_arith w _ (by simp) t k x y
theorem run_fmul (t : TypeId) (k : FloatKind) (x y : Nat) : (binOp .mul t (.float k x) (.float k y)).run P w = .ok (.float k (fb .mul k x y w.tape w.drawn)) (w.drewN (fn .mul k x y)) := run_arith w _ (by simp) t k x y
theorem run_fquo (t : TypeId) (k : FloatKind) (x y : Nat) : (binOp .quo t (.float k x) (.float k y)).run P w = .ok (.float k (fb .quo k x y w.tape w.drawn)) (w.drewN (fn .quo k x y)) := run_arith w _ (by simp) t k x y

/-- float64 to float32: where the number is none too great. -/
def fits32 : Datum → Bool
  | .number s m e => !(rd .f32 (.number s m e)).isInfinity
  | _ => true
def to32 : Datum → Datum
  | .nan _ _ => nanD
  | d => rd .f32 d
def cvb (b : Nat) (τ : Nat → Question → Nat) (d : Nat) : Nat := (floatToFloatBits .f64 b .f32).getD (Question.cut (.nanConv .f32 b) (τ d (.nanConv .f32 b)))
def cvn (b : Nat) : Nat := if (floatToFloatBits .f64 b .f32).isSome then 0 else 1
theorem isInf_cn (d : Datum) : (cn d).isInfinity = d.isInfinity := by cases d <;> rfl
theorem run_to32 (src dst : TypeId) (b : Nat) (hs : (P.underlying src).isSome = true) (hd : P.underlying dst = some (.float .f32)) (hf : fits32 (V .f64 b) = true) :
    (convert src dst (.float .f64 b)).run P w = .ok (.float .f32 (cvb b w.tape w.drawn)) (w.drewN (cvn b)) := by
  cases h : floatToFloatBits .f64 b .f32 with
  | some r =>
    rw [run_convert_float_float w src dst .f64 .f32 b r hs hd h]
    simp [cvb, cvn, h, World.drewN_zero]
  | none =>
    have e1 : cvn b = 1 := by simp [cvn, h]
    have e2 : cvb b w.tape w.drawn = Question.cut (.nanConv .f32 b) (w.tape w.drawn (.nanConv .f32 b)) := by simp [cvb, h]
    rw [e1, e2]
    have hv : V .f64 b = cn (FloatKind.f64.decode b) := rfl
    rw [hv] at hf
    obtain ⟨u, hs'⟩ := Option.isSome_iff_exists.1 hs
    cases hd' : FloatKind.f64.decode b with
    | nan s f =>
      cases u <;> simp [convert, run_underlying hs', run_underlying hd, Conv.floatToFloat, hd', choose, Question.forced, World.drewN, Sem.run]
    | infinity s => simp [floatToFloatBits, hd'] at h
    | number s m e =>
      exfalso
      rw [hd'] at hf
      have h2 : fits32 (.number s m e) = true := hf
      have hf' : (FloatKind.f32.decode (FloatKind.f32.encode (.number s m e))).isInfinity = false := by
        simpa [fits32, rd, V, isInf_cn, FloatKind.decode, FloatKind.encode] using h2
      simp [floatToFloatBits, hd', hf'] at h
theorem V_to32 (b : Nat) (τ : Nat → Question → Nat) (d : Nat) (hf : fits32 (V .f64 b) = true) : V .f32 (cvb b τ d) = to32 (V .f64 b) := by
  have e : V .f64 b = cn (FloatKind.f64.decode b) := rfl
  rw [e] at hf ⊢
  cases hd' : FloatKind.f64.decode b with
  | nan s f =>
    have h : floatToFloatBits .f64 b .f32 = none := by simp [floatToFloatBits, hd']
    unfold cvb; rw [h]; exact V_conv .f32 b _
  | infinity s =>
    have h : floatToFloatBits .f64 b .f32 = some (FloatKind.f32.encode (.infinity s)) := by simp [floatToFloatBits, hd']
    unfold cvb; rw [h]; rfl
  | number s m e =>
    rw [hd'] at hf
    have hf' : (FloatKind.f32.decode (FloatKind.f32.encode (.number s m e))).isInfinity = false := by
      have h2 : fits32 (.number s m e) = true := hf
      simpa [fits32, rd, V, isInf_cn, FloatKind.decode, FloatKind.encode] using h2
    have h : floatToFloatBits .f64 b .f32 = some (FloatKind.f32.encode (.number s m e)) := by simp [floatToFloatBits, hd', hf']
    unfold cvb; rw [h]; rfl
/-- float32 to float64 -/
def to64 : Datum → Datum
  | .nan _ _ => nanD
  | d => rd .f64 d
theorem run_store_float (a : Addr) (m : Mode) (k : FloatKind) (b : Nat) : (store a (.float k b) m).run P w = stored P w a (.float k b) m := run_store P w a _ m rfl
theorem alloc_drewN (o : Obj) (n : Nat) : (w.drewN n).alloc o = (w.alloc o).drewN n := rfl
theorem setCell_drewN (a : Addr) (v : Value) (n : Nat) : (w.drewN n).setCell a v = (w.setCell a v).drewN n := rfl
theorem shape?_drewN (r n : Nat) : (w.drewN n).shape? r = w.shape? r := rfl
theorem tape_alloc (o : Obj) : (w.alloc o).tape = w.tape := rfl
theorem drawn_alloc (o : Obj) : (w.alloc o).drawn = w.drawn := rfl
theorem tape_setCell (a : Addr) (v : Value) : (w.setCell a v).tape = w.tape := rfl
theorem drawn_setCell (a : Addr) (v : Value) : (w.setCell a v).drawn = w.drawn := rfl
theorem drawn_drewN (n : Nat) : (w.drewN n).drawn = w.drawn + n := rfl
theorem drawn_drew : w.drew.drawn = w.drawn + 1 := rfl
end
end Fl
/-- Only new blocks, draws. -/
def Ext (w w' : World) : Prop := Below w.heap.size w w'
theorem Ext.refl (w : World) : Ext w w := Below.refl _ _
theorem Ext.trans {a b c : World} (h : Ext a b) (k : Ext b c) : Ext a c := Below.trans h (Below.mono k h.size)
theorem Ext.drewN {a b : World} (h : Ext a b) (n : Nat) : Ext a (b.drewN n) := below_drewN h n
theorem Ext.drew {a b : World} (h : Ext a b) : Ext a b.drew := Below.drew h
theorem Ext.alloc {a b : World} (h : Ext a b) (o : Obj) : Ext a (b.alloc o) := Below.alloc h h.size o
theorem Ext.setCell {a b : World} (h : Ext a b) {p : Addr} (hp : a.heap.size ≤ p.block) (v : Value) : Ext a (b.setCell p v) := Below.setCell h hp v
end Go.Proofs.Qxb6500343a
