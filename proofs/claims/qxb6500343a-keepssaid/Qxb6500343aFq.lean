/-
  Plain facts of arithmetic: what is exact; what lies in the unit.
-/
import Derived.Test.Qxb6500343aFp
namespace Go.Proofs.Qxb6500343a
open Go.RowKit
open Go.Proofs
open Ieee (Datum Format Toward)
open Fl
open Tx (st)
open Ff (in64)
set_option linter.unusedSimpArgs false
set_option linter.unusedVariables false
attribute [local go_sem] run_fadd run_fsub run_fmul run_fquo run_store_float alloc_drewN setCell_drewN shape?_drewN tape_alloc drawn_alloc tape_setCell drawn_setCell drawn_drewN drawn_drew run_fneg

namespace Kf
open Ff
open Pl (minL maxL axis_lv minmax clamp)
theorem signed_shift (s : Bool) (m a u : Nat) : Ieee.signed s m (a + u) = Ieee.signed s m a * 2 ^ u := by
  have h : ((m <<< (a + u) : Nat) : Int) = ((m <<< a : Nat) : Int) * 2 ^ u := by
    rw [Nat.shiftLeft_eq, Nat.shiftLeft_eq, Nat.pow_add, ← Nat.mul_assoc]
    push_cast
    rfl
  unfold Ieee.signed
  cases s
  · simp only [Bool.false_eq_true, if_false]; exact h
  · simp only [if_true]; rw [h, Int.neg_mul]
theorem eq_num {s t : Bool} {m n : Nat} {i j b : Int} (hi : b ≤ i) (hj : b ≤ j) : eq (.number s m i) (.number t n j) = true ↔ Ieee.signed s m (i - b).toNat = Ieee.signed t n (j - b).toNat := by
  unfold eq
  rw [order_base s t m n i j b hi hj, beq_iff_eq, Option.some.injEq, Int.compare_eq_eq]
theorem held_int (k : FloatKind) (s : Bool) (m : Nat) (h0 : m ≠ 0) (h1 : m.log2 ≤ 23) : Held k (.number s (m * 2 ^ (k.format.fractionBits - m.log2)) ((m.log2 : Int) - k.format.fractionBits)) := by
  have hF : 23 ≤ k.format.fractionBits := by cases k <;> decide
  have hlp : k.format.leastPlace + k.format.fractionBits ≤ 0 := by cases k <;> decide
  have hB : k.format.binade = 2 ^ k.format.fractionBits := rfl
  have hBp : 0 < k.format.binade := Nat.two_pow_pos _
  have hI : ((23 : Int) - k.format.fractionBits - k.format.leastPlace + 2).toNat * k.format.binade ≤ k.format.infRung := by cases k <;> decide +kernel
  have a1 : 2 ^ m.log2 ≤ m := Nat.log2_self_le h0
  have a2 : m < 2 ^ (m.log2 + 1) := Nat.lt_log2_self
  have e1 : 2 ^ m.log2 * 2 ^ (k.format.fractionBits - m.log2) = k.format.binade := by rw [← Nat.pow_add, hB]; congr 1; omega
  have b1 : k.format.binade ≤ m * 2 ^ (k.format.fractionBits - m.log2) := by rw [← e1]; exact Nat.mul_le_mul_right _ a1
  have b2 : m * 2 ^ (k.format.fractionBits - m.log2) < 2 * k.format.binade := by
    rw [← e1, ← Nat.mul_assoc, show 2 * 2 ^ m.log2 = 2 ^ (m.log2 + 1) from by rw [Nat.pow_succ, Nat.mul_comm]]
    exact Nat.mul_lt_mul_of_pos_right a2 (Nat.two_pow_pos _)
  generalize m * 2 ^ (k.format.fractionBits - m.log2) = M at *
  obtain ⟨q, hq⟩ : ∃ q : Nat, ((m.log2 : Int) - k.format.fractionBits - k.format.leastPlace + 1) = q := ⟨_, (Int.toNat_of_nonneg (by omega)).symm⟩
  have hq1 : 1 ≤ q := by omega
  have d1 : (q * k.format.binade + (M - k.format.binade)) / k.format.binade = q := by rw [Nat.mul_comm, Nat.mul_add_div hBp, Nat.div_eq_of_lt (by omega), Nat.add_zero]
  have d2 : (q * k.format.binade + (M - k.format.binade)) % k.format.binade = M - k.format.binade := by rw [Nat.mul_comm, Nat.mul_add_mod, Nat.mod_eq_of_lt (by omega)]
  have d3 : k.format.binade ≤ q * k.format.binade := Nat.le_mul_of_pos_left _ (by omega)
  have d4 : (q + 1) * k.format.binade ≤ ((23 : Int) - k.format.fractionBits - k.format.leastPlace + 2).toNat * k.format.binade := Nat.mul_le_mul_right _ (by omega)
  rw [Nat.add_mul, Nat.one_mul] at d4
  refine .inr (.inr ⟨s, q * k.format.binade + (M - k.format.binade), by omega, ?_⟩)
  unfold val
  rw [if_neg (by omega), d1, d2]
  congr 1 <;> omega
theorem held_zero (k : FloatKind) (s : Bool) : Held k (.number s 0 k.format.leastPlace) := .inr (.inr ⟨s, 0, by cases k <;> decide +kernel, by
  unfold val
  rw [if_pos (show 0 < k.format.binade from Nat.two_pow_pos _)]⟩)
theorem rd_zero (k : FloatKind) (s : Bool) (e : Int) : rd k (.number s 0 e) = .number s 0 k.format.leastPlace :=
  rd_held (b := min e k.format.leastPlace) (held_zero k s) (by omega) (by omega) (by simp)
theorem int_exact (k : FloatKind) (s : Bool) (m : Nat) (h : m ≤ 16777216) : eq (rd k (.number s m 0)) (.number s m 0) = true := by
  by_cases h0 : m = 0
  · subst h0
    rw [rd_zero, eq_num (b := min 0 k.format.leastPlace) (by omega) (by omega)]
    unfold Ieee.signed
    simp
  by_cases h1 : m = 16777216
  · subst h1
    cases k <;> cases s <;> decide +kernel
  have hl : m.log2 ≤ 23 := by
    have : m.log2 < 24 := (Nat.log2_lt h0).2 (by omega)
    omega
  have hF : 23 ≤ k.format.fractionBits := by cases k <;> decide
  have hx : m * 2 ^ (0 - ((m.log2 : Int) - k.format.fractionBits)).toNat = m * 2 ^ (k.format.fractionBits - m.log2) := by
    congr 2; omega
  rw [rd_held (b := (m.log2 : Int) - k.format.fractionBits) (held_int k s m h0 hl) (by omega) (by omega) (by
    rw [hx, show ((m.log2 : Int) - k.format.fractionBits - ((m.log2 : Int) - k.format.fractionBits)).toNat = 0 from by omega, Nat.pow_zero, Nat.mul_one])]
  rw [eq_num (b := (m.log2 : Int) - k.format.fractionBits) (by omega) (by omega)]
  unfold Ieee.signed
  rw [Nat.shiftLeft_eq, Nat.shiftLeft_eq, hx, show ((m.log2 : Int) - k.format.fractionBits - ((m.log2 : Int) - k.format.fractionBits)).toNat = 0 from by omega, Nat.pow_zero, Nat.mul_one]
theorem num64 (x : Datum) : (to64 x).isNaN = x.isNaN := by
  cases x with
  | nan s t => rfl
  | infinity s => simp only [to64, rd_inf]
  | number s m e => exact rd_num .f64 s m e
theorem to64_Le {l h : Datum} (hg : Le l h) : Le (to64 l) (to64 h) := by
  refine ⟨by rw [num64]; exact hg.1, by rw [num64]; exact hg.2.1, ?_⟩
  have hne := hg.2.2
  cases l with
  | nan s t => simp [to64, nanD, Datum.order]
  | infinity s =>
    cases h with
    | nan a b => simp [to64, nanD, rd_inf, Datum.order]
    | infinity t => simp only [to64, rd_inf]; exact hne
    | number t n j =>
      cases s
      · exact absurd rfl hne
      · simp only [to64, rd_inf]
        rw [rd_number]
        split
        · obtain ⟨m1, e1, v1, _⟩ := val_mag FloatKind.f64.format t (rung FloatKind.f64.format n j)
          rw [v1]; simp [Datum.order]
        · cases t <;> decide
  | number s m i =>
    cases h with
    | nan a b =>
      simp only [to64, nanD]
      cases rd .f64 (.number s m i) <;> simp [Datum.order]
    | infinity t =>
      cases t
      · simp only [to64, rd_inf]
        rw [rd_number]
        split
        · obtain ⟨m1, e1, v1, _⟩ := val_mag FloatKind.f64.format s (rung FloatKind.f64.format m i)
          rw [v1]; simp [Datum.order]
        · cases s <;> decide
      · exact absurd rfl hne
    | number t n j => exact rd_mono .f64 s t m n i j hne
/-- A whole number of at most 2^24 stays what it is. -/
theorem exact_one {x : Datum} {k : Int} (h : eq (ofInt .f64 k) x = true) (h1 : -16777216 ≤ k) (h2 : k ≤ 16777216) : eq (to64 (to32 x)) (ofInt .f64 k) = true := by
  have A := (eq_iff _ _).1 (int_exact .f64 (k < 0) k.natAbs (by omega))
  have B := (eq_iff _ _).1 (int_exact .f32 (k < 0) k.natAbs (by omega))
  have X := (eq_iff _ _).1 h
  unfold ofInt at X ⊢
  generalize hN : Datum.number (decide (k < 0)) k.natAbs 0 = N at *
  have n32 : to32 N = rd .f32 N := by rw [← hN]; rfl
  have n64 : to64 N = rd .f64 N := by rw [← hN]; rfl
  have x1 : Le x N := X.2.trans A.1
  have x2 : Le N x := A.2.trans X.1
  have y1 := to32_Le x1
  have y2 := to32_Le x2
  rw [n32] at y1 y2
  have z1 := to64_Le (y1.trans B.1)
  have z2 := to64_Le (B.2.trans y2)
  rw [n64] at z1 z2
  exact (eq_iff _ _).2 ⟨z1, z2⟩
end Kf
end Go.Proofs.Qxb6500343a
