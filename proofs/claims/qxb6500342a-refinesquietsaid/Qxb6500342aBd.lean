/-
  The board's eight low bits: facts by the kernel over all 256 sets.
-/
import Derived.Test.Qxb6500342aBt
namespace Go.Proofs.Qxb6500342a
namespace Bd
/-- The lowest place that is free. -/
def low (u : Nat) : Nat := ((List.range 8).find? fun i => !u.testBit i).getD 8
def cnt (u : Nat) : Nat := ((List.range 8).filter fun i => u.testBit i).length
theorem low_le (u : Nat) : low u ≤ 8 := by
  unfold low
  cases h : (List.range 8).find? fun i => !u.testBit i with
  | none => simp
  | some a => have := List.mem_of_find?_eq_some h; simp at this; simp; omega
theorem low_bit256 : ∀ u : Fin 256, (18446744073709551615 - u.val) &&& (18446744073709551615 - (18446744073709551615 - u.val - 1)) = 2 ^ low u.val := by decide +kernel
theorem low_bit (u : Nat) (h : u < 256) : (18446744073709551615 - u) &&& (18446744073709551615 - (18446744073709551615 - u - 1)) = 2 ^ low u := low_bit256 ⟨u, h⟩
theorem cnt256 : ∀ u : Fin 256, u.val ≠ 0 → (u.val &&& (u.val - 1)) < u.val ∧ cnt u.val = cnt (u.val &&& (u.val - 1)) + 1 := by decide +kernel
theorem cnt_step (u : Nat) (h : u < 256) (h0 : u ≠ 0) : (u &&& (u - 1)) < u ∧ cnt u = cnt (u &&& (u - 1)) + 1 := cnt256 ⟨u, h⟩ h0
theorem cnt_le (u : Nat) : cnt u ≤ 8 := by
  unfold cnt
  have := List.length_filter_le (fun i => u.testBit i) (List.range 8)
  simpa using this
theorem add256 : ∀ u : Fin 256, ∀ n : Fin 8, (u.val ||| 2 ^ n.val) < 256 := by decide +kernel
theorem add_lt (u n : Nat) (h : u < 256) (hn : n < 8) : (u ||| 2 ^ n) < 256 := add256 ⟨u, h⟩ ⟨n, hn⟩
theorem add_bit (u n j : Nat) : (u ||| 2 ^ n).testBit j = (u.testBit j || decide (j = n)) := by
  rw [Nat.testBit_or, Nat.testBit_two_pow]
  congr 1
  apply Bool.eq_iff_iff.2
  simp [eq_comm]
theorem rem_lt (u n : Nat) (h : u < 256) : (u &&& (18446744073709551615 - 2 ^ n)) < 256 := Nat.lt_of_le_of_lt Nat.and_le_left h
theorem rem256 : ∀ u : Fin 256, ∀ n : Fin 8, ∀ j : Fin 8, (u.val &&& (18446744073709551615 - 2 ^ n.val)).testBit j.val = (u.val.testBit j.val && !decide (j.val = n.val)) := by decide +kernel
theorem rem_bit (u n j : Nat) (h : u < 256) (hn : n < 8) (hj : j < 8) : (u &&& (18446744073709551615 - 2 ^ n)).testBit j = (u.testBit j && !decide (j = n)) := rem256 ⟨u, h⟩ ⟨n, hn⟩ ⟨j, hj⟩
theorem high_false (u j : Nat) (h : u < 256) (hj : 8 ≤ j) : u.testBit j = false :=
  Nat.testBit_lt_two_pow (Nat.lt_of_lt_of_le h (by rw [show (256 : Nat) = 2 ^ 8 from by decide]; exact Nat.pow_le_pow_right (by decide) hj))
/-- Two sets of eight places that agree are one. -/
theorem ext8 (u v : Nat) (hu : u < 256) (hv : v < 256) (h : ∀ j, j < 8 → u.testBit j = v.testBit j) : u = v := by
  apply Nat.eq_of_testBit_eq
  intro j
  by_cases hj : j < 8
  · exact h j hj
  · rw [high_false u j hu (by omega), high_false v j hv (by omega)]
theorem low_free (u : Nat) (h : low u < 8) : u.testBit (low u) = false := by
  unfold low at *
  cases hh : (List.range 8).find? fun i => !u.testBit i with
  | none => rw [hh] at h; simp at h
  | some a => have := List.find?_some hh; simpa using this
end Bd
end Go.Proofs.Qxb6500342a
