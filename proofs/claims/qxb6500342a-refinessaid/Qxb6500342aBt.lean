/-
  Bits as arithmetic: a field wiped and laid in; a bit turned; the board's eight low bits.
-/
import Derived.Test.Qxb6500342aPl
namespace Go.Proofs.Qxb6500342a
namespace Bt
set_option linter.unusedSimpArgs false
/-- The field of n bits at place i becomes v's low bits. -/
def fr (i n x v : Nat) : Nat := x % 2 ^ i + (v % 2 ^ n) * 2 ^ i + (x / 2 ^ (i + n)) * 2 ^ (i + n)
theorem testBit_mask (i n j : Nat) : ((2 ^ n - 1) * 2 ^ i).testBit j = (decide (i ≤ j) && decide (j < i + n)) := by
  rw [Nat.mul_comm, Nat.testBit_two_pow_mul]
  by_cases h : i ≤ j
  · simp only [h, decide_true, Bool.true_and, Nat.testBit_two_pow_sub_one]
    congr 1
    apply propext
    omega
  · simp [h]
theorem lay_nat (i n x v : Nat) (hx : x < 2 ^ 64) (hin : i + n ≤ 64) :
    ((x &&& (2 ^ 64 - 1 - (2 ^ n - 1) * 2 ^ i)) ||| ((v &&& (2 ^ n - 1)) * 2 ^ i)) = fr i n x v := by
  have hm : (2 ^ n - 1) * 2 ^ i < 2 ^ 64 := by
    have h1 : (2 ^ n - 1) * 2 ^ i < 2 ^ n * 2 ^ i := Nat.mul_lt_mul_of_pos_right (Nat.sub_lt (Nat.two_pow_pos n) (by decide)) (Nat.two_pow_pos i)
    rw [← Nat.pow_add] at h1
    exact Nat.lt_of_lt_of_le h1 (Nat.pow_le_pow_right (by decide) (by omega))
  have e1 : 2 ^ 64 - 1 - (2 ^ n - 1) * 2 ^ i = 2 ^ 64 - ((2 ^ n - 1) * 2 ^ i + 1) := by omega
  have e2 : fr i n x v = 2 ^ (i + n) * (x / 2 ^ (i + n)) + (2 ^ i * (v % 2 ^ n) + x % 2 ^ i) := by
    unfold fr
    rw [Nat.mul_comm (v % 2 ^ n), Nat.mul_comm (x / 2 ^ (i + n))]
    omega
  have hlo : 2 ^ i * (v % 2 ^ n) + x % 2 ^ i < 2 ^ (i + n) := by
    have h1 : x % 2 ^ i < 2 ^ i := Nat.mod_lt _ (Nat.two_pow_pos i)
    have h2 : v % 2 ^ n + 1 ≤ 2 ^ n := Nat.mod_lt _ (Nat.two_pow_pos n)
    have h3 : 2 ^ i * (v % 2 ^ n + 1) ≤ 2 ^ i * 2 ^ n := Nat.mul_le_mul_left _ h2
    rw [← Nat.pow_add, Nat.mul_add, Nat.mul_one] at h3
    omega
  apply Nat.eq_of_testBit_eq
  intro j
  rw [Nat.testBit_or, Nat.testBit_and, e1, Nat.testBit_two_pow_sub_succ hm, testBit_mask, e2, Nat.testBit_two_pow_mul_add _ hlo, Nat.testBit_two_pow_mul_add _ (Nat.mod_lt _ (Nat.two_pow_pos i))]
  rw [Nat.mul_comm, Nat.testBit_two_pow_mul, Nat.testBit_and, Nat.testBit_two_pow_sub_one, Nat.testBit_mod_two_pow, Nat.testBit_mod_two_pow, Nat.testBit_div_two_pow]
  by_cases h1 : j < i
  · have h2 : ¬ i ≤ j := by omega
    have h3 : j < i + n := by omega
    have h4 : j < 64 := by omega
    simp [h1, h2, h3, h4]
  · have h2 : i ≤ j := by omega
    by_cases h3 : j < i + n
    · have h4 : j - i < n := by omega
      simp [h1, h2, h3, h4]
    · have h4 : ¬ j - i < n := by omega
      have e5 : i + n + (j - (i + n)) = j := by omega
      have e6 : j - (i + n) + (i + n) = j := by omega
      by_cases h6 : j < 64
      · simp [h1, h2, h3, h4, h6, e5, e6]
      · have h7 : x.testBit j = false := Nat.testBit_lt_two_pow (Nat.lt_of_lt_of_le hx (Nat.pow_le_pow_right (by decide) (by omega)))
        simp [h1, h2, h3, h4, h6, e5, e6, h7]
theorem xor_pow (i x : Nat) : x ^^^ 2 ^ i = if x / 2 ^ i % 2 = 0 then x + 2 ^ i else x - 2 ^ i := by
  have hx : x = 2 ^ (i + 1) * (x / 2 ^ (i + 1)) + (2 ^ i * (x / 2 ^ i % 2) + x % 2 ^ i) := by
    have h1 := Nat.div_add_mod x (2 ^ i)
    have h2 := Nat.div_add_mod (x / 2 ^ i) 2
    rw [Nat.div_div_eq_div_mul, ← Nat.pow_add_one] at h2
    have h3 : 2 ^ i * (2 * (x / 2 ^ (i + 1)) + x / 2 ^ i % 2) = 2 ^ i * (x / 2 ^ i) := by rw [h2]
    rw [Nat.mul_add, ← Nat.mul_assoc, ← Nat.pow_add_one] at h3
    omega
  have hr : x % 2 ^ i < 2 ^ i := Nat.mod_lt _ (Nat.two_pow_pos i)
  have hb : x / 2 ^ i % 2 < 2 := Nat.mod_lt _ (by decide)
  have key : ∀ b, b < 2 → (2 ^ (i + 1) * (x / 2 ^ (i + 1)) + (2 ^ i * b + x % 2 ^ i)) ^^^ 2 ^ i = 2 ^ (i + 1) * (x / 2 ^ (i + 1)) + (2 ^ i * (1 - b) + x % 2 ^ i) := by
    intro b hb
    have hl : ∀ c, c < 2 → 2 ^ i * c + x % 2 ^ i < 2 ^ (i + 1) := by
      intro c hc
      rw [Nat.pow_succ]
      have : 2 ^ i * c ≤ 2 ^ i * 1 := Nat.mul_le_mul_left _ (by omega)
      omega
    apply Nat.eq_of_testBit_eq
    intro j
    rw [Nat.testBit_xor, Nat.testBit_two_pow_mul_add _ (hl b hb), Nat.testBit_two_pow_mul_add _ hr, Nat.testBit_two_pow_mul_add _ (hl (1 - b) (by omega)), Nat.testBit_two_pow_mul_add _ hr, Nat.testBit_two_pow]
    by_cases h1 : j < i
    · have h2 : j < i + 1 := by omega
      have h3 : ¬ i = j := by omega
      simp [h1, h2, h3]
    · by_cases h4 : j = i
      · subst h4
        have : b = 0 ∨ b = 1 := by omega
        rcases this with rfl | rfl <;> simp
      · have h2 : ¬ j < i + 1 := by omega
        have h3 : ¬ i = j := by omega
        simp [h2, h3]
  have hk := key _ hb
  rw [← hx] at hk
  rw [hk]
  have : x / 2 ^ i % 2 = 0 ∨ x / 2 ^ i % 2 = 1 := by omega
  rcases this with h0 | h0
  · rw [if_pos h0]
    rw [h0] at hx hk ⊢
    simp only [Nat.mul_zero, Nat.zero_add, Nat.sub_zero, Nat.mul_one] at hx ⊢
    omega
  · rw [if_neg (by omega)]
    rw [h0] at hx hk ⊢
    simp only [Nat.sub_self, Nat.mul_zero, Nat.zero_add, Nat.mul_one] at hx ⊢
    omega
end Bt
end Go.Proofs.Qxb6500342a
