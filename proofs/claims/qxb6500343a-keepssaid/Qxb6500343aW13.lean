/-
  Walks 13: Text64.
-/
import Derived.Test.Qxb6500343aW12
namespace Go.Proofs.Qxb6500343a
open Go.RowKit
open Go.Proofs
open Ieee (Datum)
open Fl
open Tx (st)
open Ff (in64)
set_option linter.unusedSimpArgs false
set_option linter.unusedVariables false
attribute [local go_sem] run_fadd run_fsub run_fmul run_fquo run_store_float alloc_drewN setCell_drewN shape?_drewN tape_alloc drawn_alloc tape_setCell drawn_setCell drawn_drewN drawn_drew

theorem xor_pow (i x : Nat) : x ^^^ 2 ^ i = if x / 2 ^ i % 2 = 0 then x + 2 ^ i else x - 2 ^ i := by
  have hx : x = 2 ^ (i + 1) * (x / 2 ^ (i + 1)) + (2 ^ i * (x / 2 ^ i % 2) + x % 2 ^ i) := by
    have h1 := Nat.div_add_mod x (2 ^ i)
    have h2 := Nat.div_add_mod (x / 2 ^ i) 2
    rw [Nat.div_div_eq_div_mul, ← Nat.pow_add_one] at h2
    have h3 : 2 ^ i * (2 * (x / 2 ^ (i + 1)) + x / 2 ^ i % 2) = 2 ^ i * (x / 2 ^ i) := by rw [h2]
    rw [Nat.mul_add, ← Nat.mul_assoc, ← Nat.pow_add_one] at h3
    omega
  have hr : x % 2 ^ i < 2 ^ i := Nat.mod_lt _ (Nat.two_pow_pos i)
  have hb : x / 2 ^ i % 2 < 2 := Nat.mod_lt _ (by decide)
  have key : ∀ b, b < 2 → (2 ^ (i + 1) * (x / 2 ^ (i + 1)) + (2 ^ i * b + x % 2 ^ i)) ^^^ 2 ^ i = 2 ^ (i + 1) * (x / 2 ^ (i + 1)) + (2 ^ i * (1 - b) + x % 2 ^ i) := by
    intro b hb
    have hl : ∀ c, c < 2 → 2 ^ i * c + x % 2 ^ i < 2 ^ (i + 1) := by
      intro c hc
      rw [Nat.pow_succ]
      have : 2 ^ i * c ≤ 2 ^ i * 1 := Nat.mul_le_mul_left _ (by omega)
      omega
    apply Nat.eq_of_testBit_eq
    intro j
    rw [Nat.testBit_xor, Nat.testBit_two_pow_mul_add _ (hl b hb), Nat.testBit_two_pow_mul_add _ hr, Nat.testBit_two_pow_mul_add _ (hl (1 - b) (by omega)), Nat.testBit_two_pow_mul_add _ hr, Nat.testBit_two_pow]
    by_cases h1 : j < i
    · have h2 : j < i + 1 := by omega
      have h3 : ¬ i = j := by omega
      simp [h1, h2, h3]
    · by_cases h4 : j = i
      · subst h4
        have : b = 0 ∨ b = 1 := by omega
        rcases this with rfl | rfl <;> simp
      · have h2 : ¬ j < i + 1 := by omega
        have h3 : ¬ i = j := by omega
        simp [h2, h3]
  have hk := key _ hb
  rw [← hx] at hk
  rw [hk]
  have : x / 2 ^ i % 2 = 0 ∨ x / 2 ^ i % 2 = 1 := by omega
  rcases this with h0 | h0
  · rw [if_pos h0]
    rw [h0] at hx hk ⊢
    simp only [Nat.mul_zero, Nat.zero_add, Nat.sub_zero, Nat.mul_one] at hx ⊢
    omega
  · rw [if_neg (by omega)]
    rw [h0] at hx hk ⊢
    simp only [Nat.sub_self, Nat.mul_zero, Nat.zero_add, Nat.mul_one] at hx ⊢
    omega
def ng : Datum → Datum
  | .nan _ _ => nanD
  | d => d.opposite
theorem V_neg (k : FloatKind) (b : Nat) : V k (Op.negFloat k b) = ng (V k b) := by
  have hsw : k.format.signWeight = 2 ^ (k.format.exponentBits + k.format.fractionBits) := rfl
  have hp : 0 < k.format.signWeight := Nat.two_pow_pos _
  have h1 : Op.negFloat k b % k.format.signWeight = b % k.format.signWeight ∧ Op.negFloat k b / k.format.signWeight % 2 = 1 - b / k.format.signWeight % 2 := by
    unfold Op.negFloat
    rw [xor_pow, ← hsw]
    generalize k.format.signWeight = W at *
    split
    · rename_i h
      refine ⟨by rw [Nat.add_mod_right], ?_⟩
      rw [Nat.add_div_right _ hp]
      omega
    · rename_i h
      have hb : W ≤ b := by
        rcases Nat.lt_or_ge b W with h' | h'
        · rw [Nat.div_eq_of_lt h'] at h; simp at h
        · exact h'
      refine ⟨(Nat.mod_eq_sub_mod hb).symm, ?_⟩
      have : b / W = (b - W) / W + 1 := by rw [← Nat.add_div_right _ hp, Nat.sub_add_cancel hb]
      omega
  have hn : (Op.negFloat k b / k.format.signWeight % 2 == 1) = !(b / k.format.signWeight % 2 == 1) := by
    rw [h1.2]
    have : b / k.format.signWeight % 2 = 0 ∨ b / k.format.signWeight % 2 = 1 := by omega
    rcases this with h | h <;> rw [h] <;> rfl
  unfold V Ieee.Format.read
  simp only
  rw [h1.1, hn]
  generalize b % k.format.signWeight = r
  generalize (b / k.format.signWeight % 2 == 1) = s
  split
  · rfl
  · split
    · rfl
    · split <;> rfl
theorem run_fneg {P : Program} (w : World) (k : FloatKind) (b : Nat) : (Op.unary .neg (.float k b)).run P w = .ok (.float k (Op.negFloat k b)) w := rfl
attribute [local go_sem] run_fneg
def one64 : Datum := V .f64 4607182418800017408
def two64 : Datum := V .f64 4611686018427387904
def p52 : Datum := V .f64 4841369599423283200
/-- Halved while it is two or more, at most f times. -/
def half : Nat → Datum → Int → Datum × Int
  | 0, x, e => (x, e)
  | f + 1, x, e => if ge x two64 then half f (div .f64 x two64) (e + 1) else (x, e)
def dbl : Nat → Datum → Int → Datum × Int
  | 0, x, e => (x, e)
  | f + 1, x, e => if lt x one64 then dbl f (mul .f64 x two64) (e - 1) else (x, e)
def body (sg : List Nat) (y : Datum) : List Nat :=
  if eq (add .f64 y y) y then sg ++ [73, 110, 102]
  else
    let a := half 1100 y (-52)
    let b := dbl 1100 a.1 a.2
    if ge b.1 one64 && lt b.1 two64 then sg ++ Tx.itoa (Pl.toI (mul .f64 b.1 p52)) ++ [112] ++ Tx.itoa b.2 else sg ++ [63]
/-- The text of a float64. -/
def text (d : Datum) : List Nat :=
  if eq d d then
    if eq d Pl.zero64 then (if lt (div .f64 one64 d) Pl.zero64 then [45, 48] else [43, 48])
    else if lt d Pl.zero64 then body [45] (ng d) else body [43] d
  else [78, 97, 78]
theorem z64 : Pl.zero64 = .number false 0 (-1074) := by decide +kernel
theorem o64 : one64 = .number false 4503599627370496 (-52) := by decide +kernel
theorem t64 : two64 = .number false 4503599627370496 (-51) := by decide +kernel
theorem p64 : p52 = .number false 4503599627370496 0 := by decide +kernel
theorem digits_ok {y : Datum} (h1 : ge y one64 = true) (h2 : lt y two64 = true) : Pl.intOk (mul .f64 y p52) = true := by
  have hc : ∀ a b : Datum, mul .f64 a b = mul .f64 b a := by
    intro a b
    unfold mul
    congr 1
    cases a <;> cases b <;> simp [Datum.product, Bool.xor_comm, Nat.mul_comm, Int.add_comm]
  rw [hc, p64]
  have hz : ge y (.number false 0 (-52)) = true := by
    rw [o64] at h1
    unfold ge at h1 ⊢
    simp only [Bool.or_eq_true, beq_iff_eq] at h1 ⊢
    cases y with
    | nan s t => simp [Datum.order] at h1
    | infinity s => cases s <;> simp [Datum.order] at h1 ⊢
    | number s m e =>
      unfold Datum.order at h1 ⊢
      simp only [Option.some.injEq, Ieee.signed, Bool.false_eq_true, if_false, Nat.zero_shiftLeft] at h1 ⊢
      have hp : (0 : Int) < ((4503599627370496 <<< ((-52 : Int) - min e (-52)).toNat : Nat) : Int) := by
        rw [Nat.shiftLeft_eq]
        have := Nat.two_pow_pos ((-52 : Int) - min e (-52)).toNat
        have : 0 < 4503599627370496 * 2 ^ ((-52 : Int) - min e (-52)).toNat := Nat.mul_pos (by decide) this
        exact_mod_cast this
      generalize ((4503599627370496 <<< ((-52 : Int) - min e (-52)).toNat : Nat) : Int) = P at *
      generalize (if s = true then -((m <<< (e - min e (-52)).toNat : Nat) : Int) else ((m <<< (e - min e (-52)).toNat : Nat) : Int)) = x at *
      left
      rw [Int.compare_eq_gt]
      rcases h1 with h | h
      · have := Int.compare_eq_gt.1 h; omega
      · have := Int.compare_eq_eq.1 h; omega
  have hg : y.order (.number false 4503599627370496 (-51)) ≠ some .gt := by
    rw [t64] at h2
    unfold lt at h2
    simp only [beq_iff_eq] at h2
    rw [h2]
    decide
  obtain ⟨b, hn⟩ := Ff.between_Bd hz hg
  have hl : (4503599627370496 : Nat).log2 = 52 := by decide +kernel
  rw [hl] at b
  refine Ff.mul_ok .f64 b hn ?_ ?_ ?_ <;> rw [hl] <;> decide
theorem half_e : ∀ f x e, (half f x e).2 ≤ e + f ∧ e ≤ (half f x e).2
  | 0, x, e => by simp [half]
  | f + 1, x, e => by
    unfold half
    split
    · have := half_e f (div .f64 x two64) (e + 1); omega
    · simp; omega
theorem dbl_e : ∀ f x e, (dbl f x e).2 ≤ e ∧ e - f ≤ (dbl f x e).2
  | 0, x, e => by simp [dbl]
  | f + 1, x, e => by
    unfold dbl
    split
    · have := dbl_e f (mul .f64 x two64) (e - 1); omega
    · simp; omega
theorem toI_64 {d : Datum} (h : Pl.intOk d = true) : in64 (Pl.toI d) := by
  unfold Pl.intOk at h
  unfold Pl.toI
  cases hd : d.toInt .zero with
  | none => rw [hd] at h; simp at h
  | some n =>
    rw [hd] at h
    simp only [Bool.and_eq_true, decide_eq_true_eq] at h
    have h1 : IntKind.i64.min = -9223372036854775808 := rfl
    have h2 : IntKind.i64.max = 9223372036854775807 := rfl
    rw [h1, h2] at h
    exact h
end Go.Proofs.Qxb6500343a
