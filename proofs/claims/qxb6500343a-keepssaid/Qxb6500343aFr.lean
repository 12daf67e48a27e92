/-
  Plain facts of arithmetic: differences, quotients, the cell, the ends.
-/
import Derived.Test.Qxb6500343aFq
namespace Go.Proofs.Qxb6500343a
open Go.RowKit
open Go.Proofs
open Ieee (Datum Format Toward)
open Fl
open Tx (st)
open Ff (in64)
set_option linter.unusedSimpArgs false
set_option linter.unusedVariables false
attribute [local go_sem] run_fadd run_fsub run_fmul run_fquo run_store_float alloc_drewN setCell_drewN shape?_drewN tape_alloc drawn_alloc tape_setCell drawn_setCell drawn_drewN drawn_drew run_fneg

namespace Kf
open Ff
open Pl (minL maxL axis_lv minmax clamp)
theorem signed_not (s : Bool) (m u : Nat) : Ieee.signed (!s) m u = -Ieee.signed s m u := by
  unfold Ieee.signed; cases s <;> simp
theorem signed_abs (T : Int) (sg : Bool) (h : T ≠ 0 → sg = decide (T < 0)) (u : Nat) : Ieee.signed sg T.natAbs u = T * 2 ^ u := by
  have key : Ieee.signed sg T.natAbs 0 = T := by
    unfold Ieee.signed
    rw [Nat.shiftLeft_zero]
    by_cases h0 : T = 0
    · subst h0; simp
    · rw [h h0]
      by_cases hn : T < 0
      · simp only [hn, decide_true, if_true]; omega
      · simp only [hn, decide_false, Bool.false_eq_true, if_false]; omega
  have := signed_shift sg T.natAbs 0 u
  rw [Nat.zero_add, key] at this
  exact this
theorem sub_num (s t : Bool) (m n : Nat) (i j : Int) : ∃ sg T, sub .f32 (.number s m i) (.number t n j) = rd .f32 (.number sg (Int.natAbs T) (min i j)) ∧ (T ≠ 0 → sg = decide (T < 0)) ∧ T = Ieee.signed s m (i - min i j).toNat - Ieee.signed t n (j - min i j).toNat := by
  refine ⟨_, Ieee.signed s m (i - min i j).toNat + Ieee.signed (!t) n (j - min i j).toNat, rfl, ?_, ?_⟩
  · intro h; rw [if_neg h]
  · rw [signed_not]; omega
/-- The difference's sign and size at any base. -/
theorem diff_at {s t : Bool} {m n : Nat} {i j : Int} {sg : Bool} {T : Int} (h : T ≠ 0 → sg = decide (T < 0)) (hT : T = Ieee.signed s m (i - min i j).toNat - Ieee.signed t n (j - min i j).toNat) {b : Int} (hb : b ≤ min i j) :
    Ieee.signed sg T.natAbs (min i j - b).toNat = Ieee.signed s m (i - b).toNat - Ieee.signed t n (j - b).toNat := by
  rw [signed_abs T sg h, hT, Int.sub_mul, ← signed_shift, ← signed_shift]
  congr 2 <;> omega
theorem sub_mono {s t u : Bool} {m n l : Nat} {i j q : Int} (h : Le (.number s m i) (.number t n j)) : Le (sub .f32 (.number s m i) (.number u l q)) (sub .f32 (.number t n j) (.number u l q)) := by
  obtain ⟨s1, T1, e1, g1, d1⟩ := sub_num s u m l i q
  obtain ⟨s2, T2, e2, g2, d2⟩ := sub_num t u n l j q
  rw [e1, e2]
  refine ⟨rd_num _ _ _ _, rd_num _ _ _ _, rd_mono .f32 _ _ _ _ _ _ ?_⟩
  refine (order_not_gt (b := min (min i q) (min j q)) (by omega) (by omega)).2 ?_
  rw [diff_at g1 d1 (by omega), diff_at g2 d2 (by omega)]
  have := (order_not_gt (b := min (min i q) (min j q)) (by omega) (by omega)).1 h.2.2
  omega
theorem sub_self (u : Bool) (l : Nat) (q : Int) : sub .f32 (.number u l q) (.number u l q) = Pl.zero32 := by
  have h : sub .f32 (.number u l q) (.number u l q) = rd .f32 (.number false 0 (min q q)) := by
    have e : Ieee.signed u l (q - min q q).toNat + Ieee.signed (!u) l (q - min q q).toNat = 0 := by rw [signed_not]; omega
    show rd .f32 (.number (if Ieee.signed u l (q - min q q).toNat + Ieee.signed (!u) l (q - min q q).toNat = 0 then u && !u else _) (Int.natAbs (Ieee.signed u l (q - min q q).toNat + Ieee.signed (!u) l (q - min q q).toNat)) _) = _
    rw [if_pos e, e]
    cases u <;> rfl
  rw [h, rd_zero, z32]
  rfl
/-- Equal points have one difference, where that is above zero. -/
theorem sub_congr {s t u : Bool} {m n l : Nat} {i j q : Int} (h1 : Le (.number s m i) (.number t n j)) (h2 : Le (.number t n j) (.number s m i)) (hw : gt (sub .f32 (.number t n j) (.number u l q)) Pl.zero32 = true) :
    sub .f32 (.number s m i) (.number u l q) = sub .f32 (.number t n j) (.number u l q) := by
  obtain ⟨s1, T1, e1, g1, d1⟩ := sub_num s u m l i q
  obtain ⟨s2, T2, e2, g2, d2⟩ := sub_num t u n l j q
  rw [e2] at hw
  rw [e1, e2]
  have hb1 : min (min i q) (min j q) ≤ min i q := by omega
  have hb2 : min (min i q) (min j q) ≤ min j q := by omega
  generalize hbb : min (min i q) (min j q) = b at *
  have a1 := (order_not_gt (b := b) (by omega) (by omega)).1 h1.2.2
  have a2 := (order_not_gt (b := b) (by omega) (by omega)).1 h2.2.2
  have f1 := diff_at g1 d1 hb1
  have f2 := diff_at g2 d2 hb2
  have hv : Ieee.signed s1 T1.natAbs (min i q - b).toNat = Ieee.signed s2 T2.natAbs (min j q - b).toNat := by rw [f1, f2]; omega
  have hT2 : T2 ≠ 0 := by
    rintro rfl
    rw [show (Int.natAbs 0) = 0 from rfl, rd_zero] at hw
    cases s2 <;> exact absurd hw (by decide +kernel)
  rw [signed_abs T1 s1 g1, signed_abs T2 s2 g2] at hv
  have p1 : (0 : Int) < 2 ^ (min i q - b).toNat := Int.pow_pos (by decide)
  have p2 : (0 : Int) < 2 ^ (min j q - b).toNat := Int.pow_pos (by decide)
  have hT1 : T1 ≠ 0 := by
    rintro rfl
    rw [Int.zero_mul] at hv
    rcases Int.mul_eq_zero.1 hv.symm with h | h
    · exact hT2 h
    · omega
  have hsg : s1 = s2 := by
    rw [g1 hT1, g2 hT2]
    by_cases n1 : T1 < 0
    · have : T1 * 2 ^ (min i q - b).toNat < 0 := Int.mul_neg_of_neg_of_pos n1 p1
      have : T2 < 0 := by
        rcases Int.lt_trichotomy T2 0 with h | h | h
        · exact h
        · exact absurd h hT2
        · have := Int.mul_pos h p2; omega
      simp [n1, this]
    · have h0 : 0 < T1 := by omega
      have := Int.mul_pos h0 p1
      have : ¬ T2 < 0 := by
        intro h
        have := Int.mul_neg_of_neg_of_pos h p2
        omega
      simp [n1, this]
  rw [hsg, rd_number, rd_number, rung_congr FloatKind.f32.format (b := b) hb1 hb2 ?_]
  have := congrArg Int.natAbs hv
  rw [Int.natAbs_mul, Int.natAbs_mul, Int.natAbs_pow, Int.natAbs_pow] at this
  exact this
/-- By itself: one. -/
theorem div_self {n : Nat} {j : Int} (h : n ≠ 0) : div .f32 (.number false n j) (.number false n j) = Pl.one32 := by
  have hd : (n <<< (FloatKind.f32.format.fractionBits + 2 + n.log2 - n.log2)) = n * 2 ^ 25 := by
    rw [Nat.shiftLeft_eq, Nat.add_sub_cancel]; rfl
  have e : div .f32 (.number false n j) (.number false n j) = rd .f32 (.number false 67108864 (-26)) := by
    unfold div Datum.quotient
    simp only
    rw [if_neg h, hd, Nat.mul_div_cancel_left _ (Nat.pos_of_ne_zero h), Nat.mul_mod_right]
    unfold ar
    simp only
    congr 2
    rw [Nat.add_sub_cancel]
    show j - j - ((23 + 2 : Nat) : Int) - 1 = -26
    omega
  rw [e]
  decide +kernel
theorem div_zero (s : Bool) (e : Int) {n : Nat} {j : Int} (h : n ≠ 0) : div .f32 (.number s 0 e) (.number false n j) = .number s 0 (-149) := by
  unfold div Datum.quotient
  simp only
  rw [if_neg h, Nat.zero_shiftLeft, Nat.zero_div, Nat.zero_mod]
  unfold ar
  simp only
  rw [show (s ^^ false) = s from by cases s <;> rfl]
  exact rd_zero .f32 s _
theorem neg_is_zero {s : Bool} {m : Nat} {e : Int} (h : Le Pl.zero32 (.number s m e)) : s = true → m = 0 := by
  rintro rfl
  rw [z32] at h
  have := (order_not_gt (b := min (-149) e) (by omega) (by omega)).1 h.2.2
  unfold Ieee.signed at this
  simp only [Bool.false_eq_true, if_false, if_true, Nat.zero_shiftLeft] at this
  rw [Nat.shiftLeft_eq] at this
  have h0 : m * 2 ^ (e - min (-149) e).toNat = 0 := by omega
  rcases Nat.mul_eq_zero.1 h0 with h | h
  · exact h
  · exact absurd h (Nat.ne_of_gt (Nat.two_pow_pos _))
theorem zero_le_rd {s : Bool} {m : Nat} {e : Int} (h : s = true → m = 0) : Le Pl.zero32 (rd .f32 (.number s m e)) := by
  have hz : rd .f32 (.number false 0 (-149)) = Pl.zero32 := by rw [rd_zero, z32]; rfl
  refine ⟨by decide +kernel, rd_num _ _ _ _, ?_⟩
  rw [← hz]
  refine rd_mono .f32 _ _ _ _ _ _ ((order_not_gt (b := min (-149) e) (by omega) (by omega)).2 ?_)
  unfold Ieee.signed
  simp only [Bool.false_eq_true, if_false, Nat.zero_shiftLeft]
  cases s
  · simp only [Bool.false_eq_true, if_false]
    generalize m <<< (e - min (-149) e).toNat = q
    omega
  · rw [h rfl]; simp
theorem quo_le {m n : Nat} {i j : Int} (hm : m ≠ 0) (hn : n ≠ 0) (h : m * 2 ^ (i - min i j).toNat ≤ n * 2 ^ (j - min i j).toNat) :
    ∃ E : Nat, (25 + n.log2 - m.log2 : Nat) + j - i = (E : Int) ∧ 2 * ((m <<< (25 + n.log2 - m.log2)) / n) + ((m <<< (25 + n.log2 - m.log2)) % n != 0).toNat ≤ 2 ^ (E + 1) := by
  generalize hmo : 25 + n.log2 - m.log2 = mo
  have a1 : 2 ^ m.log2 ≤ m := Nat.log2_self_le hm
  have a2 : n < 2 ^ (n.log2 + 1) := Nat.lt_log2_self
  have hD : n < m * 2 ^ mo := by
    calc n < 2 ^ (n.log2 + 1) := a2
      _ ≤ 2 ^ (m.log2 + mo) := Nat.pow_le_pow_right (by decide) (by omega)
      _ = 2 ^ m.log2 * 2 ^ mo := Nat.pow_add _ _ _
      _ ≤ m * 2 ^ mo := Nat.mul_le_mul_right _ a1
  have hE : 0 ≤ (mo : Int) + j - i := by
    by_cases hE : 0 ≤ (mo : Int) + j - i
    · exact hE
    · exfalso
      rw [show min i j = j from by omega, show (j - j).toNat = 0 from by omega, Nat.pow_zero, Nat.mul_one] at h
      have : m * 2 ^ mo ≤ m * 2 ^ (i - j).toNat := Nat.mul_le_mul_left _ (Nat.pow_le_pow_right (by decide) (by omega))
      omega
  refine ⟨((mo : Int) + j - i).toNat, by omega, ?_⟩
  generalize hEE : ((mo : Int) + j - i).toNat = E
  rw [Nat.shiftLeft_eq]
  have hDE : m * 2 ^ mo ≤ n * 2 ^ E := by
    by_cases hij : j ≤ i
    · rw [show min i j = j from by omega, show (j - j).toNat = 0 from by omega, Nat.pow_zero, Nat.mul_one] at h
      have : m * 2 ^ mo = m * 2 ^ (i - j).toNat * 2 ^ E := by rw [Nat.mul_assoc, ← Nat.pow_add]; congr 2; omega
      rw [this]
      exact Nat.mul_le_mul_right _ h
    · rw [show min i j = i from by omega, show (i - i).toNat = 0 from by omega, Nat.pow_zero, Nat.mul_one] at h
      have : n * 2 ^ E = n * 2 ^ (j - i).toNat * 2 ^ mo := by rw [Nat.mul_assoc, ← Nat.pow_add]; congr 2; omega
      rw [this]
      exact Nat.mul_le_mul_right _ h
  generalize m * 2 ^ mo = D at *
  have hq : D / n ≤ 2 ^ E := Nat.div_le_of_le_mul hDE
  rw [Nat.pow_succ]
  have hdm := Nat.div_add_mod D n
  by_cases hr : D % n = 0
  · rw [hr]; simp; omega
  · have h1 : (D % n != 0) = true := by simpa using hr
    rw [h1]
    have : D / n ≠ 2 ^ E := by
      intro e
      rw [e] at hdm
      omega
    simp
    omega
/-- The quotient of what lies between nothing and the divisor. -/
theorem div_unit {d : Datum} {n : Nat} {j : Int} (hn : n ≠ 0) (h0 : Le Pl.zero32 d) (h1 : Le d (.number false n j)) : Le Pl.zero32 (div .f32 d (.number false n j)) ∧ Le (div .f32 d (.number false n j)) Pl.one32 := by
  cases d with
  | nan s t => exact absurd h0.2.1 (by simp [Datum.isNaN])
  | infinity s =>
    cases s
    · exact absurd rfl h1.2.2
    · rw [z32] at h0; exact absurd rfl h0.2.2
  | number s m i =>
    have hz := neg_is_zero h0
    by_cases hm : m = 0
    · subst hm
      rw [div_zero s i hn]
      cases s <;> exact ⟨⟨by decide +kernel, by decide +kernel, by decide +kernel⟩, ⟨by decide +kernel, by decide +kernel, by decide +kernel⟩⟩
    · have hs : s = false := by
        cases s
        · rfl
        · exact absurd (hz rfl) hm
      subst hs
      have h2 := (order_not_gt (b := min i j) (by omega) (by omega)).1 h1.2.2
      unfold Ieee.signed at h2
      simp only [Bool.false_eq_true, if_false] at h2
      rw [Nat.shiftLeft_eq, Nat.shiftLeft_eq] at h2
      obtain ⟨E, hE, hq⟩ := quo_le (i := i) (j := j) hm hn (by omega)
      have e : div .f32 (.number false m i) (.number false n j) = rd .f32 (.number false (2 * ((m <<< (25 + n.log2 - m.log2)) / n) + ((m <<< (25 + n.log2 - m.log2)) % n != 0).toNat) (i - j - (25 + n.log2 - m.log2 : Nat) - 1)) := by
        unfold div Datum.quotient
        simp only
        rw [if_neg hn]
        rfl
      rw [e]
      generalize 2 * ((m <<< (25 + n.log2 - m.log2)) / n) + ((m <<< (25 + n.log2 - m.log2)) % n != 0).toNat = Q at *
      refine ⟨zero_le_rd (fun h => by cases h), rd_num _ _ _ _, by decide +kernel, ?_⟩
      have ho : rd .f32 (.number false 8388608 (-23)) = Pl.one32 := by decide +kernel
      rw [← ho]
      refine rd_mono .f32 _ _ _ _ _ _ ((order_not_gt (b := min (-(E : Int) - 1) (-23)) (by omega) (by omega)).2 ?_)
      rw [show i - j - ((25 + n.log2 - m.log2 : Nat) : Int) - 1 = -(E : Int) - 1 from by omega]
      unfold Ieee.signed
      simp only [Bool.false_eq_true, if_false]
      rw [Nat.shiftLeft_eq, Nat.shiftLeft_eq]
      generalize hb : min (-(E : Int) - 1) (-23) = b
      have p1 : Q * 2 ^ (-(E : Int) - 1 - b).toNat ≤ 2 ^ (E + 1) * 2 ^ (-(E : Int) - 1 - b).toNat := Nat.mul_le_mul_right _ hq
      have p2 : 2 ^ (E + 1) * 2 ^ (-(E : Int) - 1 - b).toNat = 8388608 * 2 ^ (-23 - b).toNat := by
        rw [show (8388608 : Nat) = 2 ^ 23 from by decide, ← Nat.pow_add, ← Nat.pow_add]
        congr 1
        omega
      omega
/-- Four times what lies in the unit. -/
theorem four_unit {f : Datum} (h0 : Le Pl.zero32 f) (h1 : Le f Pl.one32) : Le Pl.zero32 (mul .f32 Pl.four32 f) ∧ Le (mul .f32 Pl.four32 f) Pl.four32 := by
  rw [o32] at h1
  cases f with
  | nan s t => exact absurd h0.2.1 (by simp [Datum.isNaN])
  | infinity s =>
    cases s
    · exact absurd rfl h1.2.2
    · rw [z32] at h0; exact absurd rfl h0.2.2
  | number s m e =>
    have hz := neg_is_zero h0
    have em : mul .f32 Pl.four32 (.number s m e) = rd .f32 (.number s (8388608 * m) (-21 + e)) := by
      rw [f32]
      show rd .f32 (.number (false ^^ s) (8388608 * m) (-21 + e)) = _
      cases s <;> rfl
    rw [em]
    refine ⟨zero_le_rd (fun h => by rw [hz h]), rd_num _ _ _ _, by decide +kernel, ?_⟩
    have ho : rd .f32 (.number false 8388608 (-21)) = Pl.four32 := by decide +kernel
    rw [← ho]
    refine rd_mono .f32 _ _ _ _ _ _ ((order_not_gt (b := min e (-23) - 21) (by omega) (by omega)).2 ?_)
    cases s
    · have h2 := (order_not_gt (b := min e (-23)) (by omega) (by omega)).1 h1.2.2
      unfold Ieee.signed at h2 ⊢
      simp only [Bool.false_eq_true, if_false] at h2 ⊢
      rw [Nat.shiftLeft_eq, Nat.shiftLeft_eq] at h2 ⊢
      rw [show (-21 + e - (min e (-23) - 21)).toNat = (e - min e (-23)).toNat from by omega, show (-21 - (min e (-23) - 21)).toNat = 23 + (-23 - min e (-23)).toNat from by omega, Nat.pow_add, Nat.mul_assoc]
      generalize m * 2 ^ (e - min e (-23)).toNat = x at *
      generalize 2 ^ (-23 - min e (-23)).toNat = y at *
      rw [show (2 : Nat) ^ 23 = 8388608 from by decide]
      omega
    · rw [hz rfl]
      unfold Ieee.signed
      simp only [Bool.false_eq_true, if_false, if_true, Nat.mul_zero, Nat.zero_shiftLeft]
      generalize 8388608 <<< (-21 - (min e (-23) - 21)).toNat = q
      omega
theorem toI_pos (m : Nat) (e : Int) : Pl.toI (.number false m e) = ((m <<< e.toNat) / 2 ^ (-e).toNat : Nat) := by
  unfold Pl.toI Datum.toInt Datum.integral
  simp only [Option.getD_some]
  unfold Ieee.signed
  simp only [Bool.false_eq_true, if_false, Nat.shiftLeft_zero]
  congr 1
  unfold Toward.cut
  simp only [Bool.toNat_false, Nat.add_zero]
  rw [Nat.shiftLeft_eq 1, Nat.one_mul]
  by_cases hd : (-e).toNat ≤ (m <<< e.toNat).log2 + 2
  · rw [Nat.min_eq_left hd]
  · rw [Nat.min_eq_right (by omega)]
    have h1 : m <<< e.toNat < 2 ^ ((m <<< e.toNat).log2 + 1) := Nat.lt_log2_self
    have h2 : 2 ^ ((m <<< e.toNat).log2 + 1) ≤ 2 ^ ((m <<< e.toNat).log2 + 2) := Nat.pow_le_pow_right (by decide) (by omega)
    have h3 : 2 ^ ((m <<< e.toNat).log2 + 2) ≤ 2 ^ (-e).toNat := Nat.pow_le_pow_right (by decide) (by omega)
    rw [Nat.div_eq_of_lt (by omega), Nat.div_eq_of_lt (by omega)]
theorem toI_zero (s : Bool) (e : Int) : Pl.toI (.number s 0 e) = 0 := by
  cases s
  · rw [toI_pos]; simp
  · unfold Pl.toI Datum.toInt Datum.integral
    simp only [Option.getD_some]
    rw [Nat.zero_shiftLeft]
    have : Toward.zero.cut true 0 (-e).toNat = 0 := by
      unfold Toward.cut
      simp
    rw [this]
    rfl
theorem toI_range {x : Datum} (h0 : Le Pl.zero32 x) (h1 : Le x Pl.four32) : 0 ≤ Pl.toI x ∧ Pl.toI x ≤ 4 := by
  rw [f32] at h1
  cases x with
  | nan s t => exact absurd h0.2.1 (by simp [Datum.isNaN])
  | infinity s =>
    cases s
    · exact absurd rfl h1.2.2
    · rw [z32] at h0; exact absurd rfl h0.2.2
  | number s m e =>
    have hz := neg_is_zero h0
    cases s
    · rw [toI_pos]
      refine ⟨Int.natCast_nonneg _, ?_⟩
      have h2 := (order_not_gt (b := min e (-21)) (by omega) (by omega)).1 h1.2.2
      unfold Ieee.signed at h2
      simp only [Bool.false_eq_true, if_false] at h2
      rw [Nat.shiftLeft_eq, Nat.shiftLeft_eq] at h2
      have h3 : m * 2 ^ (e - min e (-21)).toNat ≤ 8388608 * 2 ^ (-21 - min e (-21)).toNat := by omega
      suffices hh : (m <<< e.toNat) / 2 ^ (-e).toNat ≤ 4 by omega
      rw [Nat.shiftLeft_eq]
      refine Nat.div_le_of_le_mul ?_
      generalize hb : min e (-21) = b at *
      have p : 0 < 2 ^ (-b + e - e.toNat).toNat := Nat.two_pow_pos _
      have h4 : m * 2 ^ e.toNat * 2 ^ (e - b - e.toNat).toNat = m * 2 ^ (e - b).toNat := by
        rw [Nat.mul_assoc, ← Nat.pow_add]; congr 2; omega
      have h5 : 2 ^ (-e).toNat * 4 * 2 ^ (e - b - e.toNat).toNat = 8388608 * 2 ^ (-21 - b).toNat := by
        rw [show (4 : Nat) = 2 ^ 2 from by decide, show (8388608 : Nat) = 2 ^ 23 from by decide, ← Nat.pow_add, ← Nat.pow_add, ← Nat.pow_add]
        congr 1
        omega
      have p' : 0 < 2 ^ (e - b - e.toNat).toNat := Nat.two_pow_pos _
      refine Nat.le_of_mul_le_mul_right ?_ p'
      rw [h4, h5]
      exact h3
    · rw [hz rfl, toI_zero]; exact ⟨by omega, by omega⟩
theorem cell4_range {f : Datum} (h0 : Le Pl.zero32 f) (h1 : Le f Pl.one32) : 0 ≤ Pl.cell4 f ∧ Pl.cell4 f ≤ 3 := by
  obtain ⟨a, b⟩ := four_unit h0 h1
  have := toI_range a b
  unfold Pl.cell4
  simp only
  split <;> omega
theorem cell4_zero (s : Bool) (e : Int) : Pl.cell4 (.number s 0 e) = 0 := by
  have em : mul .f32 Pl.four32 (.number s 0 e) = .number s 0 (-149) := by
    rw [f32]
    show rd .f32 (.number (false ^^ s) (8388608 * 0) (-21 + e)) = _
    rw [Nat.mul_zero, rd_zero]
    cases s <;> rfl
  unfold Pl.cell4
  simp only
  rw [em, toI_zero]
  rfl
theorem cell4_one : Pl.cell4 Pl.one32 = 3 := by decide +kernel
end Kf
end Go.Proofs.Qxb6500343a
