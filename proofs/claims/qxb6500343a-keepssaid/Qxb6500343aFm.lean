/-
  Rounding never reverses an order.
-/
import Derived.Test.Qxb6500343aFg
namespace Go.Proofs.Qxb6500343a
open Go.RowKit
open Ieee (Datum Format Toward)
namespace Ff
open Fl

/-- A / 2 ^ D to the nearest, ties to even. -/
def rne (A D : Nat) : Nat := A / 2 ^ D + (decide (2 ^ D < 2 * (A % 2 ^ D)) || (2 ^ D == 2 * (A % 2 ^ D) && A / 2 ^ D % 2 == 1)).toNat
theorem cut_rne (n drop : Nat) : Toward.even.cut false n drop = rne n drop := by
  unfold Toward.cut rne
  simp only
  rw [Nat.shiftLeft_eq, Nat.one_mul]
  by_cases h : drop ≤ n.log2 + 2
  · rw [Nat.min_eq_left h]
  · rw [Nat.min_eq_right (by omega)]
    have h1 : n < 2 ^ (n.log2 + 1) := Nat.lt_log2_self
    have h2 : 2 * n < 2 ^ (n.log2 + 2) := by rw [Nat.pow_succ]; omega
    have h3 : 2 ^ (n.log2 + 2) ≤ 2 ^ drop := Nat.pow_le_pow_right (by decide) (by omega)
    rw [Nat.div_eq_of_lt (by omega : n < 2 ^ (n.log2 + 2)), Nat.div_eq_of_lt (by omega : n < 2 ^ drop), Nat.mod_eq_of_lt (by omega : n < 2 ^ (n.log2 + 2)), Nat.mod_eq_of_lt (by omega : n < 2 ^ drop)]
    simp only [show decide (2 ^ (n.log2 + 2) < 2 * n) = false from decide_eq_false (by omega), show decide (2 ^ drop < 2 * n) = false from decide_eq_false (by omega), Nat.zero_mod]
    simp
theorem rne_scale (A D c : Nat) : rne (A * 2 ^ c) (D + c) = rne A D := by
  unfold rne
  have hc : 0 < 2 ^ c := Nat.two_pow_pos c
  rw [Nat.pow_add, Nat.mul_div_mul_right _ _ hc, Nat.mul_mod_mul_right]
  have e1 : decide (2 ^ D * 2 ^ c < 2 * (A % 2 ^ D * 2 ^ c)) = decide (2 ^ D < 2 * (A % 2 ^ D)) := by
    rw [← Nat.mul_assoc]
    exact decide_eq_decide.2 ⟨fun h => Nat.lt_of_mul_lt_mul_right h, fun h => Nat.mul_lt_mul_of_pos_right h hc⟩
  have e2 : (2 ^ D * 2 ^ c == 2 * (A % 2 ^ D * 2 ^ c)) = (2 ^ D == 2 * (A % 2 ^ D)) := by
    rw [← Nat.mul_assoc, Bool.eq_iff_iff, beq_iff_eq, beq_iff_eq]
    exact ⟨fun h => Nat.eq_of_mul_eq_mul_right hc h, fun h => congrArg (· * 2 ^ c) h⟩
  rw [e1, e2]
theorem rne_mono {A B : Nat} (D : Nat) (h : A ≤ B) : rne A D ≤ rne B D := by
  have hq : A / 2 ^ D ≤ B / 2 ^ D := Nat.div_le_div_right h
  have hb : ∀ b : Bool, b.toNat ≤ 1 := by decide
  unfold rne
  by_cases he : A / 2 ^ D = B / 2 ^ D
  · have h1 := Nat.div_add_mod A (2 ^ D)
    have h2 := Nat.div_add_mod B (2 ^ D)
    rw [he] at h1 ⊢
    have hr : A % 2 ^ D ≤ B % 2 ^ D := by omega
    generalize A % 2 ^ D = r at *
    generalize B % 2 ^ D = t at *
    generalize B / 2 ^ D = q at *
    generalize 2 ^ D = P at *
    apply Nat.add_le_add_left
    by_cases hm : (decide (P < 2 * r) || (P == 2 * r && q % 2 == 1)) = true
    · have : (decide (P < 2 * t) || (P == 2 * t && q % 2 == 1)) = true := by
        simp only [Bool.or_eq_true, decide_eq_true_eq, Bool.and_eq_true, beq_iff_eq] at hm ⊢
        omega
      rw [hm, this]
      exact Nat.le_refl _
    · rw [Bool.not_eq_true] at hm
      rw [hm]
      exact Nat.zero_le _
  · have := hb (decide (2 ^ D < 2 * (A % 2 ^ D)) || (2 ^ D == 2 * (A % 2 ^ D) && A / 2 ^ D % 2 == 1))
    generalize (decide (2 ^ D < 2 * (A % 2 ^ D)) || (2 ^ D == 2 * (A % 2 ^ D) && A / 2 ^ D % 2 == 1)).toNat = x at *
    omega
/-- What is kept, at a common base. -/
theorem kept_rne (m : Nat) (i L b : Int) (hi : b ≤ i) (hL : b ≤ L) : Toward.even.cut false (m <<< (i - L).toNat) (L - i).toNat = rne (m * 2 ^ (i - b).toNat) (L - b).toNat := by
  rw [cut_rne, Nat.shiftLeft_eq]
  by_cases h : L ≤ i
  · rw [show (L - i).toNat = 0 from by omega, show (i - b).toNat = (i - L).toNat + (L - b).toNat from by omega, Nat.pow_add, ← Nat.mul_assoc]
    have := rne_scale (m * 2 ^ (i - L).toNat) 0 (L - b).toNat
    rw [Nat.zero_add] at this
    exact this.symm
  · rw [show (i - L).toNat = 0 from by omega, Nat.pow_zero, Nat.mul_one, show (L - b).toNat = (L - i).toNat + (i - b).toNat from by omega]
    exact (rne_scale m (L - i).toNat (i - b).toNat).symm
theorem rung_mono (f : Format) {m n : Nat} {i j b : Int} (hi : b ≤ i) (hj : b ≤ j) (h : m * 2 ^ (i - b).toNat ≤ n * 2 ^ (j - b).toNat) : rung f m i ≤ rung f n j := by
  by_cases hm : m = 0
  · unfold rung; rw [if_pos hm]; exact Nat.zero_le _
  have hn : n ≠ 0 := by
    rintro rfl
    rw [Nat.zero_mul, Nat.le_zero] at h
    rcases Nat.mul_eq_zero.1 h with h | h
    · exact hm h
    · exact absurd h (Nat.ne_of_gt (Nat.two_pow_pos _))
  have hE : i + m.log2 ≤ j + n.log2 := by
    have := shl_log (a := (i - b).toNat) (b := (j - b).toNat) hm (by rw [Nat.shiftLeft_eq, Nat.shiftLeft_eq]; exact h)
    omega
  unfold rung
  rw [if_neg hm, if_neg hn]
  generalize hl1 : max (i + m.log2 - f.fractionBits) f.leastPlace = L1
  generalize hl2 : max (j + n.log2 - f.fractionBits) f.leastPlace = L2
  suffices hs : (L1 - f.leastPlace).toNat * f.binade + Toward.even.cut false (m <<< (i - L1).toNat) (L1 - i).toNat ≤ (L2 - f.leastPlace).toNat * f.binade + Toward.even.cut false (n <<< (j - L2).toNat) (L2 - j).toNat by omega
  by_cases hL : L1 = L2
  · subst hL
    apply Nat.add_le_add_left
    rw [kept_rne m i L1 (min b L1) (by omega) (by omega), kept_rne n j L1 (min b L1) (by omega) (by omega)]
    apply rne_mono
    have e1 : (i - min b L1).toNat = (i - b).toNat + (b - min b L1).toNat := by omega
    have e2 : (j - min b L1).toNat = (j - b).toNat + (b - min b L1).toNat := by omega
    rw [e1, e2, Nat.pow_add, Nat.pow_add, ← Nat.mul_assoc, ← Nat.mul_assoc]
    exact Nat.mul_le_mul_right _ h
  · have h1 := (cut_le .even false (m <<< (i - L1).toNat) (L1 - i).toNat).2
    have h2 : (m <<< (i - L1).toNat) / 2 ^ (L1 - i).toNat < 2 ^ (f.fractionBits + 1) := units_lt (by omega)
    have h3 := (cut_le .even false (n <<< (j - L2).toNat) (L2 - j).toNat).1
    have h4 : 2 ^ f.fractionBits ≤ (n <<< (j - L2).toNat) / 2 ^ (L2 - j).toNat := units_ge hn (by omega)
    have h5 : ((L1 - f.leastPlace).toNat + 1) * f.binade ≤ (L2 - f.leastPlace).toNat * f.binade := Nat.mul_le_mul_right _ (by omega)
    rw [Nat.add_mul, Nat.one_mul] at h5
    rw [Nat.pow_succ] at h2
    have h6 : f.binade = 2 ^ f.fractionBits := rfl
    omega
/-- A rung's magnitude, in units of the least place. -/
def mag (f : Format) (r : Nat) : Nat := if r < f.binade then r else (f.binade + r % f.binade) * 2 ^ (r / f.binade - 1)
theorem mag_mono (f : Format) {r t : Nat} (h : r ≤ t) : mag f r ≤ mag f t := by
  have hb : 0 < f.binade := Nat.two_pow_pos _
  have hq : r / f.binade ≤ t / f.binade := Nat.div_le_div_right h
  have d1 := Nat.div_add_mod r f.binade
  have d2 := Nat.div_add_mod t f.binade
  have m1 := Nat.mod_lt r hb
  unfold mag
  by_cases hr : r < f.binade
  · rw [if_pos hr]
    split
    · exact h
    · rename_i ht
      calc r ≤ (f.binade + t % f.binade) * 1 := by omega
        _ ≤ (f.binade + t % f.binade) * 2 ^ (t / f.binade - 1) := Nat.mul_le_mul_left _ (Nat.two_pow_pos _)
  · have ht : ¬ t < f.binade := by omega
    rw [if_neg hr, if_neg ht]
    have hr1 : 1 ≤ r / f.binade := by rw [Nat.le_div_iff_mul_le hb]; omega
    by_cases he : r / f.binade = t / f.binade
    · rw [he] at d1 ⊢
      exact Nat.mul_le_mul_right _ (by omega)
    · have hlt : r / f.binade ≤ t / f.binade - 1 := by omega
      calc (f.binade + r % f.binade) * 2 ^ (r / f.binade - 1) ≤ (2 * f.binade) * 2 ^ (r / f.binade - 1) := Nat.mul_le_mul_right _ (by omega)
        _ = f.binade * 2 ^ (r / f.binade - 1 + 1) := by rw [Nat.pow_succ, Nat.mul_comm 2 f.binade, Nat.mul_assoc, Nat.mul_comm 2]
        _ = f.binade * 2 ^ (r / f.binade) := by rw [show r / f.binade - 1 + 1 = r / f.binade from by omega]
        _ ≤ f.binade * 2 ^ (t / f.binade - 1) := Nat.mul_le_mul_left _ (Nat.pow_le_pow_right (by decide) hlt)
        _ ≤ (f.binade + t % f.binade) * 2 ^ (t / f.binade - 1) := Nat.mul_le_mul_right _ (by omega)
theorem val_mag (f : Format) (s : Bool) (r : Nat) : ∃ m e, val f s r = .number s m e ∧ f.leastPlace ≤ e ∧ mag f r = m * 2 ^ (e - f.leastPlace).toNat := by
  unfold val mag
  split
  · exact ⟨r, f.leastPlace, rfl, Int.le_refl _, by simp⟩
  · refine ⟨_, _, rfl, by omega, ?_⟩
    rw [show (f.leastPlace + ((r / f.binade - 1 : Nat) : Int) - f.leastPlace).toNat = r / f.binade - 1 from by omega]
/-- Two numbers at a common base below both. -/
theorem order_base (s t : Bool) (m n : Nat) (i j b : Int) (hi : b ≤ i) (hj : b ≤ j) : (Datum.number s m i).order (.number t n j) = some (compare (Ieee.signed s m (i - b).toNat) (Ieee.signed t n (j - b).toNat)) := by
  unfold Datum.order
  simp only [Option.some.injEq]
  have e1 : (i - b).toNat = (i - min i j).toNat + (min i j - b).toNat := by omega
  have e2 : (j - b).toNat = (j - min i j).toNat + (min i j - b).toNat := by omega
  have sc : ∀ (u : Bool) (x a c : Nat), Ieee.signed u x (a + c) = Ieee.signed u x a * (2 ^ c : Nat) := by
    intro u x a c
    unfold Ieee.signed
    rw [Nat.shiftLeft_eq, Nat.shiftLeft_eq, Nat.pow_add, ← Nat.mul_assoc]
    cases u
    · simp
    · simp [Int.neg_mul]
  rw [e1, e2, sc, sc]
  have hp : (0 : Int) < ((2 ^ (min i j - b).toNat : Nat) : Int) := by have := Nat.two_pow_pos (min i j - b).toNat; omega
  generalize ((2 ^ (min i j - b).toNat : Nat) : Int) = P at *
  generalize Ieee.signed s m (i - min i j).toNat = x
  generalize Ieee.signed t n (j - min i j).toNat = y
  rcases Int.lt_trichotomy x y with h | h | h
  · rw [Int.compare_eq_lt.2 h, Int.compare_eq_lt.2 (Int.mul_lt_mul_of_pos_right h hp)]
  · subst h; rw [Int.compare_eq_eq.2 rfl, Int.compare_eq_eq.2 rfl]
  · rw [Int.compare_eq_gt.2 h, Int.compare_eq_gt.2 (Int.mul_lt_mul_of_pos_right h hp)]
theorem rd_inf (k : FloatKind) (s : Bool) : rd k (.infinity s) = .infinity s := by cases k <;> cases s <;> decide +kernel
theorem order_not_gt {s t : Bool} {m n : Nat} {i j b : Int} (hi : b ≤ i) (hj : b ≤ j) : ((Datum.number s m i).order (.number t n j) ≠ some .gt) ↔ Ieee.signed s m (i - b).toNat ≤ Ieee.signed t n (j - b).toNat := by
  rw [order_base s t m n i j b hi hj, ne_eq, Option.some.injEq]
  exact Int.compare_ne_gt
/-- Rounding never reverses an order. -/
theorem rd_mono (k : FloatKind) (s t : Bool) (m n : Nat) (i j : Int) (h : (Datum.number s m i).order (.number t n j) ≠ some .gt) : (rd k (.number s m i)).order (rd k (.number t n j)) ≠ some .gt := by
  have hs := (order_not_gt (b := min i j) (by omega) (by omega)).1 h
  have hle : ∀ x y, rung k.format x y ≤ k.format.infRung := by
    intro x y
    unfold rung
    split
    · exact Nat.zero_le _
    · exact Nat.min_le_right _ _
  rw [rd_number, rd_number]
  unfold Ieee.signed at hs
  rw [Nat.shiftLeft_eq, Nat.shiftLeft_eq] at hs
  obtain ⟨m1, e1, v1, l1, g1⟩ := val_mag k.format s (rung k.format m i)
  obtain ⟨m2, e2, v2, l2, g2⟩ := val_mag k.format t (rung k.format n j)
  have key : ∀ (a b : Int), a ≤ b → a = Ieee.signed s m1 (e1 - k.format.leastPlace).toNat → b = Ieee.signed t m2 (e2 - k.format.leastPlace).toNat → (val k.format s (rung k.format m i)).order (val k.format t (rung k.format n j)) ≠ some .gt := by
    intro a b hab ha hb
    rw [v1, v2]
    refine (order_not_gt l1 l2).2 ?_
    rw [← ha, ← hb]
    exact hab
  have q1 : Ieee.signed s m1 (e1 - k.format.leastPlace).toNat = if s then -((mag k.format (rung k.format m i) : Nat) : Int) else ((mag k.format (rung k.format m i) : Nat) : Int) := by
    unfold Ieee.signed; rw [Nat.shiftLeft_eq, g1]
  have q2 : Ieee.signed t m2 (e2 - k.format.leastPlace).toNat = if t then -((mag k.format (rung k.format n j) : Nat) : Int) else ((mag k.format (rung k.format n j) : Nat) : Int) := by
    unfold Ieee.signed; rw [Nat.shiftLeft_eq, g2]
  have i1 := hle m i
  have i2 := hle n j
  cases s <;> cases t
  · -- + +
    simp only [Bool.false_eq_true, if_false] at hs q1 q2
    have hr := rung_mono k.format (m := m) (n := n) (i := i) (j := j) (b := min i j) (by omega) (by omega) (by exact_mod_cast hs)
    have hg := mag_mono k.format hr
    split
    · split
      · exact key _ _ (by exact_mod_cast hg) q1.symm q2.symm
      · rw [v1]; simp [Datum.order]
    · rw [if_neg (by omega)]; decide
  · -- + -
    simp only [Bool.false_eq_true, if_false, if_true] at hs q1 q2
    have z1 : m * 2 ^ (i - min i j).toNat = 0 := by
      generalize m * 2 ^ (i - min i j).toNat = x at *
      generalize n * 2 ^ (j - min i j).toNat = y at *
      omega
    have z2 : n * 2 ^ (j - min i j).toNat = 0 := by
      generalize m * 2 ^ (i - min i j).toNat = x at *
      generalize n * 2 ^ (j - min i j).toNat = y at *
      omega
    have y1 : m = 0 := by
      rcases Nat.mul_eq_zero.1 z1 with h | h
      · exact h
      · exact absurd h (Nat.ne_of_gt (Nat.two_pow_pos _))
    have y2 : n = 0 := by
      rcases Nat.mul_eq_zero.1 z2 with h | h
      · exact h
      · exact absurd h (Nat.ne_of_gt (Nat.two_pow_pos _))
    subst y1 y2
    have r1 : rung k.format 0 i = 0 := by unfold rung; rw [if_pos rfl]
    have r2 : rung k.format 0 j = 0 := by unfold rung; rw [if_pos rfl]
    have hI : 0 < k.format.infRung := by cases k <;> decide
    have hm0 : mag k.format 0 = 0 := by cases k <;> decide
    rw [r1, r2, if_pos hI, if_pos hI]
    rw [r1] at q1 key
    rw [r2] at q2 key
    rw [hm0] at q1 q2
    exact key _ _ (by simp) q1.symm q2.symm
  · -- - +
    simp only [Bool.false_eq_true, if_false, if_true] at q1 q2
    split
    · split
      · exact key _ _ (by omega) q1.symm q2.symm
      · rw [v1]; simp [Datum.order]
    · split
      · rw [v2]; simp [Datum.order]
      · decide
  · -- - -
    simp only [if_true] at hs q1 q2
    have hr := rung_mono k.format (m := n) (n := m) (i := j) (j := i) (b := min i j) (by omega) (by omega) (by
      generalize m * 2 ^ (i - min i j).toNat = x at *
      generalize n * 2 ^ (j - min i j).toNat = y at *
      omega)
    have hg := mag_mono k.format hr
    split
    · rw [if_pos (by omega)]
      exact key _ _ (by omega) q1.symm q2.symm
    · split
      · rw [v2]; simp [Datum.order]
      · decide
theorem to32_mono (l h : Datum) (hg : gt l h = false) : gt (to32 l) (to32 h) = false := by
  have hne : l.order h ≠ some .gt := by
    intro e; unfold gt at hg; rw [e] at hg; simp at hg
  suffices hs : (to32 l).order (to32 h) ≠ some .gt by
    unfold gt
    rw [beq_eq_false_iff_ne]
    exact hs
  cases l with
  | nan s t => simp [to32, nanD, Datum.order]
  | infinity s =>
    cases h with
    | nan a b => simp [to32, nanD, rd_inf, Datum.order]
    | infinity t => simp only [to32, rd_inf]; exact hne
    | number t n j =>
      cases s
      · exact absurd rfl hne
      · simp only [to32, rd_inf]
        rw [rd_number]
        split
        · obtain ⟨m1, e1, v1, _⟩ := val_mag FloatKind.f32.format t (rung FloatKind.f32.format n j)
          rw [v1]; simp [Datum.order]
        · cases t <;> decide
  | number s m i =>
    cases h with
    | nan a b =>
      simp only [to32, nanD]
      cases rd .f32 (.number s m i) <;> simp [Datum.order]
    | infinity t =>
      cases t
      · simp only [to32, rd_inf]
        rw [rd_number]
        split
        · obtain ⟨m1, e1, v1, _⟩ := val_mag FloatKind.f32.format s (rung FloatKind.f32.format m i)
          rw [v1]; simp [Datum.order]
        · cases s <;> decide
      · exact absurd rfl hne
    | number t n j => exact rd_mono .f32 s t m n i j hne
end Ff
end Go.Proofs.Qxb6500343a
