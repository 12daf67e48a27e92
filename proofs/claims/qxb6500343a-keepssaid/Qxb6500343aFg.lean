/-
  What fits: ratios fit float32; a part of the unit, and a text's digits, fit an int.
-/
import Derived.Test.Qxb6500343aFf
namespace Go.Proofs.Qxb6500343a
open Go.RowKit
open Ieee (Datum Format Toward)
namespace Ff
open Fl

def in64 (n : Int) : Prop := -9223372036854775808 ≤ n ∧ n ≤ 9223372036854775807
/-- A number below 2 ^ (B + 1). -/
def Bd (B : Int) (d : Datum) : Prop := ∀ s m e, d = .number s m e → m ≠ 0 → e + m.log2 ≤ B
theorem fits_of {s : Bool} {m : Nat} {e : Int} (h : m ≠ 0 → e + m.log2 ≤ 100) : fits32 (.number s m e) = true := by
  obtain ⟨m', e', h1, _⟩ := rd_le .f32 s m e 100 h (by decide) (by decide)
  show (!(rd .f32 (.number s m e)).isInfinity) = true
  rw [h1]
  rfl
theorem fits_Bd {d : Datum} (h : Bd 100 d) : fits32 d = true := by
  cases d with
  | number s m e => exact fits_of (h s m e rfl)
  | infinity s => rfl
  | nan s f => rfl
theorem quo_E (g : Nat) (s t : Bool) (m n : Nat) (i j : Int) (hn : n ≠ 0) : ∃ q e, Datum.quotient g (.number s m i) (.number t n j) = some (.number (s ^^ t) q e) ∧ (q ≠ 0 → m ≠ 0 ∧ e + q.log2 ≤ (i + m.log2) - (j + n.log2)) := by
  unfold Datum.quotient
  simp only
  rw [if_neg hn]
  refine ⟨_, _, rfl, ?_⟩
  generalize hmore : g + n.log2 - m.log2 = more
  intro hq
  have hm : m ≠ 0 := by
    rintro rfl
    apply hq
    simp
  refine ⟨hm, ?_⟩
  have h1 : m < 2 ^ (m.log2 + 1) := Nat.lt_log2_self
  have h2 : 2 ^ n.log2 ≤ n := Nat.log2_self_le hn
  have h3 : m <<< more < 2 ^ (m.log2 + 1 + more) := by
    rw [Nat.shiftLeft_eq, Nat.pow_add (n := more)]
    exact Nat.mul_lt_mul_of_pos_right h1 (Nat.two_pow_pos _)
  have h4 : m <<< more / n < 2 ^ (m.log2 + 1 + more - n.log2) := by
    rw [Nat.div_lt_iff_lt_mul (Nat.pos_of_ne_zero hn)]
    refine Nat.lt_of_lt_of_le h3 ?_
    have : 2 ^ (m.log2 + 1 + more) = 2 ^ (m.log2 + 1 + more - n.log2) * 2 ^ n.log2 := by
      rw [← Nat.pow_add]; congr 1; omega
    rw [this]
    exact Nat.mul_le_mul_left _ h2
  have hb : ∀ b : Bool, b.toNat ≤ 1 := by decide
  have h5 := hb (m <<< more % n != 0)
  generalize m <<< more / n = D at *
  generalize (m <<< more % n != 0).toNat = x at *
  have h6 : 2 * D + x < 2 ^ (m.log2 + 1 + more - n.log2 + 1) := by rw [Nat.pow_succ]; omega
  have h7 := (Nat.log2_lt hq).2 h6
  omega
theorem ofInt_E (n : Int) (h : in64 n) : ∃ s m e, ofInt .f64 n = .number s m e ∧ (m ≠ 0 → e + m.log2 ≤ 64) ∧ (n ≠ 0 → m ≠ 0 ∧ 0 ≤ e + m.log2) := by
  have hlog : n.natAbs ≠ 0 → (0 : Int) + n.natAbs.log2 ≤ 63 := fun h0 => by
    have : n.natAbs.log2 < 64 := (Nat.log2_lt h0).2 (by unfold in64 at h; omega)
    omega
  unfold ofInt
  by_cases h0 : n = 0
  · obtain ⟨m', e', h1, h2⟩ := rd_le .f64 (decide (n < 0)) n.natAbs 0 63 hlog (by decide) (by decide)
    exact ⟨_, m', e', h1, h2, fun h => absurd h0 h⟩
  · obtain ⟨m', e', h1, h2, h3, h4⟩ := rd_ge .f64 (decide (n < 0)) n.natAbs 0 63 0 (by omega) (hlog (by omega)) (by omega) (by decide) (by decide)
    exact ⟨_, m', e', h1, fun _ => h4, fun _ => ⟨h2, h3⟩⟩
theorem ratio_Bd (a b : Int) (ha : in64 a) (hb : in64 b) : Bd 65 (Pl.ratio a b) := by
  obtain ⟨s, m, i, e1, u1, _⟩ := ofInt_E a ha
  obtain ⟨t, n, j, e2, u2, l2⟩ := ofInt_E b hb
  intro s' m' e' he h0
  unfold Pl.ratio div at he
  rw [e1, e2] at he
  by_cases hn : n = 0
  · subst hn
    unfold Datum.quotient at he
    simp only [if_true] at he
    split at he
    · cases he
    · have : ar .f64 (some (.infinity (s ^^ t))) = .infinity (s ^^ t) := by
        cases s <;> cases t <;> decide +kernel
      rw [this] at he
      cases he
  · obtain ⟨q, e, h1, h2⟩ := quo_E (FloatKind.f64.format.fractionBits + 2) s t m n i j hn
    rw [h1] at he
    have hb0 : b ≠ 0 ∨ b = 0 := by omega
    have hl : 0 ≤ j + n.log2 := by
      by_cases hbz : b = 0
      · subst hbz
        have : ofInt .f64 0 = .number false 0 (-1074) := by decide +kernel
        rw [this] at e2
        cases e2
        exact absurd rfl hn
      · exact (l2 hbz).2
    obtain ⟨m2, e2', g1, g2⟩ := rd_le .f64 (s ^^ t) q e 64 (fun hq => by
      have := h2 hq
      have := u1 this.1
      omega) (by decide) (by decide)
    unfold ar at he
    simp only at he
    rw [g1] at he
    cases he
    exact g2 h0
theorem ratio_fit (a b : Int) (ha : in64 a) (hb : in64 b) : fits32 (Pl.ratio a b) = true :=
  fits_Bd fun s m e h h0 => Int.le_trans (ratio_Bd a b ha hb s m e h h0) (by decide)
theorem shl_log {m n a b : Nat} (hm : m ≠ 0) (h : m <<< a ≤ n <<< b) : m.log2 + a ≤ n.log2 + b := by
  rw [Nat.shiftLeft_eq, Nat.shiftLeft_eq] at h
  have h1 : 2 ^ m.log2 ≤ m := Nat.log2_self_le hm
  have h2 : n < 2 ^ (n.log2 + 1) := Nat.lt_log2_self
  have h3 : 2 ^ (m.log2 + a) ≤ m * 2 ^ a := by rw [Nat.pow_add]; exact Nat.mul_le_mul_right _ h1
  have h4 : n * 2 ^ b < 2 ^ (n.log2 + 1 + b) := by rw [Nat.pow_add (n := b)]; exact Nat.mul_lt_mul_of_pos_right h2 (Nat.two_pow_pos _)
  have h5 : m.log2 + a < n.log2 + 1 + b := (Nat.pow_lt_pow_iff_right (by decide : 1 < 2)).1 (by omega)
  omega
/-- At most a positive number: the exponent. -/
theorem ord_E {m n : Nat} {e j : Int} (hm : m ≠ 0) (h : (Datum.number false m e).order (.number false n j) ≠ some .gt) : e + m.log2 ≤ j + n.log2 := by
  unfold Datum.order at h
  simp only [Ieee.signed, Bool.false_eq_true, if_false, ne_eq, Option.some.injEq] at h
  have h1 : m <<< (e - min e j).toNat ≤ n <<< (j - min e j).toNat := by
    have := Int.compare_ne_gt.1 h
    omega
  have := shl_log hm h1
  omega
theorem neg_zero {m : Nat} {e j : Int} (h : (Datum.number true m e).order (.number false 0 j) = some .gt ∨ (Datum.number true m e).order (.number false 0 j) = some .eq) : m = 0 := by
  unfold Datum.order at h
  simp only [Ieee.signed, Bool.false_eq_true, if_false, if_true, Option.some.injEq, Nat.zero_shiftLeft] at h
  have h1 : m <<< (e - min e j).toNat = 0 := by
    generalize m <<< (e - min e j).toNat = X at h
    rcases h with h | h
    · have := Int.compare_eq_gt.1 h
      omega
    · have := Int.compare_eq_eq.1 h
      omega
  rw [Nat.shiftLeft_eq] at h1
  rcases Nat.mul_eq_zero.1 h1 with h | h
  · exact h
  · exact absurd h (Nat.ne_of_gt (Nat.two_pow_pos _))
theorem between_Bd {f : Datum} {jz n jo : _} (h0 : ge f (.number false 0 jz) = true) (h1 : f.order (.number false n jo) ≠ some .gt) : Bd (jo + n.log2) f ∧ ∃ s m e, f = .number s m e := by
  unfold ge at h0
  simp only [Bool.or_eq_true, beq_iff_eq] at h0
  cases f with
  | nan s t => simp [Datum.order] at h0
  | infinity s =>
    cases s
    · exact absurd rfl h1
    · simp [Datum.order] at h0
  | number s m e =>
    refine ⟨?_, s, m, e, rfl⟩
    intro s' m' e' he hm
    cases he
    cases s
    · exact ord_E hm h1
    · exact absurd (neg_zero h0) hm
theorem intOk_of {s : Bool} {m : Nat} {e : Int} (h : m ≠ 0 → e + m.log2 ≤ 61) : Pl.intOk (.number s m e) = true := by
  unfold Pl.intOk Datum.toInt Datum.integral
  simp only
  have hc : Toward.zero.cut s (m <<< e.toNat) (-e).toNat < 2 ^ 62 := by
    by_cases h0 : m = 0
    · subst h0
      simp [Toward.cut]
    · have hE := h h0
      have hm : m < 2 ^ (m.log2 + 1) := Nat.lt_log2_self
      unfold Toward.cut
      simp only [Bool.toNat_false, Nat.add_zero]
      by_cases he : 0 ≤ e
      · rw [show (-e).toNat = 0 from by omega, Nat.zero_min, Nat.shiftLeft_zero, Nat.div_one, Nat.shiftLeft_eq]
        calc m * 2 ^ e.toNat < 2 ^ (m.log2 + 1) * 2 ^ e.toNat := Nat.mul_lt_mul_of_pos_right hm (Nat.two_pow_pos _)
          _ = 2 ^ (m.log2 + 1 + e.toNat) := by rw [← Nat.pow_add]
          _ ≤ 2 ^ 62 := Nat.pow_le_pow_right (by decide) (by omega)
      · rw [show e.toNat = 0 from by omega, Nat.shiftLeft_zero, Nat.shiftLeft_eq, Nat.one_mul]
        by_cases hd : (-e).toNat ≤ m.log2 + 2
        · rw [Nat.min_eq_left hd, Nat.div_lt_iff_lt_mul (Nat.two_pow_pos _), ← Nat.pow_add]
          exact Nat.lt_of_lt_of_le hm (Nat.pow_le_pow_right (by decide) (by omega))
        · rw [Nat.min_eq_right (by omega), Nat.div_eq_of_lt (Nat.lt_of_lt_of_le hm (Nat.pow_le_pow_right (by decide) (by omega)))]
          exact Nat.two_pow_pos _
  generalize Toward.zero.cut s (m <<< e.toNat) (-e).toNat = c at *
  have h1 : IntKind.i64.min = -9223372036854775808 := rfl
  have h2 : IntKind.i64.max = 9223372036854775807 := rfl
  rw [h1, h2]
  unfold Ieee.signed
  rw [Nat.shiftLeft_zero]
  have : (2 : Nat) ^ 62 = 4611686018427387904 := by decide
  simp only [Bool.and_eq_true, decide_eq_true_eq]
  cases s <;> simp <;> omega
theorem mul_ok (k : FloatKind) {f : Datum} {s0 : Bool} {m0 : Nat} {e0 B : Int} (hf : Bd B f) (hn : ∃ s m e, f = .number s m e) (hB : B + (e0 + m0.log2) + 1 ≤ 60) (hlo : k.format.leastPlace ≤ B + (e0 + m0.log2) + 1 - k.format.fractionBits) (hI : (B + (e0 + m0.log2) + 1 - k.format.fractionBits - k.format.leastPlace + 2).toNat + 1 < 2 ^ k.format.exponentBits) :
    Pl.intOk (mul k (.number s0 m0 e0) f) = true := by
  obtain ⟨s, m, e, rfl⟩ := hn
  unfold mul Datum.product ar
  simp only
  obtain ⟨m', e', h1, h2⟩ := rd_le k (s0 ^^ s) (m0 * m) (e0 + e) (B + (e0 + m0.log2) + 1) (fun h0 => by
    have hm : m ≠ 0 := by rintro rfl; simp at h0
    have hm0 : m0 ≠ 0 := by rintro rfl; simp at h0
    have := hf s m e rfl hm
    have h3 : (m0 * m).log2 < m0.log2 + m.log2 + 2 := by
      rw [Nat.log2_lt h0]
      have a1 : m0 < 2 ^ (m0.log2 + 1) := Nat.lt_log2_self
      have a2 : m < 2 ^ (m.log2 + 1) := Nat.lt_log2_self
      calc m0 * m < 2 ^ (m0.log2 + 1) * 2 ^ (m.log2 + 1) := Nat.mul_lt_mul_of_lt_of_lt a1 a2
        _ = 2 ^ (m0.log2 + m.log2 + 2) := by rw [← Nat.pow_add]; congr 1; omega
    omega) hlo hI
  rw [h1]
  exact intOk_of fun h0 => by have := h2 h0; omega
theorem z32 : Pl.zero32 = .number false 0 (-149) := by decide +kernel
theorem o32 : Pl.one32 = .number false 8388608 (-23) := by decide +kernel
theorem f32 : Pl.four32 = .number false 8388608 (-21) := by decide +kernel
theorem unit_ok {f : Datum} (h : Pl.inUnit f = true) : Pl.intOk (mul .f32 Pl.four32 f) = true := by
  unfold Pl.inUnit at h
  rw [Bool.and_eq_true, z32, o32] at h
  have h1 : f.order (.number false 8388608 (-23)) ≠ some .gt := by
    intro e
    have := h.2
    unfold le at this
    rw [e] at this
    simp at this
  obtain ⟨b, hn⟩ := between_Bd h.1 h1
  rw [f32]
  have hl : (8388608 : Nat).log2 = 23 := by decide +kernel
  rw [hl] at b
  refine mul_ok .f32 b hn ?_ ?_ ?_ <;> rw [hl] <;> decide
theorem partOk_all (a : Pl.AX) (p : Datum) : Pl.partOk a p = true := by
  unfold Pl.partOk
  cases h : Pl.inUnit (Pl.frac a p)
  · simp
  · rw [unit_ok h]; simp
end Ff
end Go.Proofs.Qxb6500343a
