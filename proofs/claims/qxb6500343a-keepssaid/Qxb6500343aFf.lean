/-
  Bounds on rounding: how great a float can be.
-/
import Derived.Test.Qxb6500343aPm
namespace Go.Proofs.Qxb6500343a
open Go.RowKit
open Ieee (Datum Format Toward)
namespace Ff
open Fl

theorem cut_le (way : Toward) (neg : Bool) (n drop : Nat) : n / 2 ^ drop ≤ Toward.cut way neg n drop ∧ Toward.cut way neg n drop ≤ n / 2 ^ drop + 1 := by
  unfold Toward.cut
  simp only
  rw [Nat.shiftLeft_eq, Nat.one_mul]
  have hb : ∀ b : Bool, b.toNat ≤ 1 := by decide
  by_cases h : drop ≤ n.log2 + 2
  · rw [Nat.min_eq_left h]
    exact ⟨Nat.le_add_right _ _, Nat.add_le_add_left (hb _) _⟩
  · rw [Nat.min_eq_right (by omega)]
    have h1 : n < 2 ^ (n.log2 + 1) := Nat.lt_log2_self
    have h2 : n < 2 ^ (n.log2 + 2) := by rw [Nat.pow_succ]; omega
    have h3 : 2 ^ (n.log2 + 2) ≤ 2 ^ drop := Nat.pow_le_pow_right (by decide) (by omega)
    rw [Nat.div_eq_of_lt h2, Nat.div_eq_of_lt (by omega : n < 2 ^ drop)]
    exact ⟨Nat.le_add_right _ _, Nat.add_le_add_left (hb _) _⟩
/-- The whole units of the last place that is kept. -/
theorem units_lt {m : Nat} {place last : Int} {q : Nat} (h : place + m.log2 < last + q) : (m <<< (place - last).toNat) / 2 ^ (last - place).toNat < 2 ^ q := by
  have hm : m < 2 ^ (m.log2 + 1) := Nat.lt_log2_self
  rw [Nat.shiftLeft_eq]
  by_cases hl : last ≤ place
  · rw [show (last - place).toNat = 0 from by omega, Nat.pow_zero, Nat.div_one]
    calc m * 2 ^ (place - last).toNat < 2 ^ (m.log2 + 1) * 2 ^ (place - last).toNat := Nat.mul_lt_mul_of_pos_right hm (Nat.two_pow_pos _)
      _ = 2 ^ (m.log2 + 1 + (place - last).toNat) := by rw [← Nat.pow_add]
      _ ≤ 2 ^ q := Nat.pow_le_pow_right (by decide) (by omega)
  · rw [show (place - last).toNat = 0 from by omega, Nat.pow_zero, Nat.mul_one]
    rw [Nat.div_lt_iff_lt_mul (Nat.two_pow_pos _)]
    calc m < 2 ^ (m.log2 + 1) := hm
      _ ≤ 2 ^ (q + (last - place).toNat) := Nat.pow_le_pow_right (by decide) (by omega)
      _ = 2 ^ q * 2 ^ (last - place).toNat := by rw [Nat.pow_add]
theorem units_ge {m : Nat} {place last : Int} {q : Nat} (h0 : m ≠ 0) (h : last + q ≤ place + m.log2) : 2 ^ q ≤ (m <<< (place - last).toNat) / 2 ^ (last - place).toNat := by
  have hm : 2 ^ m.log2 ≤ m := Nat.log2_self_le h0
  rw [Nat.shiftLeft_eq]
  by_cases hl : last ≤ place
  · rw [show (last - place).toNat = 0 from by omega, Nat.pow_zero, Nat.div_one]
    calc 2 ^ q ≤ 2 ^ (m.log2 + (place - last).toNat) := Nat.pow_le_pow_right (by decide) (by omega)
      _ = 2 ^ m.log2 * 2 ^ (place - last).toNat := by rw [Nat.pow_add]
      _ ≤ m * 2 ^ (place - last).toNat := Nat.mul_le_mul_right _ hm
  · rw [show (place - last).toNat = 0 from by omega, Nat.pow_zero, Nat.mul_one]
    rw [Nat.le_div_iff_mul_le (Nat.two_pow_pos _), ← Nat.pow_add]
    exact Nat.le_trans (Nat.pow_le_pow_right (by decide) (by omega)) hm
/-- The rung of a number. -/
def rung (f : Format) (m : Nat) (place : Int) : Nat :=
  if m = 0 then 0 else
  min ((max (place + m.log2 - f.fractionBits) f.leastPlace - f.leastPlace).toNat * f.binade + Toward.even.cut false (m <<< (place - max (place + m.log2 - f.fractionBits) f.leastPlace).toNat) (max (place + m.log2 - f.fractionBits) f.leastPlace - place).toNat) f.infRung
theorem nearest_rung (f : Format) (neg : Bool) (m : Nat) (place : Int) : f.nearest neg m place = f.word neg (rung f m place) := by
  unfold Format.nearest rung
  split
  · rfl
  · rfl
theorem rung_le (f : Format) (m : Nat) (place B : Int) (h : m ≠ 0 → place + m.log2 ≤ B) (hB : f.leastPlace ≤ B - f.fractionBits) : rung f m place ≤ (B - f.fractionBits - f.leastPlace + 2).toNat * f.binade := by
  unfold rung
  split
  · exact Nat.zero_le _
  · rename_i hm
    refine Nat.le_trans (Nat.min_le_left _ _) ?_
    have hE := h hm
    generalize hl : max (place + m.log2 - f.fractionBits) f.leastPlace = last
    have h1 := (cut_le .even false (m <<< (place - last).toNat) (last - place).toNat).2
    have h2 : (m <<< (place - last).toNat) / 2 ^ (last - place).toNat < 2 ^ (f.fractionBits + 1) := units_lt (by omega)
    have h3 : Toward.even.cut false (m <<< (place - last).toNat) (last - place).toNat ≤ 2 * f.binade := by
      unfold Format.binade
      rw [Nat.pow_succ] at h2
      omega
    have h4 : (last - f.leastPlace).toNat * f.binade ≤ (B - f.fractionBits - f.leastPlace).toNat * f.binade := Nat.mul_le_mul_right _ (by omega)
    rw [show (B - f.fractionBits - f.leastPlace + 2).toNat = (B - f.fractionBits - f.leastPlace).toNat + 2 from by omega, Nat.add_mul]
    omega
theorem le_rung (f : Format) (m : Nat) (place C : Int) (hm : m ≠ 0) (h : C ≤ place + m.log2) (hC : f.leastPlace ≤ C - f.fractionBits) : min ((C - f.fractionBits - f.leastPlace + 1).toNat * f.binade) f.infRung ≤ rung f m place := by
  unfold rung
  rw [if_neg hm]
  generalize hl : max (place + m.log2 - f.fractionBits) f.leastPlace = last
  have h1 := (cut_le .even false (m <<< (place - last).toNat) (last - place).toNat).1
  have h2 : 2 ^ f.fractionBits ≤ (m <<< (place - last).toNat) / 2 ^ (last - place).toNat := units_ge hm (by omega)
  have h4 : (C - f.fractionBits - f.leastPlace).toNat * f.binade ≤ (last - f.leastPlace).toNat * f.binade := Nat.mul_le_mul_right _ (by omega)
  have h5 : (C - f.fractionBits - f.leastPlace + 1).toNat * f.binade = (C - f.fractionBits - f.leastPlace).toNat * f.binade + f.binade := by
    rw [show (C - f.fractionBits - f.leastPlace + 1).toNat = (C - f.fractionBits - f.leastPlace).toNat + 1 from by omega, Nat.add_mul, Nat.one_mul]
  have h6 : f.binade = 2 ^ f.fractionBits := rfl
  omega
/-- What stands at a rung. -/
def val (f : Format) (neg : Bool) (r : Nat) : Datum := if r < f.binade then .number neg r f.leastPlace else .number neg (f.binade + r % f.binade) (f.leastPlace + (r / f.binade - 1 : Nat))
theorem read_word (k : FloatKind) (neg : Bool) (r : Nat) (h : r < k.format.infRung) : k.format.read (k.format.word neg r) = val k.format neg r := by
  have h1 : k.format.infRung < k.format.signWeight := by cases k <;> decide
  have h2 : k.format.word neg r / k.format.signWeight % 2 = neg.toNat ∧ k.format.word neg r % k.format.signWeight = r := by
    unfold Format.word
    have hp : 0 < k.format.signWeight := by omega
    cases neg
    · simp only [Bool.false_eq_true, if_false, Bool.toNat_false]
      exact ⟨by rw [Nat.div_eq_of_lt (by omega)], Nat.mod_eq_of_lt (by omega)⟩
    · simp only [if_true, Bool.toNat_true]
      exact ⟨by rw [Nat.add_div_left _ hp, Nat.div_eq_of_lt (by omega)], by rw [Nat.add_mod_left]; exact Nat.mod_eq_of_lt (by omega)⟩
  unfold Format.read val
  simp only [h2.1, h2.2]
  rw [show (neg.toNat == 1) = neg from by cases neg <;> rfl]
  split
  · rfl
  · first | rfl | rw [if_pos h]
theorem read_inf (k : FloatKind) (neg : Bool) : k.format.read (k.format.word neg k.format.infRung) = .infinity neg := by
  cases k <;> cases neg <;> decide +kernel
theorem val_E (k : FloatKind) (neg : Bool) (r K : Nat) (hr : r ≤ K * k.format.binade) (hK : 1 ≤ K) : ∃ m e, val k.format neg r = .number neg m e ∧ (m ≠ 0 → e + m.log2 ≤ k.format.leastPlace + K - 1 + k.format.fractionBits) := by
  have hbp : 0 < k.format.binade := Nat.two_pow_pos _
  have hbd : k.format.binade = 2 ^ k.format.fractionBits := rfl
  unfold val
  split
  · rename_i h
    refine ⟨r, _, rfl, fun h0 => ?_⟩
    have : r.log2 < k.format.fractionBits := by
      rw [Nat.log2_lt h0]
      exact h
    omega
  · rename_i h
    refine ⟨_, _, rfl, fun h0 => ?_⟩
    have h1 : r / k.format.binade ≤ K := by
      rw [← Nat.mul_div_cancel K hbp]
      exact Nat.div_le_div_right hr
    have h2 : (k.format.binade + r % k.format.binade).log2 < k.format.fractionBits + 1 := by
      rw [Nat.log2_lt (by omega), Nat.pow_succ]
      have := Nat.mod_lt r hbp
      omega
    have h3 : 1 ≤ r / k.format.binade := by
      rw [Nat.le_div_iff_mul_le hbp]; omega
    omega
theorem le_val_E (k : FloatKind) (neg : Bool) (r K : Nat) (hr : (K + 1) * k.format.binade ≤ r) : ∃ m e, val k.format neg r = .number neg m e ∧ m ≠ 0 ∧ k.format.leastPlace + K + k.format.fractionBits ≤ e + m.log2 := by
  have hbp : 0 < k.format.binade := Nat.two_pow_pos _
  have hbd : k.format.binade = 2 ^ k.format.fractionBits := rfl
  have h1 : K + 1 ≤ r / k.format.binade := by
    rw [Nat.le_div_iff_mul_le hbp]; exact hr
  have h0 : ¬ r < k.format.binade := by
    have : 1 * k.format.binade ≤ (K + 1) * k.format.binade := Nat.mul_le_mul_right _ (by omega)
    omega
  unfold val
  rw [if_neg h0]
  refine ⟨_, _, rfl, by omega, ?_⟩
  have h2 : k.format.fractionBits ≤ (k.format.binade + r % k.format.binade).log2 := by
    rw [Nat.le_log2 (by omega)]
    omega
  omega
theorem rd_number (k : FloatKind) (s : Bool) (m : Nat) (e : Int) : rd k (.number s m e) = if rung k.format m e < k.format.infRung then val k.format s (rung k.format m e) else .infinity s := by
  have hle : rung k.format m e ≤ k.format.infRung := by
    unfold rung
    split
    · exact Nat.zero_le _
    · exact Nat.min_le_right _ _
  unfold rd V Format.write
  simp only
  rw [nearest_rung]
  split
  · rename_i h
    rw [read_word k s _ h]
    unfold val
    split <;> rfl
  · rename_i h
    rw [show rung k.format m e = k.format.infRung from by omega, read_inf]
    rfl
/-- Rounding raises the exponent by one at most. -/
theorem rd_le (k : FloatKind) (s : Bool) (m : Nat) (e B : Int) (h : m ≠ 0 → e + m.log2 ≤ B) (hB : k.format.leastPlace ≤ B - k.format.fractionBits) (hI : (B - k.format.fractionBits - k.format.leastPlace + 2).toNat + 1 < 2 ^ k.format.exponentBits) : ∃ m' e', rd k (.number s m e) = .number s m' e' ∧ (m' ≠ 0 → e' + m'.log2 ≤ B + 1) := by
  have hr := rung_le k.format m e B h hB
  have hbp : 0 < k.format.binade := Nat.two_pow_pos _
  have hlt : rung k.format m e < k.format.infRung := by
    refine Nat.lt_of_le_of_lt hr ?_
    unfold Format.infRung
    exact Nat.mul_lt_mul_of_pos_right (by omega) hbp
  rw [rd_number, if_pos hlt]
  obtain ⟨m', e', h1, h2⟩ := val_E k s _ _ hr (by omega)
  exact ⟨m', e', h1, fun h0 => by have := h2 h0; omega⟩
theorem rd_ge (k : FloatKind) (s : Bool) (m : Nat) (e B C : Int) (hm : m ≠ 0) (h : e + m.log2 ≤ B) (hc : C ≤ e + m.log2) (hC : k.format.leastPlace ≤ C - k.format.fractionBits) (hI : (B - k.format.fractionBits - k.format.leastPlace + 2).toNat + 1 < 2 ^ k.format.exponentBits) : ∃ m' e', rd k (.number s m e) = .number s m' e' ∧ m' ≠ 0 ∧ C ≤ e' + m'.log2 ∧ e' + m'.log2 ≤ B + 1 := by
  have hr := rung_le k.format m e B (fun _ => h) (by omega)
  have hg := le_rung k.format m e C hm hc hC
  have hbp : 0 < k.format.binade := Nat.two_pow_pos _
  have hlt : rung k.format m e < k.format.infRung := by
    refine Nat.lt_of_le_of_lt hr ?_
    unfold Format.infRung
    exact Nat.mul_lt_mul_of_pos_right (by omega) hbp
  rw [rd_number, if_pos hlt]
  obtain ⟨m', e', h1, h2⟩ := val_E k s _ _ hr (by omega)
  have hg' : ((C - k.format.fractionBits - k.format.leastPlace).toNat + 1) * k.format.binade ≤ rung k.format m e := by
    rw [show (C - k.format.fractionBits - k.format.leastPlace).toNat + 1 = (C - k.format.fractionBits - k.format.leastPlace + 1).toNat from by omega]
    omega
  obtain ⟨m2, e2, g1, g2, g3⟩ := le_val_E k s _ _ hg'
  rw [h1] at g1
  cases g1
  exact ⟨m', e', h1, g2, by omega, by have := h2 g2; omega⟩
end Ff
end Go.Proofs.Qxb6500343a
