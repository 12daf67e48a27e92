/-
  Plain facts: the cell that is owed; the ends of Along.
-/
import Derived.Test.Qxb6500343aFr
namespace Go.Proofs.Qxb6500343a
open Go.RowKit
open Go.Proofs
open Ieee (Datum Format Toward)
open Fl
open Tx (st)
open Ff (in64)
set_option linter.unusedSimpArgs false
set_option linter.unusedVariables false
attribute [local go_sem] run_fadd run_fsub run_fmul run_fquo run_store_float alloc_drewN setCell_drewN shape?_drewN tape_alloc drawn_alloc tape_setCell drawn_setCell drawn_drewN drawn_drew run_fneg

namespace Kf
open Ff
open Pl (minL maxL axis_lv minmax clamp)
/-- A width: no number, or at least nothing. -/
theorem width {lo hi : Datum} (h : Le lo hi) : ((∃ s m i t n j, lo = .number s m i ∧ hi = .number t n j) ∧ Le Pl.zero32 (sub .f32 hi lo)) ∨ sub .f32 hi lo = nanD ∨ sub .f32 hi lo = .infinity false := by
  cases lo with
  | nan s t => exact absurd h.1 (by simp [Datum.isNaN])
  | infinity s =>
    cases hi with
    | nan a b => exact absurd h.2.1 (by simp [Datum.isNaN])
    | infinity t => cases s <;> cases t <;> first | exact .inr (.inl (by decide +kernel)) | exact .inr (.inr (by decide +kernel)) | exact absurd rfl h.2.2
    | number t n j =>
      cases s
      · exact absurd rfl h.2.2
      · exact .inr (.inr (rd_inf .f32 false))
  | number s m i =>
    cases hi with
    | nan a b => exact absurd h.2.1 (by simp [Datum.isNaN])
    | infinity t =>
      cases t
      · exact .inr (.inr (rd_inf .f32 false))
      · exact absurd rfl h.2.2
    | number t n j =>
      refine .inl ⟨⟨_, _, _, _, _, _, rfl, rfl⟩, ?_⟩
      rw [← sub_self s m i]
      exact sub_mono h
theorem divable_num {w : Datum} (h : divable w = true) : ∃ n j, w = .number false n j ∧ n ≠ 0 := by
  unfold divable at h
  rw [Bool.and_eq_true] at h
  cases w with
  | nan s t => exact absurd h.1 (by rw [z32]; simp [gt, Datum.order])
  | infinity s =>
    cases s
    · exact absurd h.2 (by decide +kernel)
    · exact absurd h.1 (by decide +kernel)
  | number s n j =>
    have h1 := (gt_iff _ _).1 h.1
    have hz := neg_is_zero h1.1
    have hn : n ≠ 0 := by
      rintro rfl
      refine h1.2 ?_
      rw [z32]
      refine ⟨rfl, rfl, (order_not_gt (b := min j (-149)) (by omega) (by omega)).2 ?_⟩
      unfold Ieee.signed
      simp
    cases s
    · exact ⟨n, j, rfl, hn⟩
    · exact absurd (hz rfl) hn
theorem unit_of {lo hi p : Datum} (h1 : Le lo p) (h2 : Le p hi) (hd : divable (sub .f32 hi lo) = true) : Pl.inUnit (fracD p lo hi) = true ∧ (0 ≤ Pl.cell4 (fracD p lo hi) ∧ Pl.cell4 (fracD p lo hi) ≤ 3) ∧ (eq p lo = true → Pl.cell4 (fracD p lo hi) = 0) ∧ (eq p hi = true → Pl.cell4 (fracD p lo hi) = 3) := by
  rcases width (h1.trans h2) with ⟨⟨s, m, i, t, n, j, rfl, rfl⟩, _⟩ | hw | hw
  · obtain ⟨u, l, q, rfl⟩ : ∃ u l q, p = .number u l q := by
      cases p with
      | nan a b => exact absurd h1.2.1 (by simp [Datum.isNaN])
      | infinity a =>
        cases a
        · exact absurd rfl h2.2.2
        · exact absurd rfl h1.2.2
      | number u l q => exact ⟨u, l, q, rfl⟩
    have a1 : Le Pl.zero32 (sub .f32 (.number u l q) (.number s m i)) := by rw [← sub_self s m i]; exact sub_mono h1
    have a2 : Le (sub .f32 (.number u l q) (.number s m i)) (sub .f32 (.number t n j) (.number s m i)) := sub_mono h2
    have hgt : gt (sub .f32 (.number t n j) (.number s m i)) Pl.zero32 = true := by
      unfold divable at hd
      exact (Bool.and_eq_true _ _ ▸ hd).1
    obtain ⟨wn, wj, hw, hwn⟩ := divable_num hd
    have e : fracD (.number u l q) (.number s m i) (.number t n j) = div .f32 (sub .f32 (.number u l q) (.number s m i)) (.number false wn wj) := by unfold fracD; rw [hw]
    rw [hw] at a2
    obtain ⟨b1, b2⟩ := div_unit hwn a1 a2
    rw [e]
    refine ⟨?_, cell4_range b1 b2, ?_, ?_⟩
    · unfold Pl.inUnit
      rw [(ge_iff _ _).2 b1, (le_iff _ _).2 b2]; rfl
    · intro he
      have c1 := ((eq_iff _ _).1 he).1
      have c2 : Le (sub .f32 (.number u l q) (.number s m i)) Pl.zero32 := by rw [← sub_self s m i]; exact sub_mono c1
      generalize sub .f32 (.number u l q) (.number s m i) = d at *
      cases d with
      | nan a b => exact absurd a1.2.1 (by simp [Datum.isNaN])
      | infinity a =>
        rw [z32] at a1 c2
        cases a
        · exact absurd rfl c2.2.2
        · exact absurd rfl a1.2.2
      | number a b c =>
        have hb : b = 0 := by
          cases a
          · rw [z32] at c2
            have := (order_not_gt (b := min c (-149)) (by omega) (by omega)).1 c2.2.2
            unfold Ieee.signed at this
            simp only [Bool.false_eq_true, if_false, Nat.zero_shiftLeft] at this
            rw [Nat.shiftLeft_eq] at this
            have h0 : b * 2 ^ (c - min c (-149)).toNat = 0 := by omega
            rcases Nat.mul_eq_zero.1 h0 with h | h
            · exact h
            · exact absurd h (Nat.ne_of_gt (Nat.two_pow_pos _))
          · exact neg_is_zero a1 rfl
        subst hb
        rw [div_zero a c hwn]
        exact cell4_zero _ _
    · intro he
      have c := (eq_iff _ _).1 he
      rw [sub_congr c.1 c.2 hgt, hw, div_self hwn]
      exact cell4_one
  · rw [hw] at hd; exact absurd hd (by decide +kernel)
  · rw [hw] at hd; exact absurd hd (by decide +kernel)
/-- The kept part of an axis is given just where one is owed. -/
theorem part_owed {a : Pl.AX} {p : Datum} (hw : a.w = sub .f32 a.hi a.lo) (hwd : a.wide = !eq (add .f32 a.w a.w) a.w) (hh : Pl.holds a p = true) :
    (Pl.part a p).2 = divable a.w ∧ (divable a.w = true → (Pl.part a p).1 = Pl.cell4 (fracD p a.lo a.hi)) := by
  unfold Pl.holds at hh
  rw [Bool.and_eq_true] at hh
  have h1 := (ge_iff _ _).1 hh.1
  have h2 := (le_iff _ _).1 hh.2
  have hf : Pl.frac a p = fracD p a.lo a.hi := by unfold Pl.frac fracD; rw [hw]
  unfold Pl.part
  rw [hf]
  cases hd : divable a.w
  · refine ⟨?_, fun h => absurd h (by decide)⟩
    cases hwi : a.wide
    · rfl
    · rw [hwi] at hwd
      have hg : gt a.w Pl.zero32 = false := by
        unfold divable at hd
        rw [← hwd, Bool.and_true] at hd
        exact hd
      have hu : Pl.inUnit (fracD p a.lo a.hi) = false := by
        rcases width (h1.trans h2) with ⟨_, hz⟩ | hn | hn
        · exfalso
          rw [← hw] at hz
          have hz2 : Le a.w Pl.zero32 := by
            rw [Pl.gt_lt] at hg
            exact Le_of_not_lt hz.1 hz.2.1 hg
          cases hq : a.w with
          | nan s t => rw [hq] at hz; exact absurd hz.2.1 (by simp [Datum.isNaN])
          | infinity s =>
            rw [hq] at hz hz2
            rw [z32] at hz hz2
            cases s
            · exact absurd rfl hz2.2.2
            · exact absurd rfl hz.2.2
          | number s m e =>
            rw [hq] at hz hz2 hwd
            have hm : m = 0 := by
              cases s
              · rw [z32] at hz2
                have := (order_not_gt (b := min e (-149)) (by omega) (by omega)).1 hz2.2.2
                unfold Ieee.signed at this
                simp only [Bool.false_eq_true, if_false, Nat.zero_shiftLeft] at this
                rw [Nat.shiftLeft_eq] at this
                have h0 : m * 2 ^ (e - min e (-149)).toNat = 0 := by omega
                rcases Nat.mul_eq_zero.1 h0 with h | h
                · exact h
                · exact absurd h (Nat.ne_of_gt (Nat.two_pow_pos _))
              · exact neg_is_zero hz rfl
            subst hm
            have : add .f32 (.number s 0 e) (.number s 0 e) = .number s 0 (-149) := by
              have e1 : ∀ u, Ieee.signed s 0 u = 0 := by intro u; unfold Ieee.signed; simp
              show rd .f32 (.number (if Ieee.signed s 0 (e - min e e).toNat + Ieee.signed s 0 (e - min e e).toNat = 0 then s && s else _) (Int.natAbs (Ieee.signed s 0 (e - min e e).toNat + Ieee.signed s 0 (e - min e e).toNat)) (min e e)) = _
              rw [e1, if_pos (by rfl)]
              show rd .f32 (.number (s && s) 0 (min e e)) = _
              rw [rd_zero, Bool.and_self]
              rfl
            rw [this] at hwd
            have : eq (.number s 0 (-149)) (.number s 0 e) = true := by
              rw [eq_num (b := min (-149) e) (by omega) (by omega)]
              unfold Ieee.signed; simp
            rw [this] at hwd
            cases hwd
        · unfold fracD
          rw [hn]
          have : ∀ x : Datum, div .f32 x nanD = nanD := by intro x; cases x <;> rfl
          rw [this]
          decide +kernel
        · exfalso
          rw [← hw] at hn
          rw [hn] at hg
          exact absurd hg (by decide +kernel)
      rw [hu]
      rfl
  · have hwi : a.wide = true := by
      rw [hwd]
      unfold divable at hd
      exact (Bool.and_eq_true _ _ ▸ hd).2
    have hd' := hd
    rw [hw] at hd'
    obtain ⟨u, _, _, _⟩ := unit_of h1 h2 hd'
    rw [hwi, u]
    exact ⟨rfl, fun _ => rfl⟩
theorem fin_num {a b : Datum} (h : finD a b = true) : (∃ s m i, a = .number s m i) ∧ ∃ s m i, b = .number s m i := by
  have key : ∀ x : Datum, eq (sub .f32 x x) Pl.zero32 = true → ∃ s m i, x = .number s m i := by
    intro x hx
    cases x with
    | nan s t => exact absurd hx (by rw [show sub .f32 (.nan s t) (.nan s t) = nanD from rfl]; decide +kernel)
    | infinity s => cases s <;> exact absurd hx (by decide +kernel)
    | number s m i => exact ⟨s, m, i, rfl⟩
  unfold finD at h
  rw [Bool.and_eq_true] at h
  exact ⟨key a h.1, key b h.2⟩
theorem mul_one32 {s : Bool} {m : Nat} {i : Int} (hd : Held .f32 (.number s m i)) : mul .f32 Pl.one32 (.number s m i) = .number s m i := by
  rw [o32]
  have e : mul .f32 (.number false 8388608 (-23)) (.number s m i) = rd .f32 (.number s (8388608 * m) (-23 + i)) := by
    show rd .f32 (.number (false ^^ s) (8388608 * m) (-23 + i)) = _
    cases s <;> rfl
  rw [e]
  refine rd_held (b := i - 23) hd (by omega) (by omega) ?_
  rw [show (-23 + i - (i - 23)).toNat = 0 from by omega, show (i - (i - 23)).toNat = 23 from by omega]
  omega
theorem mul_zero32 (z : Bool) (e : Int) (s : Bool) (m : Nat) (i : Int) : mul .f32 (.number z 0 e) (.number s m i) = .number (z ^^ s) 0 (-149) := by
  show rd .f32 (.number (z ^^ s) (0 * m) (e + i)) = _
  rw [Nat.zero_mul, rd_zero]
  rfl
theorem mul_zero32' (z : Bool) (e : Int) (s : Bool) (m : Nat) (i : Int) : mul .f32 (.number s m i) (.number z 0 e) = .number (s ^^ z) 0 (-149) := by
  show rd .f32 (.number (s ^^ z) (m * 0) (i + e)) = _
  rw [Nat.mul_zero, rd_zero]
  rfl
theorem abs_signed (s : Bool) (m u : Nat) : (Ieee.signed s m u).natAbs = m * 2 ^ u := by
  unfold Ieee.signed
  rw [Nat.shiftLeft_eq]
  cases s
  · simp only [Bool.false_eq_true, if_false]; omega
  · simp only [if_true]; omega
theorem signed_zero (s : Bool) (u : Nat) : Ieee.signed s 0 u = 0 := by unfold Ieee.signed; simp
theorem eq_zeros (s t : Bool) (i j : Int) : eq (.number s 0 i) (.number t 0 j) = true := by
  rw [eq_num (b := min i j) (by omega) (by omega), signed_zero, signed_zero]
theorem signed_neg {s : Bool} {m u : Nat} (hm : m ≠ 0) : decide (Ieee.signed s m u < 0) = s := by
  have h : 0 < m * 2 ^ u := Nat.mul_pos (Nat.pos_of_ne_zero hm) (Nat.two_pow_pos _)
  unfold Ieee.signed
  rw [Nat.shiftLeft_eq]
  cases s
  · simp only [Bool.false_eq_true, if_false]
    exact decide_eq_false (by omega)
  · simp only [if_true]
    exact decide_eq_true (by omega)
theorem signed_ne {s : Bool} {m u : Nat} (hm : m ≠ 0) : Ieee.signed s m u ≠ 0 := by
  intro h
  have := abs_signed s m u
  rw [h] at this
  have h2 : 0 < m * 2 ^ u := Nat.mul_pos (Nat.pos_of_ne_zero hm) (Nat.two_pow_pos _)
  simp at this
  omega
theorem add_zero32 {s : Bool} {m : Nat} {i : Int} (hd : Held .f32 (.number s m i)) (z : Bool) (e : Int) : eq (add .f32 (.number s m i) (.number z 0 e)) (.number s m i) = true := by
  have ea : add .f32 (.number s m i) (.number z 0 e) = rd .f32 (.number (if Ieee.signed s m (i - min i e).toNat = 0 then s && z else decide (Ieee.signed s m (i - min i e).toNat < 0)) (Ieee.signed s m (i - min i e).toNat).natAbs (min i e)) := by
    show rd .f32 (.number (if Ieee.signed s m (i - min i e).toNat + Ieee.signed z 0 (e - min i e).toNat = 0 then s && z else decide (Ieee.signed s m (i - min i e).toNat + Ieee.signed z 0 (e - min i e).toNat < 0)) (Int.natAbs (Ieee.signed s m (i - min i e).toNat + Ieee.signed z 0 (e - min i e).toNat)) (min i e)) = _
    rw [signed_zero z, Int.add_zero]
  rw [ea]
  by_cases hm : m = 0
  · subst hm
    rw [signed_zero]
    rw [show (Int.natAbs 0) = 0 from rfl, rd_zero]
    exact eq_zeros _ _ _ _
  · rw [if_neg (signed_ne hm), signed_neg hm, abs_signed, rd_held (b := min i e) hd (by omega) (by omega) (by
      rw [show (min i e - min i e).toNat = 0 from by omega, Nat.pow_zero, Nat.mul_one])]
    rw [eq_num (b := i) (by omega) (by omega)]
theorem zero32_add {s : Bool} {m : Nat} {i : Int} (hd : Held .f32 (.number s m i)) (z : Bool) (e : Int) : eq (add .f32 (.number z 0 e) (.number s m i)) (.number s m i) = true := by
  have ea : add .f32 (.number z 0 e) (.number s m i) = rd .f32 (.number (if Ieee.signed s m (i - min e i).toNat = 0 then z && s else decide (Ieee.signed s m (i - min e i).toNat < 0)) (Ieee.signed s m (i - min e i).toNat).natAbs (min e i)) := by
    show rd .f32 (.number (if Ieee.signed z 0 (e - min e i).toNat + Ieee.signed s m (i - min e i).toNat = 0 then z && s else decide (Ieee.signed z 0 (e - min e i).toNat + Ieee.signed s m (i - min e i).toNat < 0)) (Int.natAbs (Ieee.signed z 0 (e - min e i).toNat + Ieee.signed s m (i - min e i).toNat)) (min e i)) = _
    rw [signed_zero z, Int.zero_add]
  rw [ea]
  by_cases hm : m = 0
  · subst hm
    rw [signed_zero]
    rw [show (Int.natAbs 0) = 0 from rfl, rd_zero]
    exact eq_zeros _ _ _ _
  · rw [if_neg (signed_ne hm), signed_neg hm, abs_signed, rd_held (b := min e i) hd (by omega) (by omega) (by
      rw [show (min e i - min e i).toNat = 0 from by omega, Nat.pow_zero, Nat.mul_one])]
    rw [eq_num (b := i) (by omega) (by omega)]
theorem coord_zero (b : Int) (hb : in64 b) (h0 : b ≠ 0) : ∃ z, Pl.coord 0 b = .number z 0 (-149) := by
  obtain ⟨s, m, e, h1, _, h3⟩ := ofInt_E b hb
  have hm := (h3 h0).1
  refine ⟨(false ^^ s), ?_⟩
  unfold Pl.coord Pl.ratio
  rw [h1, show ofInt .f64 0 = .number false 0 (-1074) from by decide +kernel]
  have e2 : div .f64 (.number false 0 (-1074)) (.number s m e) = .number (false ^^ s) 0 (-1074) := by
    unfold div Datum.quotient
    simp only
    rw [if_neg hm, Nat.zero_shiftLeft, Nat.zero_div, Nat.zero_mod]
    exact rd_zero .f64 _ _
  rw [e2]
  exact rd_zero .f32 _ _
theorem coord_one (b : Int) (hb : in64 b) (h0 : b ≠ 0) : Pl.coord b b = Pl.one32 := by
  obtain ⟨s, m, e, h1, _, h3⟩ := ofInt_E b hb
  have hm := (h3 h0).1
  unfold Pl.coord Pl.ratio
  rw [h1]
  have e2 : div .f64 (.number s m e) (.number s m e) = rd .f64 (.number false 36028797018963968 (-55)) := by
    have hd : (m <<< (FloatKind.f64.format.fractionBits + 2 + m.log2 - m.log2)) = m * 2 ^ 54 := by
      rw [Nat.shiftLeft_eq, Nat.add_sub_cancel]; rfl
    unfold div Datum.quotient
    simp only
    rw [if_neg hm, hd, Nat.mul_div_cancel_left _ (Nat.pos_of_ne_zero hm), Nat.mul_mod_right]
    unfold ar
    simp only
    congr 2
    · cases s <;> rfl
    · rw [Nat.add_sub_cancel]
      show e - e - ((52 + 2 : Nat) : Int) - 1 = -55
      omega
  rw [e2]
  decide +kernel
theorem along_low {lo hi : Datum} (h : finD lo hi = true) (hl : Held .f32 lo) (b : Int) (hb : in64 b) (h0 : b ≠ 0) : eq (Pl.lerp (Pl.coord 0 b) lo hi) lo = true := by
  obtain ⟨⟨s, m, i, rfl⟩, t, n, j, rfl⟩ := fin_num h
  obtain ⟨z, hz⟩ := coord_zero b hb h0
  unfold Pl.lerp
  rw [hz, show sub .f32 Pl.one32 (.number z 0 (-149)) = Pl.one32 from by cases z <;> decide +kernel, mul_one32 hl, mul_zero32]
  exact add_zero32 hl _ _
theorem along_high {lo hi : Datum} (h : finD lo hi = true) (hh : Held .f32 hi) (b : Int) (hb : in64 b) (h0 : b ≠ 0) : eq (Pl.lerp (Pl.coord b b) lo hi) hi = true := by
  obtain ⟨⟨s, m, i, rfl⟩, t, n, j, rfl⟩ := fin_num h
  unfold Pl.lerp
  rw [coord_one b hb h0, show sub .f32 Pl.one32 Pl.one32 = .number false 0 (-149) from by decide +kernel, mul_one32 hh, mul_zero32]
  exact zero32_add hh _ _
end Kf
end Go.Proofs.Qxb6500343a
