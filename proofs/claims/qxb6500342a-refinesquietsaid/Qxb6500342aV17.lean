/-
  Walks 17: the law's Into and Bumped.
-/
import Derived.Test.Qxb6500342aV15
namespace Go.Proofs.Qxb6500342a
open Go.RowKit
open Go.Proofs
open Pl (Hd)
open Tx (st)
set_option linter.unusedSimpArgs false
set_option linter.unusedVariables false
attribute [local go_sem] alloc_drewN setCell_drewN shape?_drewN

theorem sx16_tmod (v : Int) : (let r := Int.tmod v 65536; let r1 := if r < -32768 then r + 65536 else r; if 32767 < r1 then r1 - 65536 else r1) = Pl.sx16 v := by
  simp only [Pl.sx16]
  have h : Int.tmod v 65536 = if 0 ≤ v then v % 65536 else -((-v) % 65536) := by
    split
    · rename_i h; exact Int.tmod_eq_emod_of_nonneg h
    · rename_i h
      have := Int.neg_tmod (-v) 65536
      rw [Int.neg_neg] at this
      rw [this, Int.tmod_eq_emod_of_nonneg (by omega)]
  rw [h]
  split <;> split <;> split <;> omega
set_option maxHeartbeats 400000 in
theorem into_any (v : Int) (hv : in64 v) (w : World) : Calls Try.prog 74 #[.int .i64 v, .int .i64 (-32768), .int .i64 32767] w fun e w' => e = .returned (.int .i64 (Pl.sx16 v)) ∧ w' = w := by
  have HV := sx16_tmod v
  have hr : -65536 < Int.tmod v 65536 ∧ Int.tmod v 65536 < 65536 := by
    have h1 := Int.tmod_lt_of_pos v (show (0 : Int) < 65536 by omega)
    have h2 := Int.lt_tmod_of_pos v (show (0 : Int) < 65536 by omega)
    omega
  simp only at HV
  have HH : Hid (_ = Pl.sx16 v) := HV
  clear HV
  generalize hrr : Int.tmod v 65536 = r at *
  obtain ⟨hv0, hv1⟩ := hv
  by_cases h1 : r < -32768
  · have d1 : decide (r < -32768) = true := decide_eq_true h1
    have d2 : decide (32767 < r + 65536) = false := decide_eq_false (by omega)
    go_enter Try.func74, Try.ntmps74
    go_wp2
    go_ret
    refine ⟨ret_int ?_, rfl⟩
    rw [← HH.out, if_pos h1, if_neg (by omega)]
  · have d1 : decide (r < -32768) = false := decide_eq_false h1
    by_cases h2 : 32767 < r
    · have d2 : decide (32767 < r) = true := decide_eq_true h2
      go_enter Try.func74, Try.ntmps74
      go_wp2
      go_ret
      refine ⟨ret_int ?_, rfl⟩
      rw [← HH.out, if_neg (show ¬ r < -32768 by omega), if_pos h2]
    · have d2 : decide (32767 < r) = false := decide_eq_false h2
      go_enter Try.func74, Try.ntmps74
      go_wp2
      go_ret
      refine ⟨ret_int ?_, rfl⟩
      rw [← HH.out, if_neg (show ¬ r < -32768 by omega), if_neg (by omega)]
theorem sx16_range (v : Int) : -32768 ≤ Pl.sx16 v ∧ Pl.sx16 v ≤ 32767 := by unfold Pl.sx16; omega
theorem sx16_add (a d : Int) : Pl.sx16 (a + Pl.sx16 d) = Pl.sx16 (a + d) := by unfold Pl.sx16; omega
set_option maxHeartbeats 1000000 in
theorem bumped_any (h : Hd) (hg : Pl.good h = true) (d : Int) (hd : in64 d) (w : World) : Calls Try.prog 61 #[hdV h, .int .i64 d] w fun e w' => e = .returned (hdV (Pl.bumpH h d)) ∧ Ext w w' := by
  obtain ⟨hk, hdd, hl, hf, hs⟩ := h
  obtain ⟨k0, k1, d0, d1, l0, l1, f0, f1, s0, s1⟩ := (Pl.good_iff _).1 hg
  simp only at k0 k1 d0 d1 l0 l1 f0 f1 s0 s1
  clear hg
  have hft : Int.tmod hf 2 = hf % 2 := Int.tmod_eq_emod_of_nonneg f0
  unfold hdV
  have hr0 := sx16_range d
  have HA : Hid (Pl.sx16 (hdd + Pl.sx16 d) = Pl.sx16 (hdd + d)) := sx16_add _ _
  have hr := sx16_range (hdd + d)
  have x0 : Ext w ((w.alloc (.cells #[.int .i64 hk, .int .i64 hdd, .int .i64 hl, .int .i64 hf, .int .i64 hs] 27)).alloc (.cells #[.int .i64 0, .int .i64 0, .int .i64 0, .int .i64 0, .int .i64 0] 27)) := ((Ext.refl w).alloc _).alloc _
  by_cases c1 : hl < 65535 <;> by_cases c2 : 2047 < hs + 1 <;> by_cases c3 : hf % 2 = 0
  all_goals
    have e1 : decide (hl < 65535) = true ∨ decide (hl < 65535) = false := by cases decide (hl < 65535) <;> simp
    have e2 : decide (2047 < hs + 1) = true ∨ decide (2047 < hs + 1) = false := by cases decide (2047 < hs + 1) <;> simp
    have e3 : (hf % 2 == 0) = true ∨ (hf % 2 == 0) = false := by cases (hf % 2 == 0) <;> simp
    simp only [c1, c2, c3, decide_true, decide_false, reduceCtorEq, or_false, false_or, beq_self_eq_true] at e1 e2 e3
  all_goals
    go_enter Try.func61, Try.ntmps61
    go_wp2_with fail
    refine (into_any d hd _).mono ?_
    rintro e w1 ⟨rfl, rfl⟩
    generalize Pl.sx16 d = D at *
    go_wp2_with fail
    refine (into_any (hdd + D) (by unfold in64; omega) _).mono ?_
    rintro e w1 ⟨rfl, rfl⟩
    rw [HA.out]
    generalize hX : Pl.sx16 (hdd + d) = X at *
    go_wp2
    apply bodyPost_ret
    focus (simp [results, Try.results61, go_sem]; rfl)
    focus rfl
    refine ⟨?_, ((Ext.refl w).alloc _).alloc _⟩
    simp only [Pl.bumpH, hX]
    first
      | rw [if_pos (show hl < 65535 by omega)]
      | rw [if_neg (show ¬ hl < 65535 by omega)]
    first
      | rw [if_pos (show hf % 2 = 0 by omega)]
      | rw [if_neg (show ¬ hf % 2 = 0 by omega)]
    first
      | rw [show (hs + 1) % 2048 = 0 by omega]
      | rw [show (hs + 1) % 2048 = hs + 1 by omega]
end Go.Proofs.Qxb6500342a
