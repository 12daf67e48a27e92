/-
  Walks 4: the board.
-/
import Derived.Test.Qxb6500342aV3
namespace Go.Proofs.Qxb6500342a
open Go.RowKit
open Go.Proofs
open Pl (Hd)
set_option linter.unusedSimpArgs false
set_option linter.unusedVariables false
attribute [local go_sem] alloc_drewN setCell_drewN shape?_drewN
def BoardAt (w : World) (p : Nat) (x : Nat) : Prop := w.heap[p]? = some (.cells #[.int .u64 (x : Int), .int .i8 0, .int .i16 0, .int .u16 0] 88)
theorem BoardAt.ext {w w' : World} {p x : Nat} (h : BoardAt w p x) (hx : Ext w w') : BoardAt w' p x := hx.heap h
theorem BoardAt.chg {S : List Nat} {w w' : World} {p x : Nat} (h : BoardAt w p x) (hx : Chg S w w') (hp : p ∉ S) : BoardAt w' p x := Chg.heap hx h hp
set_option maxHeartbeats 400000 in
theorem wnew_any (w : World) : Calls Try.prog 33 #[] w fun e w' => e = .returned (.pointer (some ⟨w.heap.size, 0, none⟩)) ∧ BoardAt w' w.heap.size 0 ∧ Ext w w' := by
  go_enter Try.func33, Try.ntmps33
  go_wp2
  go_ret
  exact ⟨rfl, heap_alloc_new _ _, (Ext.refl _).alloc _⟩
set_option maxHeartbeats 400000 in
theorem inside_yes (n : Nat) (hn : n < 64) (w : World) : Calls Try.prog 72 #[.int .i64 n] w fun e w' => e = .returned (.bool true) ∧ w' = w := by
  have d0 : decide (0 ≤ (n : Int)) = true := decide_eq_true (by omega)
  have d1 : decide ((n : Int) < 64) = true := decide_eq_true (by omega)
  go_enter Try.func72, Try.ntmps72
  go_wp2
  go_ret
  exact ⟨rfl, rfl⟩
theorem has_eq (x n : Nat) (hx : x < 18446744073709551616) : (bits .and .u64 ((x : Int) / 2 ^ n) 1 == 1) = x.testBit n := by
  have e : ((x : Int) / 2 ^ n) = ((x / 2 ^ n : Nat) : Int) := by simp
  have hlt : x / 2 ^ n ≤ x := Nat.div_le_self _ _
  rw [e, Nat.testBit_eq_decide_div_mod_eq]
  generalize x / 2 ^ n = q at *
  rw [and_mask 1 (by omega) (by omega) (by decide) 1 (by decide)]
  rw [Bool.eq_iff_iff]
  simp
  omega
theorem pow_in (n : Nat) (hn : n < 64) : IntKind.u64.wrap ((2 : Int) ^ n) = ((2 ^ n : Nat) : Int) ∧ 2 ^ n < 18446744073709551616 := by
  have h1 : (2 : Nat) ^ n < 2 ^ 64 := Nat.pow_lt_pow_right (by decide) hn
  have e : ((2 : Int) ^ n) = ((2 ^ n : Nat) : Int) := by simp
  rw [e]
  generalize (2 : Nat) ^ n = q at *
  exact ⟨wrap_u64_in (by omega) (by omega), by omega⟩
theorem add_eq (x n : Nat) (hx : x < 18446744073709551616) (hn : n < 64) : bits .or .u64 (x : Int) (IntKind.u64.wrap (2 ^ n)) = ((x ||| 2 ^ n : Nat) : Int) := by
  rw [(pow_in n hn).1, u64_or_nat x _ hx (pow_in n hn).2]
theorem rem_eq (x n : Nat) (hx : x < 18446744073709551616) (hn : n < 64) : bits .andNot .u64 (x : Int) (IntKind.u64.wrap (2 ^ n)) = ((x &&& (18446744073709551615 - 2 ^ n) : Nat) : Int) := by
  rw [(pow_in n hn).1, u64_andNot_nat x _ hx (pow_in n hn).2]
theorem flip_eq (x : Nat) (hx : x < 18446744073709551616) : bits .xor .u64 IntKind.u64.max (x : Int) = ((18446744073709551615 - x : Nat) : Int) := by
  have e : IntKind.u64.max = ((18446744073709551615 : Nat) : Int) := by decide
  rw [e, u64_xor_nat _ x (by decide) hx]
  congr 1
  apply Nat.eq_of_testBit_eq
  intro j
  have e1 : 18446744073709551615 - x = 2 ^ 64 - (x + 1) := by omega
  have e2 : (18446744073709551615 : Nat) = 2 ^ 64 - 1 := by decide
  rw [Nat.testBit_xor, e1, Nat.testBit_two_pow_sub_succ (by omega), e2, Nat.testBit_two_pow_sub_one]
  by_cases h : j < 64
  · simp [h]
  · have : x.testBit j = false := Nat.testBit_lt_two_pow (Nat.lt_of_lt_of_le hx (by rw [show (18446744073709551616 : Nat) = 2 ^ 64 from by decide]; exact Nat.pow_le_pow_right (by decide) (by omega)))
    simp [h, this]
set_option maxHeartbeats 400000 in
theorem has_in (w : World) (p x n : Nat) (h : BoardAt w p x) (hx : x < 18446744073709551616) (hn : n < 64) : Calls Try.prog 57 #[.pointer (some ⟨p, 0, none⟩), .int .i64 n] w fun e w' => e = .returned (.bool (x.testBit n)) ∧ Ext w w' := by
  have g0 : w.cell? ⟨p, 0, none⟩ = some (.int .u64 x) := cell_of h 0
  go_enter Try.func57, Try.ntmps57
  go_wp2_with fail
  refine (inside_yes n hn w).mono ?_
  rintro e w1 ⟨rfl, rfl⟩
  go_wp2
  go_ret
  exact ⟨ret_bool (has_eq x n hx), Ext.refl _⟩
set_option maxHeartbeats 400000 in
theorem wadd_in (w : World) (p x n : Nat) (h : BoardAt w p x) (hx : x < 18446744073709551616) (hn : n < 64) : Calls Try.prog 52 #[.pointer (some ⟨p, 0, none⟩), .int .i64 n] w fun e w' => e = .returned (.int .i64 0) ∧ BoardAt w' p (x ||| 2 ^ n) ∧ Chg [p] w w' := by
  have g0 : w.cell? ⟨p, 0, none⟩ = some (.int .u64 x) := cell_of h 0
  have gf : w.frozen? ⟨p, 0, none⟩ = false := frozen_of h 0
  have HH : Hid (BoardAt w p x) := h
  clear h
  go_enter Try.func52, Try.ntmps52
  go_wp2_with fail
  refine (inside_yes n hn w).mono ?_
  rintro e w1 ⟨rfl, rfl⟩
  go_wp2
  go_ret
  refine ⟨rfl, ?_, (Chg.refl _ _).setCell (by simp) _⟩
  unfold BoardAt
  rw [heap_set HH.out 0 _, add_eq x n hx hn]
  rfl
set_option maxHeartbeats 400000 in
theorem wrem_in (w : World) (p x n : Nat) (h : BoardAt w p x) (hx : x < 18446744073709551616) (hn : n < 64) : Calls Try.prog 54 #[.pointer (some ⟨p, 0, none⟩), .int .i64 n] w fun e w' => e = .returned (.int .i64 0) ∧ BoardAt w' p (x &&& (18446744073709551615 - 2 ^ n)) ∧ Chg [p] w w' := by
  have g0 : w.cell? ⟨p, 0, none⟩ = some (.int .u64 x) := cell_of h 0
  have gf : w.frozen? ⟨p, 0, none⟩ = false := frozen_of h 0
  have HH : Hid (BoardAt w p x) := h
  clear h
  go_enter Try.func54, Try.ntmps54
  go_wp2_with fail
  refine (inside_yes n hn w).mono ?_
  rintro e w1 ⟨rfl, rfl⟩
  go_wp2
  go_ret
  refine ⟨rfl, ?_, (Chg.refl _ _).setCell (by simp) _⟩
  unfold BoardAt
  rw [heap_set HH.out 0 _, rem_eq x n hx hn]
  rfl
set_option maxHeartbeats 400000 in
theorem flip_any (w : World) (p x : Nat) (h : BoardAt w p x) (hx : x < 18446744073709551616) : Calls Try.prog 70 #[.pointer (some ⟨p, 0, none⟩)] w fun e w' => e = .returned (.tuple #[]) ∧ BoardAt w' p (18446744073709551615 - x) ∧ Chg [p] w w' := by
  have g0 : w.cell? ⟨p, 0, none⟩ = some (.int .u64 x) := cell_of h 0
  have gf : w.frozen? ⟨p, 0, none⟩ = false := frozen_of h 0
  have HH : Hid (BoardAt w p x) := h
  clear h
  go_enter Try.func70, Try.ntmps70
  go_wp2
  refine bodyPost_end (results_none rfl _ _ _) rfl ?_
  refine ⟨rfl, ?_, (Chg.refl _ _).setCell (by simp) _⟩
  unfold BoardAt
  rw [heap_set HH.out 0 _, flip_eq x hx]
  rfl
set_option maxHeartbeats 400000 in
theorem reset_any (w : World) (p x : Nat) (h : BoardAt w p x) : Calls Try.prog 59 #[.pointer (some ⟨p, 0, none⟩)] w fun e w' => e = .returned (.tuple #[]) ∧ BoardAt w' p 0 ∧ Chg [p] w w' := by
  have g0 : w.cell? ⟨p, 0, none⟩ = some (.int .u64 x) := cell_of h 0
  have g1 : w.cell? ⟨p, 1, none⟩ = some (.int .i8 0) := cell_of h 1
  have g2 : w.cell? ⟨p, 2, none⟩ = some (.int .i16 0) := cell_of h 2
  have g3 : w.cell? ⟨p, 3, none⟩ = some (.int .u16 0) := cell_of h 3
  have gf : ∀ o, w.frozen? ⟨p, o, none⟩ = false := frozen_of h
  have HH : Hid (BoardAt w p x) := h
  clear h
  go_enter Try.func59, Try.ntmps59
  go_wp2
  refine bodyPost_end (results_none rfl _ _ _) rfl ?_
  refine ⟨rfl, ?_, ?_⟩
  · unfold BoardAt
    refine (heap_set (heap_set (heap_set (heap_set HH.out _ _) _ _) _ _) _ _).trans ?_
    simp only [List.setIfInBounds_toArray, List.set]
    rfl
  · repeat (refine Chg.setCell ?_ (by simp) _)
    exact Chg.refl _ _
end Go.Proofs.Qxb6500342a
