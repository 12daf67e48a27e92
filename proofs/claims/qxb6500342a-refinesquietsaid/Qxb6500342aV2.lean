/-
  Walks 2: GoodHeader, bump.
-/
import Derived.Test.Qxb6500342aV1
namespace Go.Proofs.Qxb6500342a
open Go.RowKit
open Go.Proofs
open Pl (Hd)
set_option linter.unusedSimpArgs false
set_option linter.unusedVariables false
attribute [local go_sem] alloc_drewN setCell_drewN shape?_drewN
theorem ret_bool {a b : Bool} (h : a = b) : Ending.returned (.bool a) = .returned (.bool b) := by rw [h]
set_option maxHeartbeats 400000 in
theorem goodh_yes (h : Hd) (hg : Pl.good h = true) (w : World) :
    Calls Try.prog 19 #[hdV h] w fun e w' => e = .returned (.bool true) ∧ Ext w w' := by
  obtain ⟨a1, a2, a3, a4, a5, a6, a7, a8, a9, a10⟩ := (Pl.good_iff h).1 hg
  obtain ⟨k, d, l, f, s⟩ := h
  simp only at *
  unfold hdV
  have d0 : decide (k < -128) = false := decide_eq_false (by omega)
  have d1 : decide (127 < k) = false := decide_eq_false (by omega)
  have d2 : decide (d < -32768) = false := decide_eq_false (by omega)
  have d3 : decide (32767 < d) = false := decide_eq_false (by omega)
  have d4 : decide (l < 0) = false := decide_eq_false (by omega)
  have d5 : decide (65535 < l) = false := decide_eq_false (by omega)
  have d6 : decide (f < 0) = false := decide_eq_false (by omega)
  have d7 : decide (31 < f) = false := decide_eq_false (by omega)
  have d8 : decide (0 ≤ s) = true := decide_eq_true (by omega)
  have d9 : decide (s ≤ 2047) = true := decide_eq_true (by omega)
  clear hg a1 a2 a3 a4 a5 a6 a7 a8 a9 a10
  go_enter Try.func19, Try.ntmps19
  go_wp2
  go_ret
  exact ⟨rfl, (Ext.refl _).alloc _⟩
set_option maxHeartbeats 1000000 in
theorem goodh_no (h : Hd) (hg : Pl.good h = false) (w : World) :
    Calls Try.prog 19 #[hdV h] w fun e w' => e = .returned (.bool false) ∧ Ext w w' := by
  have hn : ¬ (-128 ≤ h.k ∧ h.k ≤ 127 ∧ -32768 ≤ h.d ∧ h.d ≤ 32767 ∧ 0 ≤ h.l ∧ h.l ≤ 65535 ∧ 0 ≤ h.f ∧ h.f ≤ 31 ∧ 0 ≤ h.s ∧ h.s ≤ 2047) := fun hh => by
    rw [(Pl.good_iff h).2 hh] at hg; cases hg
  obtain ⟨k, d, l, f, s⟩ := h
  simp only at hn
  unfold hdV
  clear hg
  by_cases c0 : k < -128
  · clear hn
    have d0 : decide (k < -128) = true := decide_eq_true (by omega)
    clear c0
    go_enter Try.func19, Try.ntmps19
    go_wp2
    go_ret
    exact ⟨rfl, (Ext.refl _).alloc _⟩
  by_cases c1 : 127 < k
  · clear hn
    have d0 : decide (k < -128) = false := decide_eq_false (by omega)
    have d1 : decide (127 < k) = true := decide_eq_true (by omega)
    clear c0 c1
    go_enter Try.func19, Try.ntmps19
    go_wp2
    go_ret
    exact ⟨rfl, (Ext.refl _).alloc _⟩
  by_cases c2 : d < -32768
  · clear hn
    have d0 : decide (k < -128) = false := decide_eq_false (by omega)
    have d1 : decide (127 < k) = false := decide_eq_false (by omega)
    have d2 : decide (d < -32768) = true := decide_eq_true (by omega)
    clear c0 c1 c2
    go_enter Try.func19, Try.ntmps19
    go_wp2
    go_ret
    exact ⟨rfl, (Ext.refl _).alloc _⟩
  by_cases c3 : 32767 < d
  · clear hn
    have d0 : decide (k < -128) = false := decide_eq_false (by omega)
    have d1 : decide (127 < k) = false := decide_eq_false (by omega)
    have d2 : decide (d < -32768) = false := decide_eq_false (by omega)
    have d3 : decide (32767 < d) = true := decide_eq_true (by omega)
    clear c0 c1 c2 c3
    go_enter Try.func19, Try.ntmps19
    go_wp2
    go_ret
    exact ⟨rfl, (Ext.refl _).alloc _⟩
  by_cases c4 : l < 0
  · clear hn
    have d0 : decide (k < -128) = false := decide_eq_false (by omega)
    have d1 : decide (127 < k) = false := decide_eq_false (by omega)
    have d2 : decide (d < -32768) = false := decide_eq_false (by omega)
    have d3 : decide (32767 < d) = false := decide_eq_false (by omega)
    have d4 : decide (l < 0) = true := decide_eq_true (by omega)
    clear c0 c1 c2 c3 c4
    go_enter Try.func19, Try.ntmps19
    go_wp2
    go_ret
    exact ⟨rfl, (Ext.refl _).alloc _⟩
  by_cases c5 : 65535 < l
  · clear hn
    have d0 : decide (k < -128) = false := decide_eq_false (by omega)
    have d1 : decide (127 < k) = false := decide_eq_false (by omega)
    have d2 : decide (d < -32768) = false := decide_eq_false (by omega)
    have d3 : decide (32767 < d) = false := decide_eq_false (by omega)
    have d4 : decide (l < 0) = false := decide_eq_false (by omega)
    have d5 : decide (65535 < l) = true := decide_eq_true (by omega)
    clear c0 c1 c2 c3 c4 c5
    go_enter Try.func19, Try.ntmps19
    go_wp2
    go_ret
    exact ⟨rfl, (Ext.refl _).alloc _⟩
  by_cases c6 : f < 0
  · clear hn
    have d0 : decide (k < -128) = false := decide_eq_false (by omega)
    have d1 : decide (127 < k) = false := decide_eq_false (by omega)
    have d2 : decide (d < -32768) = false := decide_eq_false (by omega)
    have d3 : decide (32767 < d) = false := decide_eq_false (by omega)
    have d4 : decide (l < 0) = false := decide_eq_false (by omega)
    have d5 : decide (65535 < l) = false := decide_eq_false (by omega)
    have d6 : decide (f < 0) = true := decide_eq_true (by omega)
    clear c0 c1 c2 c3 c4 c5 c6
    go_enter Try.func19, Try.ntmps19
    go_wp2
    go_ret
    exact ⟨rfl, (Ext.refl _).alloc _⟩
  by_cases c7 : 31 < f
  · clear hn
    have d0 : decide (k < -128) = false := decide_eq_false (by omega)
    have d1 : decide (127 < k) = false := decide_eq_false (by omega)
    have d2 : decide (d < -32768) = false := decide_eq_false (by omega)
    have d3 : decide (32767 < d) = false := decide_eq_false (by omega)
    have d4 : decide (l < 0) = false := decide_eq_false (by omega)
    have d5 : decide (65535 < l) = false := decide_eq_false (by omega)
    have d6 : decide (f < 0) = false := decide_eq_false (by omega)
    have d7 : decide (31 < f) = true := decide_eq_true (by omega)
    clear c0 c1 c2 c3 c4 c5 c6 c7
    go_enter Try.func19, Try.ntmps19
    go_wp2
    go_ret
    exact ⟨rfl, (Ext.refl _).alloc _⟩
  by_cases c8 : s < 0
  · clear hn
    have d0 : decide (k < -128) = false := decide_eq_false (by omega)
    have d1 : decide (127 < k) = false := decide_eq_false (by omega)
    have d2 : decide (d < -32768) = false := decide_eq_false (by omega)
    have d3 : decide (32767 < d) = false := decide_eq_false (by omega)
    have d4 : decide (l < 0) = false := decide_eq_false (by omega)
    have d5 : decide (65535 < l) = false := decide_eq_false (by omega)
    have d6 : decide (f < 0) = false := decide_eq_false (by omega)
    have d7 : decide (31 < f) = false := decide_eq_false (by omega)
    have d8 : decide (0 ≤ s) = false := decide_eq_false (by omega)
    clear c0 c1 c2 c3 c4 c5 c6 c7 c8
    go_enter Try.func19, Try.ntmps19
    go_wp2
    go_ret
    exact ⟨rfl, (Ext.refl _).alloc _⟩
  by_cases c9 : 2047 < s
  · clear hn
    have d0 : decide (k < -128) = false := decide_eq_false (by omega)
    have d1 : decide (127 < k) = false := decide_eq_false (by omega)
    have d2 : decide (d < -32768) = false := decide_eq_false (by omega)
    have d3 : decide (32767 < d) = false := decide_eq_false (by omega)
    have d4 : decide (l < 0) = false := decide_eq_false (by omega)
    have d5 : decide (65535 < l) = false := decide_eq_false (by omega)
    have d6 : decide (f < 0) = false := decide_eq_false (by omega)
    have d7 : decide (31 < f) = false := decide_eq_false (by omega)
    have d8 : decide (0 ≤ s) = true := decide_eq_true (by omega)
    have d9 : decide (s ≤ 2047) = false := decide_eq_false (by omega)
    clear c0 c1 c2 c3 c4 c5 c6 c7 c8 c9
    go_enter Try.func19, Try.ntmps19
    go_wp2
    go_ret
    exact ⟨rfl, (Ext.refl _).alloc _⟩
  omega
theorem goodh_any (h : Hd) (w : World) :
    Calls Try.prog 19 #[hdV h] w fun e w' => e = .returned (.bool (Pl.good h)) ∧ Ext w w' := by
  cases hg : Pl.good h
  · exact goodh_no h hg w
  · exact goodh_yes h hg w

/-- The word that bump comes to: field by field. -/
theorem u64_andNot_lit (a b : Nat) (ha : a < 18446744073709551616) (hb : b < 18446744073709551616) : bits .andNot .u64 (a : Int) (b : Int) = ((a &&& (2 ^ 64 - 1 - b) : Nat) : Int) := u64_andNot_nat a b ha hb
theorem lay_int (i n : Nat) (x v M : Int) (hx0 : 0 ≤ x) (hx : x < 18446744073709551616) (hv0 : 0 ≤ v) (hv : v < 18446744073709551616) (hin : i + n ≤ 64) (hM : M = ((2 ^ n - 1 : Nat) : Int)) (S S' : Int) (hS : S = ((2 ^ n - 1 : Nat) : Int) * ((2 ^ i : Nat) : Int)) (hS' : S' = (bits .and .u64 v M) * ((2 ^ i : Nat) : Int)) :
    bits .or .u64 (bits .andNot .u64 x S) S' = x % 2 ^ i + (v % 2 ^ n) * 2 ^ i + (x / 2 ^ (i + n)) * 2 ^ (i + n) := by
  obtain ⟨x, rfl⟩ := Int.eq_ofNat_of_zero_le hx0
  obtain ⟨v, rfl⟩ := Int.eq_ofNat_of_zero_le hv0
  have hn : (2 : Nat) ^ n ≤ 2 ^ 64 := Nat.pow_le_pow_right (by decide) (by omega)
  have hpn : 0 < (2 : Nat) ^ n := Nat.two_pow_pos n
  have hpi : 0 < (2 : Nat) ^ i := Nat.two_pow_pos i
  have hni : (2 : Nat) ^ n * 2 ^ i ≤ 2 ^ 64 := by rw [← Nat.pow_add]; exact Nat.pow_le_pow_right (by decide) (by omega)
  have hm : (2 ^ n - 1) * 2 ^ i < 2 ^ 64 := Nat.lt_of_lt_of_le (Nat.mul_lt_mul_of_pos_right (Nat.sub_lt hpn (by decide)) hpi) hni
  rw [hM, u64_and_nat v _ (by omega) (by omega)] at hS'
  have e1 : S = (((2 ^ n - 1) * 2 ^ i : Nat) : Int) := by rw [hS]; simp
  have e2 : S' = (((v &&& (2 ^ n - 1)) * 2 ^ i : Nat) : Int) := by rw [hS']; simp
  have hm2 : (v &&& (2 ^ n - 1)) * 2 ^ i < 2 ^ 64 := Nat.lt_of_le_of_lt (Nat.mul_le_mul_right _ Nat.and_le_right) hm
  rw [e1, e2, u64_andNot_lit x _ (by omega) hm, u64_or_nat _ _ (Nat.lt_of_le_of_lt Nat.and_le_left (by omega)) hm2, Bt.lay_nat i n x v (by omega) hin]
  unfold Bt.fr
  simp
end Go.Proofs.Qxb6500342a
