/-
  Walks 1: headers and packed words.
-/
import Derived.Test.Qxb6500342aProg
import Derived.Test.Qxb6500342aHp
import Derived.Test.Qxb6500342aBt
namespace Go.Proofs.Qxb6500342a
open Go.RowKit
open Go.Proofs
open Pl (Hd)
set_option linter.unusedSimpArgs false
set_option linter.unusedVariables false
attribute [local go_sem] alloc_drewN setCell_drewN shape?_drewN

def hdV (h : Hd) : Value := .agg #[.int .i64 h.k, .int .i64 h.d, .int .i64 h.l, .int .i64 h.f, .int .i64 h.s]
theorem ret_int {k : IntKind} {a b : Int} (h : a = b) : Ending.returned (.int k a) = .returned (.int k b) := by rw [h]
theorem or_add {n : Nat} {a b : Int} (ha0 : 0 ≤ a) (ha : a < 2 ^ n) (hb0 : 0 ≤ b) (hb : b % 2 ^ n = 0) (ha64 : a < 18446744073709551616) (hb64 : b < 18446744073709551616) : bits .or .u64 a b = b + a := by
  obtain ⟨a, rfl⟩ := Int.eq_ofNat_of_zero_le ha0
  obtain ⟨b, rfl⟩ := Int.eq_ofNat_of_zero_le hb0
  rw [u64_or_nat a b (by omega) (by omega)]
  have hd : b % 2 ^ n = 0 := by exact_mod_cast hb
  have ha' : a < 2 ^ n := by exact_mod_cast ha
  have hq : b = 2 ^ n * (b / 2 ^ n) := by
    have := Nat.div_add_mod b (2 ^ n)
    omega
  have h2 := Nat.two_pow_add_eq_or_of_lt ha' (b / 2 ^ n)
  rw [← hq] at h2
  rw [Nat.or_comm, ← h2]
  simp
theorem and_mask (n : Nat) {a : Int} (ha0 : 0 ≤ a) (ha : a < 18446744073709551616) (hn : n ≤ 64) (m : Int) (hm : m = 2 ^ n - 1) : bits .and .u64 a m = a % 2 ^ n := by
  obtain ⟨a, rfl⟩ := Int.eq_ofNat_of_zero_le ha0
  have hp : (2 : Nat) ^ n ≤ 2 ^ 64 := Nat.pow_le_pow_right (by decide) hn
  have hp' : 0 < (2 : Nat) ^ n := Nat.two_pow_pos n
  have e : m = ((2 ^ n - 1 : Nat) : Int) := by
    rw [hm, Int.natCast_sub hp']; simp
  rw [e, u64_and_nat a _ (by omega) (by omega), Nat.and_two_pow_sub_one_eq_mod]
  simp

theorem wrap_u64_in {n : Int} (h0 : 0 ≤ n) (h1 : n < 18446744073709551616) : IntKind.u64.wrap n = n := by rw [IntKind.wrap_u64]; omega
theorem wrap_u16_eq (n : Int) : IntKind.u16.wrap n = n % 65536 := IntKind.wrap_u16 n
theorem wrap_i8_eq (n : Int) : IntKind.i8.wrap n = (n + 128) % 256 - 128 := by
  simp [IntKind.wrap, IntKind.bits, IntKind.signed]
  split <;> omega
theorem wrap_i16_eq (n : Int) : IntKind.i16.wrap n = (n + 32768) % 65536 - 32768 := by
  simp [IntKind.wrap, IntKind.bits, IntKind.signed]
  split <;> omega

/-- The word that Pack comes to. -/
theorem pack_eq (k d l f s : Int) :
    bits .or .u64 (bits .or .u64 (bits .or .u64 (bits .or .u64 (bits .or .u64 0 (IntKind.i8.wrap k % 256)) (IntKind.u64.wrap (IntKind.u64.wrap (IntKind.u16.wrap (IntKind.i16.wrap d)) * 256)))
      (IntKind.u64.wrap (IntKind.u64.wrap (IntKind.u16.wrap l) * 16777216))) (IntKind.u64.wrap (bits .and .u64 (IntKind.u64.wrap f) 31 * 1099511627776))) (IntKind.u64.wrap (bits .and .u64 (IntKind.u64.wrap s) 2047 * 35184372088832)) = Pl.packI ⟨k, d, l, f, s⟩ := by
  have e1 : IntKind.i8.wrap k % 256 = k % 256 := by rw [wrap_i8_eq]; omega
  have e2 : IntKind.u64.wrap (IntKind.u64.wrap (IntKind.u16.wrap (IntKind.i16.wrap d)) * 256) = d % 65536 * 256 := by
    rw [wrap_u16_eq, wrap_i16_eq, IntKind.wrap_u64, IntKind.wrap_u64]; omega
  have e3 : IntKind.u64.wrap (IntKind.u64.wrap (IntKind.u16.wrap l) * 16777216) = l % 65536 * 16777216 := by
    rw [wrap_u16_eq, IntKind.wrap_u64, IntKind.wrap_u64]; omega
  have e4 : IntKind.u64.wrap (bits .and .u64 (IntKind.u64.wrap f) 31 * 1099511627776) = f % 32 * 1099511627776 := by
    rw [and_mask 5 (by rw [IntKind.wrap_u64]; omega) (by rw [IntKind.wrap_u64]; omega) (by decide) 31 (by decide), IntKind.wrap_u64, IntKind.wrap_u64]; omega
  have e5 : IntKind.u64.wrap (bits .and .u64 (IntKind.u64.wrap s) 2047 * 35184372088832) = s % 2048 * 35184372088832 := by
    rw [and_mask 11 (by rw [IntKind.wrap_u64]; omega) (by rw [IntKind.wrap_u64]; omega) (by decide) 2047 (by decide), IntKind.wrap_u64, IntKind.wrap_u64]; omega
  rw [e1, e2, e3, e4, e5]
  have hk : 0 ≤ k % 256 ∧ k % 256 < 256 := by omega
  have hd : 0 ≤ d % 65536 ∧ d % 65536 < 65536 := by omega
  have hl : 0 ≤ l % 65536 ∧ l % 65536 < 65536 := by omega
  have hf : 0 ≤ f % 32 ∧ f % 32 < 32 := by omega
  have hs : 0 ≤ s % 2048 ∧ s % 2048 < 2048 := by omega
  unfold Pl.packI
  dsimp only
  generalize k % 256 = k at *
  generalize d % 65536 = d at *
  generalize l % 65536 = l at *
  generalize f % 32 = f at *
  generalize s % 2048 = s at *
  rw [or_add (n := 0) (a := 0) (b := k) (by omega) (by omega) (by omega) (by omega) (by omega) (by omega)]
  rw [or_add (n := 8) (a := k + 0) (b := d * 256) (by omega) (by omega) (by omega) (by omega) (by omega) (by omega)]
  rw [or_add (n := 24) (a := d * 256 + (k + 0)) (b := l * 16777216) (by omega) (by omega) (by omega) (by omega) (by omega) (by omega)]
  rw [or_add (n := 40) (a := l * 16777216 + (d * 256 + (k + 0))) (b := f * 1099511627776) (by omega) (by omega) (by omega) (by omega) (by omega) (by omega)]
  rw [or_add (n := 45) (a := f * 1099511627776 + (l * 16777216 + (d * 256 + (k + 0)))) (b := s * 35184372088832) (by omega) (by omega) (by omega) (by omega) (by omega) (by omega)]
  omega
set_option maxHeartbeats 400000 in
theorem pack_any (h : Hd) (w : World) :
    Calls Try.prog 22 #[hdV h] w fun e w' => e = .returned (.int .u64 (Pl.packI h)) ∧ Ext w w' := by
  obtain ⟨k, d, l, f, s⟩ := h
  unfold hdV
  go_enter Try.func22, Try.ntmps22
  go_wp2
  go_ret
  exact ⟨ret_int (pack_eq k d l f s), (Ext.refl _).alloc _⟩
theorem unpack_eq (x : Int) (h0 : 0 ≤ x) (h1 : x < 18446744073709551616) :
    Value.agg #[.int .i64 (wrap64 (IntKind.i8.wrap x)), .int .i64 (wrap64 (IntKind.i16.wrap (x / 256))), .int .i64 (wrap64 (IntKind.u16.wrap (x / 16777216))), .int .i64 (wrap64 (bits .and .u64 (x / 1099511627776) 31)), .int .i64 (wrap64 (bits .and .u64 (x / 35184372088832) 2047))] = hdV (Pl.unpackI x) := by
  have e4 : bits .and .u64 (x / 1099511627776) 31 = x / 1099511627776 % 32 := and_mask 5 (by omega) (by omega) (by decide) 31 (by decide)
  have e5 : bits .and .u64 (x / 35184372088832) 2047 = x / 35184372088832 % 2048 := and_mask 11 (by omega) (by omega) (by decide) 2047 (by decide)
  rw [e4, e5]
  unfold hdV Pl.unpackI Pl.sx8 Pl.sx16
  rw [IntWalk.wrap64_in _ (by rw [wrap_i8_eq]; omega), IntWalk.wrap64_in _ (by rw [wrap_i16_eq]; omega), IntWalk.wrap64_in _ (by rw [wrap_u16_eq]; omega), IntWalk.wrap64_in _ (by omega), IntWalk.wrap64_in _ (by omega), wrap_i8_eq, wrap_i16_eq, wrap_u16_eq]
set_option maxHeartbeats 400000 in
theorem unpack_any (x : Int) (h0 : 0 ≤ x) (h1 : x < 18446744073709551616) (w : World) :
    Calls Try.prog 24 #[.int .u64 x] w fun e w' => e = .returned (hdV (Pl.unpackI x)) ∧ Ext w w' := by
  go_enter Try.func24, Try.ntmps24
  go_wp2
  apply bodyPost_ret
  focus (simp [results, Try.results24, go_sem]; rfl)
  focus rfl
  exact ⟨congrArg _ (unpack_eq x h0 h1), ((Ext.refl _).alloc _).alloc _⟩
end Go.Proofs.Qxb6500342a
