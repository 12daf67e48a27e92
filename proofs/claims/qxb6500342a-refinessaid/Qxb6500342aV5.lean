/-
  Walks 5: the board's questions.
-/
import Derived.Test.Qxb6500342aV4
import Derived.Test.Qxb6500342aBd
namespace Go.Proofs.Qxb6500342a
open Go.RowKit
open Go.Proofs
open Pl (Hd)
set_option linter.unusedSimpArgs false
set_option linter.unusedVariables false
attribute [local go_sem] alloc_drewN setCell_drewN shape?_drewN

def CntR (u : Nat) (n x : Value) : Prop := ∃ y c : Nat, y < 256 ∧ x = .int .u64 y ∧ n = .int .i64 c ∧ c + Bd.cnt y = Bd.cnt u
set_option maxHeartbeats 400000 in
theorem count_any (w : World) (p u : Nat) (h : BoardAt w p u) (hu : u < 256) : Calls Try.prog 56 #[.pointer (some ⟨p, 0, none⟩)] w fun e w' => e = .returned (.int .i64 (Bd.cnt u)) ∧ Ext w w' := by
  have g0 : w.cell? ⟨p, 0, none⟩ = some (.int .u64 u) := cell_of h 0
  go_enter Try.func56, Try.ntmps56
  go_wp2
  go_loop [3, 4] (fun n x => CntR u n x) (fun _ x => (intOf x).toNat)
  case atStart => exact ⟨u, 0, hu, rfl, rfl, by omega⟩
  case round =>
    obtain ⟨y, c, hy, rfl, rfl, hc⟩ := hrel
    have hle := Bd.cnt_le u
    by_cases hz : y = 0
    · subst hz
      have h0 : Bd.cnt 0 = 0 := by decide
      have HC : Hid (c + Bd.cnt 0 = Bd.cnt u) := hc
      clear hc
      go_wp2
      go_ret
      exact ⟨ret_int (by have := HC.out; omega), Ext.refl _⟩
    · have hs := Bd.cnt_step y hy hz
      have HC : Hid (c + Bd.cnt y = Bd.cnt u ∧ (y &&& (y - 1)) < y ∧ Bd.cnt y = Bd.cnt (y &&& (y - 1)) + 1) := ⟨hc, hs⟩
      have hcl : c ≤ 8 := by omega
      have hne : ((y : Int) == 0) = false := beq_eq_false_iff_ne.2 (by omega)
      have hne2 : ((y : Int) != 0) = true := by rw [bne_iff_ne]; omega
      have hand : bits .and .u64 (y : Int) ((y : Int) - 1) = ((y &&& (y - 1) : Nat) : Int) := by
        rw [show (y : Int) - 1 = ((y - 1 : Nat) : Int) from by omega, u64_and_nat y _ (by omega) (by omega)]
      have HA : Hid (bits .and .u64 (y : Int) ((y : Int) - 1) = ((y &&& (y - 1) : Nat) : Int)) := hand
      clear hc hs hand
      go_wp2
      go_round
      case rel => exact ⟨y &&& (y - 1), c + 1, by have := HC.out; omega, by rw [HA.out], by go_num, by have := HC.out; omega⟩
      case measure => simp [intOf, HA.out]; have := HC.out; omega

def LowR (k : Nat) (n x : Value) : Prop := ∃ j : Nat, j ≤ k ∧ n = .int .i64 j ∧ x = .int .u64 ((2 ^ (k - j) : Nat) : Int)
theorem pow_half (m : Nat) (h : 0 < m) : ((2 ^ m : Nat) : Int) / 2 = ((2 ^ (m - 1) : Nat) : Int) := by
  obtain ⟨m, rfl⟩ : ∃ q, m = q + 1 := ⟨m - 1, by omega⟩
  rw [Nat.pow_succ, Nat.add_sub_cancel]
  omega
set_option maxHeartbeats 1000000 in
theorem lowest_any (w : World) (p u : Nat) (h : BoardAt w p (18446744073709551615 - u)) (hu : u < 256) : Calls Try.prog 71 #[.pointer (some ⟨p, 0, none⟩)] w fun e w' => e = .returned (.tuple #[.int .i64 (Bd.low u), .bool true]) ∧ Ext w w' := by
  have HL : Hid (bits .andNot .u64 ((18446744073709551615 - u : Nat) : Int) (((18446744073709551615 - u : Nat) : Int) - 1) = ((2 ^ Bd.low u : Nat) : Int)) := by
    show _ = _
    rw [show ((18446744073709551615 - u : Nat) : Int) - 1 = ((18446744073709551615 - u - 1 : Nat) : Int) from by omega, u64_andNot_nat _ _ (by omega) (by omega), Bd.low_bit u hu]
  have g0 : ∀ w', Ext w w' → w'.cell? ⟨p, 0, none⟩ = some (.int .u64 ((18446744073709551615 - u : Nat) : Int)) := fun w' hx => cell_of (hx.heap h) 0
  have hk := Bd.low_le u
  generalize hq : 18446744073709551615 - u = q at *
  have hq1 : 18446744073709551360 ≤ q := by omega
  have hq2 : q < 18446744073709551616 := by omega
  have hne : ((q : Int) == 0) = false := beq_eq_false_iff_ne.2 (by omega)
  have hwr : IntKind.u64.wrap ((q : Int) - 1) = (q : Int) - 1 := by rw [IntKind.wrap_u64]; omega
  generalize hkk : Bd.low u = k at *
  clear hq hkk h
  have hx0 := Ext.refl w
  go_enter Try.func71, Try.ntmps71
  go_wp2
  refine Calm.region 11 0 (fun _ => false) (Ext w) (by kernel_rfl) (by kernel_rfl) hx0.drew ?_
  simp only [List.take, List.drop]
  repeat (first
    | (refine Calm.walk_move _ (by first | exact .inl rfl | exact .inr rfl) rfl rfl ?_; simp only [Act.put, List.setIfInBounds_toArray, List.set, Act.eval, List.getD_toArray, List.getD_cons_zero, List.getD_cons_succ])
    | (apply Calm.walk_value; rfl; rfl; (intro w' hw'; simp [go_sem, hw', g0, hwr]; rfl); simp only [Act.put, List.setIfInBounds_toArray, List.set]))
  show ∀ w', _
  intro w2 hx2
  rw [HL.out]
  go_wp2
  go_loop [4, 5] (fun n x => LowR k n x) (fun n _ => k - (intOf n).toNat)
  case atStart => exact ⟨0, by omega, rfl, by simp⟩
  case round =>
    obtain ⟨j, hj, rfl, rfl⟩ := hrel
    by_cases hlt : j < k
    · have hp := pow_half (k - j) (by omega)
      have hbig : (1 : Int) < ((2 ^ (k - j) : Nat) : Int) := by
        have : 2 ^ 1 ≤ 2 ^ (k - j) := Nat.pow_le_pow_right (by decide) (by omega)
        omega
      have HP : Hid (((2 ^ (k - j) : Nat) : Int) / 2 = ((2 ^ (k - j - 1) : Nat) : Int)) := hp
      clear hp
      generalize hg : ((2 ^ (k - j) : Nat) : Int) = g at *
      have hd : decide (1 < g) = true := decide_eq_true hbig
      clear hg
      go_wp2
      go_round
      case rel => exact ⟨j + 1, by omega, by go_num, by rw [HP.out, Nat.sub_sub]⟩
      case measure => simp [intOf]; omega
    · have hjk : j = k := by omega
      subst hjk
      have hd : decide ((1 : Int) < ((2 ^ (j - j) : Nat) : Int)) = false := by simp
      have e1 : ((2 ^ (j - j) : Nat) : Int) = 1 := by simp
      rw [e1]
      clear hd e1
      go_wp2
      go_ret2
      exact ⟨rfl, hx2⟩

/-- The search by halves, below 256. -/
def HiR (n x s : Value) : Prop := ∃ (c y t : Nat), n = .int .i64 c ∧ x = .int .u64 y ∧ s = .int .u64 t ∧ y < 256 ∧ ((t = 32 ∧ c = 0) ∨ (t = 16 ∧ c = 0) ∨ (t = 8 ∧ c = 0) ∨ (t = 4 ∧ c = 0) ∨ (t = 2 ∧ c ≤ 4) ∨ (t = 1 ∧ c ≤ 6) ∨ (t = 0 ∧ c ≤ 7))
set_option maxHeartbeats 400000 in
theorem highest_zero (w : World) (p : Nat) (h : BoardAt w p 0) : Calls Try.prog 60 #[.pointer (some ⟨p, 0, none⟩)] w fun e w' => e = .returned (.tuple #[.int .i64 0, .bool false]) ∧ Ext w w' := by
  have g0 : w.cell? ⟨p, 0, none⟩ = some (.int .u64 0) := cell_of h 0
  go_enter Try.func60, Try.ntmps60
  go_wp2
  go_ret2
  exact ⟨rfl, Ext.refl _⟩
set_option maxHeartbeats 1000000 in
theorem highest_some (w : World) (p u : Nat) (h : BoardAt w p u) (hu : u < 256) (h0 : 0 < u) : Calls Try.prog 60 #[.pointer (some ⟨p, 0, none⟩)] w fun e w' => ∃ c : Nat, c < 8 ∧ e = .returned (.tuple #[.int .i64 c, .bool true]) ∧ Ext w w' := by
  have g0 : ∀ w', Ext w w' → w'.cell? ⟨p, 0, none⟩ = some (.int .u64 u) := fun w' hx => cell_of (hx.heap h) 0
  have hne : ((u : Int) == 0) = false := beq_eq_false_iff_ne.2 (by omega)
  have hx0 := Ext.refl w
  clear h
  go_enter Try.func60, Try.ntmps60
  go_wp2
  refine Calm.region 6 0 (fun _ => false) (Ext w) (by kernel_rfl) (by kernel_rfl) hx0.drew ?_
  simp only [List.take, List.drop]
  repeat (first
    | (refine Calm.walk_move _ (by first | exact .inl rfl | exact .inr rfl) rfl rfl ?_; simp only [Act.put, List.setIfInBounds_toArray, List.set, Act.eval, List.getD_toArray, List.getD_cons_zero, List.getD_cons_succ])
    | (apply Calm.walk_value; rfl; rfl; (intro w' hw'; simp [go_sem, hw', g0]; rfl); simp only [Act.put, List.setIfInBounds_toArray, List.set]))
  show ∀ w', _
  intro w2 hx2
  go_wp2
  go_loop [4, 5, 6] (fun n x s => HiR n x s) (fun _ _ s => (intOf s).toNat)
  case atStart => exact ⟨0, u, 32, rfl, rfl, rfl, hu, .inl ⟨rfl, rfl⟩⟩
  case round =>
    obtain ⟨c, y, t, rfl, rfl, rfl, hy, hcase⟩ := hrel
    rcases hcase with ⟨rfl, rfl⟩ | ⟨rfl, rfl⟩ | ⟨rfl, rfl⟩ | ⟨rfl, rfl⟩ | ⟨rfl, hc⟩ | ⟨rfl, hc⟩ | ⟨rfl, hc⟩
    · have hz : ((y : Int) / 4294967296 != 0) = false := by rw [bne_eq_false_iff_eq]; omega
      go_wp2
      go_round
      case rel => exact ⟨0, y, 16, rfl, rfl, rfl, hy, .inr (.inl ⟨rfl, rfl⟩)⟩
      case measure => simp [intOf]
    · have hz : ((y : Int) / 65536 != 0) = false := by rw [bne_eq_false_iff_eq]; omega
      go_wp2
      go_round
      case rel => exact ⟨0, y, 8, rfl, rfl, rfl, hy, .inr (.inr (.inl ⟨rfl, rfl⟩))⟩
      case measure => simp [intOf]
    · have hz : ((y : Int) / 256 != 0) = false := by rw [bne_eq_false_iff_eq]; omega
      go_wp2
      go_round
      case rel => exact ⟨0, y, 4, rfl, rfl, rfl, hy, .inr (.inr (.inr (.inl ⟨rfl, rfl⟩)))⟩
      case measure => simp [intOf]
    · by_cases hq : (y : Int) / 16 = 0
      · have hz : ((y : Int) / 16 != 0) = false := by rw [bne_eq_false_iff_eq]; omega
        clear hq
        go_wp2
        go_round
        case rel => exact ⟨0, y, 2, rfl, rfl, rfl, hy, .inr (.inr (.inr (.inr (.inl ⟨rfl, by omega⟩))))⟩
        case measure => simp [intOf]
      · have hz : ((y : Int) / 16 != 0) = true := by rw [bne_iff_ne]; omega
        clear hq
        go_wp2
        go_round
        case rel => exact ⟨4, y / 16, 2, by go_num, by simp, rfl, by omega, .inr (.inr (.inr (.inr (.inl ⟨rfl, by omega⟩))))⟩
        case measure => simp [intOf]
    · by_cases hq : (y : Int) / 4 = 0
      · have hz : ((y : Int) / 4 != 0) = false := by rw [bne_eq_false_iff_eq]; omega
        clear hq
        go_wp2
        go_round
        case rel => exact ⟨c, y, 1, rfl, rfl, rfl, hy, .inr (.inr (.inr (.inr (.inr (.inl ⟨rfl, by omega⟩)))))⟩
        case measure => simp [intOf]
      · have hz : ((y : Int) / 4 != 0) = true := by rw [bne_iff_ne]; omega
        clear hq
        go_wp2
        go_round
        case rel => exact ⟨c + 2, y / 4, 1, by go_num, by simp, rfl, by omega, .inr (.inr (.inr (.inr (.inr (.inl ⟨rfl, by omega⟩)))))⟩
        case measure => simp [intOf]
    · by_cases hq : (y : Int) / 2 = 0
      · have hz : ((y : Int) / 2 != 0) = false := by rw [bne_eq_false_iff_eq]; omega
        clear hq
        go_wp2
        go_round
        case rel => exact ⟨c, y, 0, rfl, rfl, rfl, hy, .inr (.inr (.inr (.inr (.inr (.inr ⟨rfl, by omega⟩)))))⟩
        case measure => simp [intOf]
      · have hz : ((y : Int) / 2 != 0) = true := by rw [bne_iff_ne]; omega
        clear hq
        go_wp2
        go_round
        case rel => exact ⟨c + 1, y / 2, 0, by go_num, by simp, rfl, by omega, .inr (.inr (.inr (.inr (.inr (.inr ⟨rfl, by omega⟩)))))⟩
        case measure => simp [intOf]
    · go_wp2
      go_ret2
      exact ⟨c, by omega, rfl, hx2⟩
end Go.Proofs.Qxb6500342a
