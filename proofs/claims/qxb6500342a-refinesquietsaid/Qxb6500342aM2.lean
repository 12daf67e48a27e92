/-
  The model: at, Get, Drop.
-/
import Derived.Test.Qxb6500342aMh
namespace Go.Proofs.Qxb6500342a
open Go.RowKit
open Go.Proofs
open Pl (Hd)
open Tx (st)
set_option linter.unusedSimpArgs false
set_option linter.unusedVariables false
attribute [local go_sem] alloc_drewN setCell_drewN shape?_drewN

set_option maxHeartbeats 400000 in
theorem mat_any (w : World) (m : Nat) (C : Array Value) (u : Nat) (G : Nat → Hd) (n : Int) (h : MAt w m C u G) : Calls Try.prog 75 #[.pointer (some ⟨m, 0, none⟩), .int .i64 n] w fun e w' => e = .returned (.int .i64 (atE u n)) ∧ Ext w w' := by
  by_cases h0 : n < 0
  · have d0 : decide (n < 0) = true := decide_eq_true h0
    have HE : Hid (atE u n = 2) := by show _ = _; unfold atE; rw [if_pos (.inl h0)]
    clear h
    go_enter Try.func75, Try.ntmps75
    go_wp2
    go_ret
    exact ⟨ret_int HE.out.symm, Ext.refl _⟩
  · have d0 : decide (n < 0) = false := decide_eq_false h0
    by_cases h8 : 8 ≤ n
    · have d1 : decide (8 ≤ n) = true := decide_eq_true h8
      have HE : Hid (atE u n = 2) := by show _ = _; unfold atE; rw [if_pos (.inr h8)]
      clear h
      go_enter Try.func75, Try.ntmps75
      go_wp2
      go_ret
      exact ⟨ret_int HE.out.symm, Ext.refl _⟩
    · have d1 : decide (8 ≤ n) = false := decide_eq_false h8
      obtain ⟨k, rfl⟩ := Int.eq_ofNat_of_zero_le (show 0 ≤ n by omega)
      have HE : Hid (atE u (k : Int) = if u.testBit k then 0 else 8) := by show _ = _; unfold atE; rw [if_neg (by omega), Int.toNat_natCast]
      have gu := (h.rd (n := k) (by omega)).u
      have hk0 : (k : Int) < 8 := by omega
      clear h
      cases hb : u.testBit k
      · rw [hb] at HE gu
        clear hb
        go_enter Try.func75, Try.ntmps75
        go_wp2
        go_ret
        exact ⟨ret_int HE.out.symm, Ext.refl _⟩
      · rw [hb] at HE gu
        clear hb
        go_enter Try.func75, Try.ntmps75
        go_wp2
        go_ret
        exact ⟨ret_int HE.out.symm, Ext.refl _⟩
set_option maxHeartbeats 1000000 in
theorem mget_any (w : World) (m : Nat) (C : Array Value) (u : Nat) (G : Nat → Hd) (n : Int) (h : MAt w m C u G) : Calls Try.prog 64 #[.pointer (some ⟨m, 0, none⟩), .int .i64 n] w fun e w' => e = .returned (.tuple #[hdV (getH u G n), .int .i64 (atE u n)]) ∧ Ext w w' := by
  have HS : Hid (MAt w m C u G) := h
  clear h
  go_enter Try.func64, Try.ntmps64
  go_wp2_with fail
  refine (mat_any _ m C u G n (HS.out.ext ((Ext.refl _).alloc _))).mono ?_
  rintro e w1 ⟨rfl, x1⟩
  have z0 := x1.heap (heap_alloc_new w _)
  have x01 := ((Ext.refl w).alloc _).trans x1
  have r0 : w1.cell? ⟨w.heap.size, 0, none⟩ = some (.int .i64 0) := cell_of z0 0
  have r1 : w1.cell? ⟨w.heap.size, 1, none⟩ = some (.int .i64 0) := cell_of z0 1
  have r2 : w1.cell? ⟨w.heap.size, 2, none⟩ = some (.int .i64 0) := cell_of z0 2
  have r3 : w1.cell? ⟨w.heap.size, 3, none⟩ = some (.int .i64 0) := cell_of z0 3
  have r4 : w1.cell? ⟨w.heap.size, 4, none⟩ = some (.int .i64 0) := cell_of z0 4
  have rf : ∀ o, w1.frozen? ⟨w.heap.size, o, none⟩ = false := frozen_of z0
  clear z0 x1
  by_cases hz : atE u n = 0
  · obtain ⟨k, rfl, hk, hb⟩ := atE_zero hz
    have HE : Hid (getH u G (k : Int) = G k ∧ atE u (k : Int) = 0) := ⟨by simp [getH, hz], hz⟩
    rw [hz]
    obtain ⟨c, c0, c1, c2, c3, c4⟩ := (HS.out.ext x01).rd hk
    have hk0 : (k : Int) < 8 := by omega
    clear hz hb c
    generalize G k = x at *
    go_wp2
    apply bodyPost_ret
    focus (simp [results, Try.results64, go_sem, r0, r1, r2, r3, r4, rf]; rfl)
    focus rfl
    refine ⟨by rw [HE.out.1, HE.out.2]; rfl, ?_⟩
    exact ((((x01.setCell (Nat.le_refl _) _).setCell (Nat.le_refl _) _).setCell (Nat.le_refl _) _).setCell (Nat.le_refl _) _).setCell (Nat.le_refl _) _
  · have HE : Hid (getH u G n = Pl.zeroH) := by show _ = _; simp [getH, hz]
    have hn0 : (atE u n != 0) = true := by rw [bne_iff_ne]; exact hz
    clear hz
    go_wp2
    apply bodyPost_ret
    focus (simp [results, Try.results64, go_sem, r0, r1, r2, r3, r4, rf]; rfl)
    focus rfl
    refine ⟨by rw [HE.out]; rfl, ?_⟩
    exact ((((x01.setCell (Nat.le_refl _) _).setCell (Nat.le_refl _) _).setCell (Nat.le_refl _) _).setCell (Nat.le_refl _) _).setCell (Nat.le_refl _) _
set_option maxHeartbeats 1000000 in
theorem mdrop_any (w : World) (m : Nat) (C : Array Value) (u : Nat) (G : Nat → Hd) (n : Int) (h : MAt w m C u G) (hu : u < 256) : Calls Try.prog 65 #[.pointer (some ⟨m, 0, none⟩), .int .i64 n] w fun e w' => e = .returned (.int .i64 (atE u n)) ∧ (∃ C', MAt w' m C' (if atE u n = 0 then remB u n.toNat else u) (if atE u n = 0 then upd G n.toNat Pl.zeroH else G)) ∧ Chg [m] w w' := by
  have HS : Hid (MAt w m C u G) := h
  clear h
  go_enter Try.func65, Try.ntmps65
  go_wp2_with fail
  refine (mat_any _ m C u G n HS.out).mono ?_
  rintro e w1 ⟨rfl, x1⟩
  by_cases hz : atE u n = 0
  · obtain ⟨k, rfl, hk, hb⟩ := atE_zero hz
    have HE : Hid (atE u (k : Int) = 0) := hz
    rw [hz]
    have M1 := HS.out.ext x1
    obtain ⟨c, c0, c1, c2, c3, c4⟩ := M1.rd hk
    have cf := frozen_of M1.heap
    have HM : Hid (MAt w1 m C u G) := M1
    have hk0 : (k : Int) < 8 := by omega
    have n1 : ¬ (8 + k * 5 = k) := by omega
    clear hz hb M1
    go_wp2
    go_ret
    refine ⟨by rfl, ?_, ?_⟩
    · (try rw [if_pos HE.out, if_pos HE.out, Int.toNat_natCast])
      have a := HM.out.use hk false (remB_bit hu hk) (w' := w1.setCell ⟨m, k, none⟩ (.bool false)) (heap_set HM.out.heap _ _)
      exact ⟨_, a.hd hk Pl.zeroH (heap_set5 a.heap (8 + k * 5) Pl.zeroH)⟩
    · exact chg_set5 ((Chg.of_ext x1).setCell (by simp) _) (by simp) Pl.zeroH
  · have hn0 : (atE u n == 0) = false := beq_false_of_ne hz
    have HE : Hid (¬ atE u n = 0) := hz
    clear hz
    go_wp2
    go_ret
    refine ⟨rfl, ?_, Chg.of_ext x1⟩
    (try rw [if_neg HE.out, if_neg HE.out])
    exact ⟨C, HS.out.ext x1⟩
end Go.Proofs.Qxb6500342a
