/-
  Walks 8: the store: get, drop, bump, len.
-/
import Derived.Test.Qxb6500342aV7
namespace Go.Proofs.Qxb6500342a
open Go.RowKit
open Go.Proofs
open Pl (Hd)
set_option linter.unusedSimpArgs false
set_option linter.unusedVariables false
attribute [local go_sem] alloc_drewN setCell_drewN shape?_drewN

theorem atE_zero {u : Nat} {n : Int} (h : atE u n = 0) : ∃ m : Nat, n = m ∧ m < 8 ∧ u.testBit m = true := by
  unfold atE at h
  split at h
  · omega
  · split at h
    · rename_i h1 h2; exact ⟨n.toNat, by omega, by omega, h2⟩
    · omega
/-- What Get answers. -/
def getH (u : Nat) (H : Nat → Hd) (n : Int) : Hd := if atE u n = 0 then H n.toNat else Pl.zeroH
theorem wd_used {u : Nat} {H : Nat → Hd} {m : Nat} (h : u.testBit m = true) : wd u H m = Pl.packI (H m) := by simp [wd, h]
set_option maxHeartbeats 1000000 in
theorem get_any (w : World) (q : SId) (u : Nat) (H : Nat → Hd) (n : Int) (hst : StAt w q u H) : Calls Try.prog 35 #[.pointer (some ⟨q.s, 0, none⟩), .int .i64 n] w fun e w' => e = .returned (.tuple #[hdV (getH u H n), .int .i64 (atE u n)]) ∧ Ext w w' := by
  have HS : Hid (StAt w q u H) := hst
  clear hst
  go_enter Try.func35, Try.ntmps35
  go_wp2_with fail
  refine (at_any _ q u H n (HS.out.ext ((Ext.refl _).alloc _))).mono ?_
  rintro e w1 ⟨rfl, x1⟩
  have z0 := x1.heap (heap_alloc_new w _)
  have x01 := ((Ext.refl w).alloc _).trans x1
  have r0 : ∀ w', Ext w1 w' → w'.cell? ⟨w.heap.size, 0, none⟩ = some (.int .i64 0) := fun w' hx => cell_of (hx.heap z0) 0
  have r1 : ∀ w', Ext w1 w' → w'.cell? ⟨w.heap.size, 1, none⟩ = some (.int .i64 0) := fun w' hx => cell_of (hx.heap z0) 1
  have r2 : ∀ w', Ext w1 w' → w'.cell? ⟨w.heap.size, 2, none⟩ = some (.int .i64 0) := fun w' hx => cell_of (hx.heap z0) 2
  have r3 : ∀ w', Ext w1 w' → w'.cell? ⟨w.heap.size, 3, none⟩ = some (.int .i64 0) := fun w' hx => cell_of (hx.heap z0) 3
  have r4 : ∀ w', Ext w1 w' → w'.cell? ⟨w.heap.size, 4, none⟩ = some (.int .i64 0) := fun w' hx => cell_of (hx.heap z0) 4
  have rf : ∀ w', Ext w1 w' → ∀ o, w'.frozen? ⟨w.heap.size, o, none⟩ = false := fun w' hx => frozen_of (hx.heap z0)
  have hx1 := Ext.refl w1
  have hsz : w.heap.size < w1.heap.size := lt_of_heap z0
  clear z0 x1
  by_cases hz : atE u n = 0
  · obtain ⟨m, rfl, hm, hb⟩ := atE_zero hz
    have HE : Hid (getH u H (m : Int) = H m ∧ atE u (m : Int) = 0 ∧ u.testBit m = true) := ⟨by simp [getH, hz], hz, hb⟩
    rw [hz]
    have g0 : w1.cell? ⟨q.s, 0, none⟩ = some (.slice (some ⟨q.L, 0, none⟩) 8 8) := cell_of (x01.heap HS.out.hs) 0
    have g1 : w1.cell? ⟨q.L, m, none⟩ = some (.int .u64 (wd u H m)) := (cell_of (x01.heap HS.out.hL) m).trans (wordsC_get u H m hm)
    have hm0 : (m : Int) < 8 := by omega
    have hr := wd_range u H m
    clear hz hb
    go_wp2_with fail
    refine (unpack_any (wd u H m) hr.1 (by omega) w1).mono ?_
    rintro e w2 ⟨rfl, x2⟩
    have E2 : Hid (Pl.unpackI (wd u H m) = H m) := by show _ = _; rw [wd_used HE.out.2.2, Pl.unpack_pack _ (HS.out.good m hm HE.out.2.2)]
    rw [E2.out]
    unfold hdV
    go_wp2
    apply bodyPost_ret
    focus (simp [results, Try.results35, go_sem, r0, r1, r2, r3, r4, rf, x2]; rfl)
    focus rfl
    refine ⟨by rw [HE.out.1, HE.out.2.1]; rfl, ?_⟩
    exact ((((((x01.trans x2).setCell (Nat.le_refl _) _).setCell (Nat.le_refl _) _).setCell (Nat.le_refl _) _).setCell (Nat.le_refl _) _).setCell (Nat.le_refl _) _)
  · have HE : Hid (getH u H n = Pl.zeroH) := by show _ = _; simp [getH, hz]
    have hn0 : (atE u n != 0) = true := by rw [bne_iff_ne]; exact hz
    clear hz
    go_wp2
    apply bodyPost_ret
    focus (simp [results, Try.results35, go_sem, r0, r1, r2, r3, r4, rf, hx1]; rfl)
    focus rfl
    refine ⟨by rw [HE.out]; rfl, ?_⟩
    exact (((((x01.setCell (Nat.le_refl _) _).setCell (Nat.le_refl _) _).setCell (Nat.le_refl _) _).setCell (Nat.le_refl _) _).setCell (Nat.le_refl _) _)
end Go.Proofs.Qxb6500342a
