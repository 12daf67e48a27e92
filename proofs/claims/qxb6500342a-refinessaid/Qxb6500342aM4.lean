/-
  The model: Show.
-/
import Derived.Test.Qxb6500342aM3
namespace Go.Proofs.Qxb6500342a
open Go.RowKit
open Go.Proofs
open Pl (Hd)
open Tx (st)
set_option linter.unusedSimpArgs false
set_option linter.unusedVariables false
attribute [local go_sem] alloc_drewN setCell_drewN shape?_drewN

set_option maxRecDepth 100000 in
set_option maxHeartbeats 1000000 in
theorem mshow_any (w : World) (g : Nat) (C : Array Value) (u : Nat) (H : Nat → Hd) (hg : MAt w g C u H) (hgd : ∀ i, i < 8 → u.testBit i = true → Pl.good (H i) = true) : Calls Try.prog 50 #[.pointer (some ⟨g, 0, none⟩)] w fun e w' => e = .returned (.string (st (Tx.showTo u H 8))) ∧ Ext w w' := by
  have HG : Hid (MAt w g C u H ∧ ∀ i, i < 8 → u.testBit i = true → Pl.good (H i) = true) := ⟨hg, hgd⟩
  have hx0 := Ext.refl w
  clear hg hgd
  go_enter Try.func50, Try.ntmps50
  go_wp2
  go_loopw [3, 4] (fun t i wr => ShR w u H t i wr) (fun _ i _ => 8 - (intOf i).toNat)
  case atStart => exact ⟨0, by omega, rfl, rfl, hx0⟩
  case round =>
    obtain ⟨k, hk, rfl, rfl, hx⟩ := hrel
    by_cases hlt8 : k < 8
    · have gc := HG.out.1.ext hx
      have gu : wr.cell? ⟨g, k, none⟩ = some (.bool (u.testBit k)) := (cell_of gc.heap _).trans (gc.gi.used k hlt8)
      clear gc
      have hk0 : (k : Int) < 8 := by omega
      have hd : decide ((k : Int) < 8) = true := decide_eq_true hk0
      cases hb : u.testBit k
      · have HT : Hid (Tx.showTo u H (k + 1) = Tx.showTo u H k) := by show _ = _; simp [Tx.showTo, hb]
        rw [hb] at gu
        clear hb
        go_wp2
        go_roundw
        case rel => exact ⟨k + 1, by omega, by go_num, by rw [HT.out], hx⟩
        case measure => simp [intOf]; omega
      · have HT : Hid (Tx.showTo u H (k + 1) = Tx.showTo u H k ++ Tx.slotT k (H k)) := by show _ = _; simp [Tx.showTo, hb]
        have HB : Hid (Pl.good (H k) = true) := HG.out.2 k hlt8 hb
        rw [hb] at gu
        clear hb
        go_wp2_with fail
        refine (itoa_all (k : Int) (by unfold in64; omega) _).mono ?_
        rintro e w3 ⟨rfl, x3⟩
        replace x3 := hx.trans x3
        have gc := HG.out.1.ext x3
        have r0 : w3.cell? ⟨g, 8 + k * 5, none⟩ = some (.int .i64 (H k).k) := (cell_of gc.heap _).trans (gc.gi.k k hlt8)
        have r1 : w3.cell? ⟨g, 8 + k * 5 + 1, none⟩ = some (.int .i64 (H k).d) := (cell_of gc.heap _).trans (gc.gi.d k hlt8)
        have r2 : w3.cell? ⟨g, 8 + k * 5 + 2, none⟩ = some (.int .i64 (H k).l) := (cell_of gc.heap _).trans (gc.gi.l k hlt8)
        have r3 : w3.cell? ⟨g, 8 + k * 5 + 3, none⟩ = some (.int .i64 (H k).f) := (cell_of gc.heap _).trans (gc.gi.f k hlt8)
        have r4 : w3.cell? ⟨g, 8 + k * 5 + 4, none⟩ = some (.int .i64 (H k).s) := (cell_of gc.heap _).trans (gc.gi.s k hlt8)
        clear gc gu
        have L1 := Tx.showTo_len u H k
        have L2 := Tx.itoa_len (k : Int)
        have L3 := Tx.showH_len (H k)
        rw [← Tx.st_size] at L1 L2 L3
        have HQ : Hid (Tx.slotT k (H k) = Tx.itoa k ++ [61] ++ Tx.showH (H k) ++ [59]) := rfl
        generalize hhk : H k = hh at *
        generalize Tx.showTo u H k = S at *
        generalize Tx.itoa (k : Int) = T at *
        go_wp2_with fail
        refine (showh_any hh (hd64_good HB.out) w3).mono ?_
        rintro e w4 ⟨rfl, x4⟩
        replace x4 := x3.trans x4
        generalize Tx.showH hh = U at *
        go_wp2
        go_roundw
        case rel =>
          refine ⟨k + 1, by omega, by go_num, ?_, x4⟩
          rw [HT.out, HQ.out]
          simp only [lit61, lit59, Tx.st_append, List.append_assoc]
        case measure => simp [intOf]; omega
    · have hk8 : k = 8 := by omega
      subst hk8
      go_wp2
      go_ret
      exact ⟨rfl, hx⟩
end Go.Proofs.Qxb6500342a
