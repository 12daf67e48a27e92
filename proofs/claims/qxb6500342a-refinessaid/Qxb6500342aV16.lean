/-
  Walks 16: the store's Check; the law's Ground.
-/
import Derived.Test.Qxb6500342aV15
namespace Go.Proofs.Qxb6500342a
open Go.RowKit
open Go.Proofs
open Pl (Hd)
open Tx (st)
set_option linter.unusedSimpArgs false
set_option linter.unusedVariables false
attribute [local go_sem] alloc_drewN setCell_drewN shape?_drewN

theorem top_zero (x : Int) (h0 : 0 ≤ x) (h1 : x < 72057594037927936) : bits .andNot .u64 x 72057594037927935 = 0 := by
  obtain ⟨a, rfl⟩ := Int.eq_ofNat_of_zero_le h0
  have h := u64_andNot_lit a 72057594037927935 (by omega) (by omega)
  have hz : a &&& (2 ^ 64 - 1 - 72057594037927935) = 0 := by
    apply Nat.eq_of_testBit_eq; intro j
    rw [Nat.testBit_and, show 2 ^ 64 - 1 - 72057594037927935 = (2 ^ 8 - 1) * 2 ^ 56 from by decide, Bt.testBit_mask, Nat.zero_testBit]
    by_cases hj : 56 ≤ j
    · rw [Nat.testBit_lt_two_pow (Nat.lt_of_lt_of_le (show a < 2 ^ 56 by omega) (Nat.pow_le_pow_right (by decide) hj))]; rfl
    · simp [hj]
  rw [hz] at h
  exact h
def CkR (w : World) (i : Value) (wr : World) : Prop := ∃ k : Nat, k ≤ 8 ∧ i = .int .i64 k ∧ Ext w wr
set_option maxRecDepth 100000 in
set_option maxHeartbeats 1000000 in
theorem check_any (w : World) (q : SId) (u : Nat) (H : Nat → Hd) (hst : StAt w q u H) : Calls Try.prog 42 #[.pointer (some ⟨q.s, 0, none⟩)] w fun e w' => e = .returned (.bool true) ∧ Ext w w' := by
  have HS : Hid (StAt w q u H) := hst
  have g0 : ∀ w', Ext w w' → w'.cell? ⟨q.s, 0, none⟩ = some (.slice (some ⟨q.L, 0, none⟩) 8 8) := fun w' hx => cell_of (hx.heap hst.hs) 0
  have g1 : ∀ w', Ext w w' → w'.cell? ⟨q.s, 1, none⟩ = some (.pointer (some ⟨q.b, 0, none⟩)) := fun w' hx => cell_of (hx.heap hst.hs) 1
  have hlt := hst.lt
  have hx0 := Ext.refl w
  clear hst
  go_enter Try.func42, Try.ntmps42
  go_wp2
  go_loopw [25] (fun i wr => CkR w i wr) (fun i _ => 8 - (intOf i).toNat)
  case atStart => exact ⟨0, by omega, rfl, hx0⟩
  case round =>
    obtain ⟨k, hk, rfl, hx⟩ := hrel
    by_cases hlt8 : k < 8
    · have gw : wr.cell? ⟨q.L, k, none⟩ = some (.int .u64 (wd u H k)) := (cell_of (hx.heap HS.out.hL) k).trans (wordsC_get u H k hlt8)
      have hk0 : (k : Int) < 8 := by omega
      have hd : decide ((k : Int) < 8) = true := decide_eq_true hk0
      have hr := wd_range u H k
      have hz := top_zero _ hr.1 hr.2
      have HB : Hid (wd u H k ≠ 0 → u.testBit k = true) := by
        intro h; cases hb : u.testBit k
        · exact absurd (by simp [wd, hb]) h
        · rfl
      generalize wd u H k = X at *
      by_cases hX : X = 0
      · subst hX
        go_wp2
        go_roundw
        case rel => exact ⟨k + 1, by omega, by go_num, hx⟩
        case measure => simp [intOf]; omega
      · have hX' : (X != 0) = true := by rw [bne_iff_ne]; exact hX
        have ht := HB.out hX
        go_wp2_with fail
        refine (has_in wr q.b u k (HS.out.hb.ext hx) (by omega) (by omega)).mono ?_
        rintro e w1 ⟨rfl, x1⟩
        replace x1 := hx.trans x1
        rw [ht]
        go_wp2
        go_roundw
        case rel => exact ⟨k + 1, by omega, by go_num, x1⟩
        case measure => simp [intOf]; omega
    · have hk8 : k = 8 := by omega
      subst hk8
      by_cases hu0 : u = 0
      · subst hu0
        go_wp2_with fail
        refine (highest_zero wr q.b (HS.out.hb.ext hx)).mono ?_
        rintro e w1 ⟨rfl, x1⟩
        replace x1 := hx.trans x1
        go_wp2
        go_ret
        exact ⟨rfl, x1⟩
      · go_wp2_with fail
        refine (highest_some wr q.b u (HS.out.hb.ext hx) hlt (by omega)).mono ?_
        rintro e w1 ⟨c, hc, rfl, x1⟩
        replace x1 := hx.trans x1
        have hc0 : decide ((c : Int) < 8) = true := decide_eq_true (by omega)
        go_wp2
        go_ret
        exact ⟨rfl, x1⟩
set_option maxHeartbeats 400000 in
theorem ground_any (w : World) : Calls Try.prog 27 #[] w fun e w' => ∃ b : Nat, w.heap.size ≤ b ∧ e = .returned (.agg #[.pointer (some ⟨b, 0, none⟩)]) ∧ BoardAt w' b 0 ∧ Ext w w' := by
  go_enter Try.func27, Try.ntmps27
  go_wp2_with fail
  refine (wnew_any _).mono ?_
  rintro e w1 ⟨rfl, hb, x1⟩
  have x2 : Ext w w1 := ((Ext.refl w).alloc _).trans x1
  have z := x1.heap (heap_alloc_new w _)
  have z0 : w1.cell? ⟨w.heap.size, 0, none⟩ = some (.pointer none) := cell_of z 0
  have z1 : w1.frozen? ⟨w.heap.size, 0, none⟩ = false := frozen_of z 0
  have hsz : (w.alloc (.cells #[.pointer none] 48)).heap.size = w.heap.size + 1 := Array.size_push ..
  have hb' : BoardAt w1 (w.heap.size + 1) 0 := by rw [← hsz]; exact hb
  have rz : (w1.setCell ⟨w.heap.size, 0, none⟩ (.pointer (some ⟨w.heap.size + 1, 0, none⟩))).cell? ⟨w.heap.size, 0, none⟩ = some (.pointer (some ⟨w.heap.size + 1, 0, none⟩)) := cell_of (heap_set z 0 _) 0
  have HB : Hid (BoardAt w1 (w.heap.size + 1) 0) := hb'
  clear hb hb' z x1
  go_wp2
  apply bodyPost_ret
  focus (simp [results, Try.results27, go_sem, rz]; rfl)
  focus rfl
  exact ⟨w.heap.size + 1, by omega, rfl, by unfold BoardAt; rw [heap_set_ne (by omega)]; exact HB.out, x2.setCell (by simp) _⟩
end Go.Proofs.Qxb6500342a
