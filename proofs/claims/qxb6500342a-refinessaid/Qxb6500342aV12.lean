/-
  Walks 12: the store's Show.
-/
import Derived.Test.Qxb6500342aV11
namespace Go.Proofs.Qxb6500342a
open Go.RowKit
open Go.Proofs
open Pl (Hd)
open Tx (st)
set_option linter.unusedSimpArgs false
set_option linter.unusedVariables false
attribute [local go_sem] alloc_drewN setCell_drewN shape?_drewN

def ShR (w : World) (u : Nat) (H : Nat → Hd) (t i : Value) (wr : World) : Prop :=
  ∃ k : Nat, k ≤ 8 ∧ i = .int .i64 k ∧ t = .string (st (Tx.showTo u H k)) ∧ Ext w wr
set_option maxRecDepth 100000 in
set_option maxHeartbeats 1000000 in
theorem show_any (w : World) (q : SId) (u : Nat) (H : Nat → Hd) (hst : StAt w q u H) : Calls Try.prog 41 #[.pointer (some ⟨q.s, 0, none⟩)] w fun e w' => e = .returned (.string (st (Tx.showTo u H 8))) ∧ Ext w w' := by
  have HS : Hid (StAt w q u H) := hst
  have g0 : ∀ w', Ext w w' → w'.cell? ⟨q.s, 0, none⟩ = some (.slice (some ⟨q.L, 0, none⟩) 8 8) := fun w' hx => cell_of (hx.heap hst.hs) 0
  have g1 : ∀ w', Ext w w' → w'.cell? ⟨q.s, 1, none⟩ = some (.pointer (some ⟨q.b, 0, none⟩)) := fun w' hx => cell_of (hx.heap hst.hs) 1
  have hlt := hst.lt
  have hx0 := Ext.refl w
  clear hst
  go_enter Try.func41, Try.ntmps41
  go_wp2
  go_loopw [3, 13] (fun t i wr => ShR w u H t i wr) (fun _ i _ => 8 - (intOf i).toNat)
  case atStart => exact ⟨0, by omega, rfl, rfl, hx0⟩
  case round =>
    obtain ⟨k, hk, rfl, rfl, hx⟩ := hrel
    by_cases hlt8 : k < 8
    · have gw : wr.cell? ⟨q.L, k, none⟩ = some (.int .u64 (wd u H k)) := (cell_of (hx.heap HS.out.hL) k).trans (wordsC_get u H k hlt8)
      have hk0 : (k : Int) < 8 := by omega
      have hd : decide ((k : Int) < 8) = true := decide_eq_true hk0
      go_wp2_with fail
      refine (has_in wr q.b u k (HS.out.hb.ext hx) (by omega) (by omega)).mono ?_
      rintro e w1 ⟨rfl, x1⟩
      replace x1 := hx.trans x1
      cases hb : u.testBit k
      · have HT : Hid (Tx.showTo u H (k + 1) = Tx.showTo u H k) := by show _ = _; simp [Tx.showTo, hb]
        clear hb
        go_wp2
        go_roundw
        case rel => exact ⟨k + 1, by omega, by go_num, by rw [HT.out], x1⟩
        case measure => simp [intOf]; omega
      · have HT : Hid (Tx.showTo u H (k + 1) = Tx.showTo u H k ++ Tx.slotT k (H k)) := by show _ = _; simp [Tx.showTo, hb]
        have HB : Hid (u.testBit k = true ∧ Pl.good (H k) = true ∧ Pl.unpackI (wd u H k) = H k) := by
          have hg := HS.out.good k hlt8 hb
          exact ⟨hb, hg, by rw [wd_used hb, Pl.unpack_pack _ hg]⟩
        have hr := wd_range u H k
        clear hb
        go_wp2_with fail
        refine (unpack_any (wd u H k) hr.1 (by omega) w1).mono ?_
        rintro e w2 ⟨rfl, x2⟩
        rw [HB.out.2.2]
        replace x2 := x1.trans x2
        have L1 := Tx.showTo_len u H k
        have L2 := Tx.itoa_len (k : Int)
        have L3 := Tx.showH_len (H k)
        rw [← Tx.st_size] at L1 L2 L3
        have HQ : Hid (Tx.slotT k (H k) = Tx.itoa k ++ [61] ++ Tx.showH (H k) ++ [59]) := rfl
        generalize hhk : H k = h at *
        generalize Tx.showTo u H k = S at *
        unfold hdV
        go_wp2_with fail
        refine (itoa_all (k : Int) (by unfold in64; omega) _).mono ?_
        rintro e w3 ⟨rfl, x3⟩
        obtain ⟨z3⟩ : Nonempty (w3.heap[w2.heap.size]? = some (.cells #[.int .i64 h.k, .int .i64 h.d, .int .i64 h.l, .int .i64 h.f, .int .i64 h.s] 27)) := ⟨x3.heap (heap_alloc_new w2 _)⟩
        have r0 : w3.cell? ⟨w2.heap.size, 0, none⟩ = some (.int .i64 h.k) := cell_of z3 0
        have r1 : w3.cell? ⟨w2.heap.size, 1, none⟩ = some (.int .i64 h.d) := cell_of z3 1
        have r2 : w3.cell? ⟨w2.heap.size, 2, none⟩ = some (.int .i64 h.l) := cell_of z3 2
        have r3 : w3.cell? ⟨w2.heap.size, 3, none⟩ = some (.int .i64 h.f) := cell_of z3 3
        have r4 : w3.cell? ⟨w2.heap.size, 4, none⟩ = some (.int .i64 h.s) := cell_of z3 4
        have x23 := (x2.alloc _).trans x3
        clear z3 x3
        generalize Tx.itoa (k : Int) = T at *
        go_wp2_with fail
        refine (showh_any h (hd64_good HB.out.2.1) w3).mono ?_
        rintro e w4 ⟨rfl, x4⟩
        replace x4 := x23.trans x4
        generalize Tx.showH h = U at *
        go_wp2
        go_roundw
        case rel =>
          refine ⟨k + 1, by omega, by go_num, ?_, x4⟩
          rw [HT.out, HQ.out]
          simp only [lit61, lit59, Tx.st_append, List.append_assoc]
        case measure => simp [intOf]; omega
    · have hk8 : k = 8 := by omega
      subst hk8
      go_wp2
      go_ret
      exact ⟨rfl, hx⟩
end Go.Proofs.Qxb6500342a
