/-
  Walks 10: Ground; Facts.
-/
import Derived.Test.Qxb6500343aW9
import Derived.Test.Qxb6500343aFk
namespace Go.Proofs.Qxb6500343a
open Go.RowKit
open Go.Proofs
open Fl
open Ieee (Datum)
set_option linter.unusedSimpArgs false
set_option linter.unusedVariables false
attribute [local go_sem] run_fadd run_fsub run_fmul run_fquo run_store_float alloc_drewN setCell_drewN shape?_drewN tape_alloc drawn_alloc tape_setCell drawn_setCell drawn_drewN drawn_drew

set_option maxHeartbeats 400000 in
theorem ground_any (w : World) :
    Calls Try.prog 10 #[] w fun e w' => ∃ px Lx py Ly, e = .returned (.agg #[.pointer (some ⟨px, 0, none⟩), .pointer (some ⟨py, 0, none⟩)]) ∧ SerAt w' px Lx [] ∧ SerAt w' py Ly [] ∧ [px, Lx, py, Ly].Nodup ∧ (∀ k, k ∈ [px, Lx, py, Ly] → w.heap.size ≤ k ∧ k < w'.heap.size) ∧ Ext w w' := by
  go_enter Try.func10, Try.ntmps10
  go_wp2_with fail
  refine (snew_any _).mono ?_
  rintro e w1 ⟨px, Lx, rfl, hs1, h1, h2, hx1⟩
  have z1 := lt_of_heap hs1.hp
  have z2 : Lx < w1.heap.size := by obtain ⟨C, hC, _⟩ := hs1.hL; exact lt_of_heap hC
  have H1 : Hid (SerAt w1 px Lx []) := hs1
  have hsz := hx1.size
  simp only [World.size_alloc] at h1 h2 hsz
  clear hs1
  go_wp2_with fail
  refine (snew_any _).mono ?_
  rintro e w2 ⟨py, Ly, rfl, hs2, h3, h4, hx2⟩
  have z3 := lt_of_heap hs2.hp
  have z4 : Ly < w2.heap.size := by obtain ⟨C, hC, _⟩ := hs2.hL; exact lt_of_heap hC
  have H2 : Hid (SerAt w2 py Ly []) := hs2
  have hsz2 := hx2.size
  have hx12 := hx1.trans hx2
  have hcell := hx12.heap (heap_alloc_new w _)
  have g0 : w2.cell? ⟨w.heap.size, 0, none⟩ = some (.pointer none) := cell_of hcell 0
  have g1 : w2.cell? ⟨w.heap.size, 1, none⟩ = some (.pointer none) := cell_of hcell 1
  have gf : ∀ o, w2.frozen? ⟨w.heap.size, o, none⟩ = false := frozen_of hcell
  clear hs2 hcell
  go_wp2
  apply bodyPost_ret
  focus (simp [results, Try.results10, go_sem, g0, g1, gf]; rfl)
  focus rfl
  have hne1 := H1.out.ne
  have hne2 := H2.out.ne
  have hc : Chg [w.heap.size] w2 ((w2.setCell ⟨w.heap.size, 0, none⟩ (.pointer (some ⟨px, 0, none⟩))).setCell ⟨w.heap.size, 1, none⟩ (.pointer (some ⟨py, 0, none⟩))) :=
    ((Chg.refl _ _).setCell (by simp) _).setCell (by simp) _
  refine ⟨px, Lx, py, Ly, rfl, (H1.out.ext hx2).chg hc (by simp; omega) (by simp; omega), H2.out.chg hc (by simp; omega) (by simp; omega), by simp; omega, ?_, ?_⟩
  · intro k hk
    simp only [size_set]
    simp at hk
    omega
  · exact ((((Ext.refl w).alloc _).trans hx12).setCell (Nat.le_refl _) _).setCell (Nat.le_refl _) _
end Go.Proofs.Qxb6500343a
