/-
  Walks 8: the box's questions: cell, along, clamp.
-/
import Derived.Test.Qxb6500343aW7
import Derived.Test.Qxb6500343aPm
namespace Go.Proofs.Qxb6500343a
open Go.RowKit
open Go.Proofs
open Fl
open Ieee (Datum)
set_option linter.unusedSimpArgs false
set_option linter.unusedVariables false
attribute [local go_sem] run_fadd run_fsub run_fmul run_fquo run_store_float alloc_drewN setCell_drewN shape?_drewN tape_alloc drawn_alloc tape_setCell drawn_setCell drawn_drewN drawn_drew

theorem BoxAt.cells {w : World} {i : BId} {xs ys : List Pl.LD} (h : BoxAt w i xs ys) : ∃ xl xh xw xb yl yh yw yb, axV xl xh xw xb (Pl.axisOf xs) ∧ axV yl yh yw yb (Pl.axisOf ys) ∧
    ∀ w', Ext w w' → w'.cell? ⟨i.b, 0, none⟩ = some (.pointer (some ⟨i.px, 0, none⟩)) ∧ w'.cell? ⟨i.b, 1, none⟩ = some (.pointer (some ⟨i.py, 0, none⟩)) ∧ w'.cell? ⟨i.b, 2, none⟩ = some (.int .i64 xs.length) ∧
      w'.cell? ⟨i.b, 3, none⟩ = some (.float .f32 xl) ∧ w'.cell? ⟨i.b, 4, none⟩ = some (.float .f32 xh) ∧ w'.cell? ⟨i.b, 5, none⟩ = some (.float .f32 xw) ∧ w'.cell? ⟨i.b, 6, none⟩ = some (.bool xb) ∧
      w'.cell? ⟨i.b, 7, none⟩ = some (.float .f32 yl) ∧ w'.cell? ⟨i.b, 8, none⟩ = some (.float .f32 yh) ∧ w'.cell? ⟨i.b, 9, none⟩ = some (.float .f32 yw) ∧ w'.cell? ⟨i.b, 10, none⟩ = some (.bool yb) := by
  obtain ⟨xl, xh, xw, xb, yl, yh, yw, yb, h1, h2, h3⟩ := h.box
  exact ⟨xl, xh, xw, xb, yl, yh, yw, yb, h2, h3, fun w' hx => ⟨cell_of (hx.heap h1) 0, cell_of (hx.heap h1) 1, cell_of (hx.heap h1) 2, cell_of (hx.heap h1) 3, cell_of (hx.heap h1) 4, cell_of (hx.heap h1) 5, cell_of (hx.heap h1) 6, cell_of (hx.heap h1) 7, cell_of (hx.heap h1) 8, cell_of (hx.heap h1) 9, cell_of (hx.heap h1) 10⟩⟩

set_option maxHeartbeats 400000 in
theorem cell_none (w : World) (i : BId) (ys : List Pl.LD) (a b c : Int) (h : BoxAt w i [] ys) :
    Calls Try.prog 13 #[.pointer (some ⟨i.b, 0, none⟩), .int .i64 a, .int .i64 b, .int .i64 c] w fun e w' => e = .returned (.tuple #[.int .i64 0, .int .i64 2]) ∧ Ext w w' := by
  obtain ⟨xl, xh, xw, xb, yl, yh, yw, yb, _, _, hc⟩ := h.cells
  have g2 : w.cell? ⟨i.b, 2, none⟩ = some (.int .i64 0) := (hc w (Ext.refl _)).2.2.1
  clear hc
  go_enter Try.func13, Try.ntmps13
  go_wp2
  go_ret2
  exact ⟨rfl, Ext.refl _⟩
set_option maxHeartbeats 1000000 in
theorem cell_some (w : World) (i : BId) (xs ys : List Pl.LD) (a b c : Int) (h : BoxAt w i xs ys) (hn : 0 < xs.length) (f1 : fits32 (Pl.ratio a c) = true) (f2 : fits32 (Pl.ratio b c) = true)
    (hok : Pl.cellOk (Pl.axisOf xs) (Pl.axisOf ys) (Pl.coord a c) (Pl.coord b c) = true) :
    Calls Try.prog 13 #[.pointer (some ⟨i.b, 0, none⟩), .int .i64 a, .int .i64 b, .int .i64 c] w fun e w' => e = .returned (.tuple #[.int .i64 (Pl.cellA (Pl.axisOf xs) (Pl.axisOf ys) (Pl.coord a c) (Pl.coord b c)).1, .int .i64 (Pl.cellA (Pl.axisOf xs) (Pl.axisOf ys) (Pl.coord a c) (Pl.coord b c)).2]) ∧ Ext w w' := by
  obtain ⟨xl, xh, xw, xb, yl, yh, yw, yb, hax, hay, hc⟩ := h.cells
  have hlen := h.sx.len
  clear h
  generalize Pl.axisOf xs = ax at *
  generalize Pl.axisOf ys = ay at *
  simp only [Pl.cellOk, Bool.and_eq_true] at hok
  have HO : Hid (Pl.partOk ax (Pl.coord a c) = true ∧ Pl.partOk ay (Pl.coord b c) = true) := hok
  have HF : Hid (fits32 (Pl.ratio a c) = true ∧ fits32 (Pl.ratio b c) = true) := ⟨f1, f2⟩
  have HA : Hid (axV xl xh xw xb ax ∧ axV yl yh yw yb ay) := ⟨hax, hay⟩
  have g2 : ∀ w', Ext w w' → w'.cell? ⟨i.b, 2, none⟩ = some (.int .i64 xs.length) := fun w' hx => (hc w' hx).2.2.1
  have g3 : ∀ w', Ext w w' → w'.cell? ⟨i.b, 3, none⟩ = some (.float .f32 xl) := fun w' hx => (hc w' hx).2.2.2.1
  have g4 : ∀ w', Ext w w' → w'.cell? ⟨i.b, 4, none⟩ = some (.float .f32 xh) := fun w' hx => (hc w' hx).2.2.2.2.1
  have g5 : ∀ w', Ext w w' → w'.cell? ⟨i.b, 5, none⟩ = some (.float .f32 xw) := fun w' hx => (hc w' hx).2.2.2.2.2.1
  have g6 : ∀ w', Ext w w' → w'.cell? ⟨i.b, 6, none⟩ = some (.bool xb) := fun w' hx => (hc w' hx).2.2.2.2.2.2.1
  have g7 : ∀ w', Ext w w' → w'.cell? ⟨i.b, 7, none⟩ = some (.float .f32 yl) := fun w' hx => (hc w' hx).2.2.2.2.2.2.2.1
  have g8 : ∀ w', Ext w w' → w'.cell? ⟨i.b, 8, none⟩ = some (.float .f32 yh) := fun w' hx => (hc w' hx).2.2.2.2.2.2.2.2.1
  have g9 : ∀ w', Ext w w' → w'.cell? ⟨i.b, 9, none⟩ = some (.float .f32 yw) := fun w' hx => (hc w' hx).2.2.2.2.2.2.2.2.2.1
  have g10 : ∀ w', Ext w w' → w'.cell? ⟨i.b, 10, none⟩ = some (.bool yb) := fun w' hx => (hc w' hx).2.2.2.2.2.2.2.2.2.2
  have hx0 := Ext.refl w
  have hz : ((xs.length : Int) == 0) = false := beq_eq_false_iff_ne.2 (by omega)
  clear hc hax hay hok f1 f2
  go_enter Try.func13, Try.ntmps13
  go_wp2_with fail
  refine (coord_any a c w HF.out.1).mono ?_
  rintro e w1 ⟨r1, rfl, hr1, hx1⟩
  have R1 : Hid (V .f32 r1 = Pl.coord a c) := hr1
  clear hr1
  go_wp2_with fail
  refine (coord_any b c w1 HF.out.2).mono ?_
  rintro e w2 ⟨r2, rfl, hr2, hx2⟩
  have R2 : Hid (V .f32 r2 = Pl.coord b c) := hr2
  replace hx2 := hx1.trans hx2
  clear hr2
  go_wp2_with fail
  refine (holds_any xl xh xw r1 xb ax HA.out.1 w2).mono ?_
  rintro e w3 ⟨rfl, hx3⟩
  replace hx3 := hx2.trans hx3
  rw [R1.out]
  cases hh1 : Pl.holds ax (Pl.coord a c)
  · have HE : Hid (Pl.cellA ax ay (Pl.coord a c) (Pl.coord b c) = (0, 5)) := by show _ = _; simp [Pl.cellA, hh1]
    clear hh1
    go_wp2
    go_ret2
    exact ⟨by rw [HE.out]; rfl, hx3⟩
  · have HH1 : Hid (Pl.holds ax (Pl.coord a c) = true) := hh1
    clear hh1
    go_wp2_with fail
    refine (holds_any yl yh yw r2 yb ay HA.out.2 w3).mono ?_
    rintro e w4 ⟨rfl, hx4⟩
    replace hx4 := hx3.trans hx4
    rw [R2.out]
    cases hh2 : Pl.holds ay (Pl.coord b c)
    · have HE : Hid (Pl.cellA ax ay (Pl.coord a c) (Pl.coord b c) = (0, 5)) := by show _ = _; simp [Pl.cellA, HH1.out, hh2]
      clear hh2
      go_wp2
      go_ret2
      exact ⟨by rw [HE.out]; rfl, hx4⟩
    · have HH2 : Hid (Pl.holds ay (Pl.coord b c) = true) := hh2
      clear hh2
      go_wp2_with fail
      refine (part_any xl xh xw r1 xb ax HA.out.1 (by rw [R1.out]; exact HO.out.1) w4).mono ?_
      rintro e w5 ⟨rfl, hx5⟩
      replace hx5 := hx4.trans hx5
      rw [R1.out]
      go_wp2_with fail
      refine (part_any yl yh yw r2 yb ay HA.out.2 (by rw [R2.out]; exact HO.out.2) w5).mono ?_
      rintro e w6 ⟨rfl, hx6⟩
      replace hx6 := hx5.trans hx6
      rw [R2.out]
      have HE : Hid (Pl.cellA ax ay (Pl.coord a c) (Pl.coord b c) = if (Pl.part ax (Pl.coord a c)).2 && (Pl.part ay (Pl.coord b c)).2 then (Pl.rc (Pl.part ay (Pl.coord b c)).1 (Pl.part ax (Pl.coord a c)).1, 0) else (0, 6)) := by
        show _ = _; simp [Pl.cellA, HH1.out, HH2.out]
      generalize Pl.part ax (Pl.coord a c) = P1 at *
      generalize Pl.part ay (Pl.coord b c) = P2 at *
      obtain ⟨c1, b1⟩ := P1
      obtain ⟨c2, b2⟩ := P2
      cases b1 <;> cases b2 <;> go_wp2
      all_goals go_ret2
      all_goals exact ⟨by rw [HE.out]; rfl, hx6⟩
end Go.Proofs.Qxb6500343a
