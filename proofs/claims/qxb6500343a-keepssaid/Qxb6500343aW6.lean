/-
  Walks 6: the box: new, refresh.
-/
import Derived.Test.Qxb6500343aW5
namespace Go.Proofs.Qxb6500343a
open Go.RowKit
open Go.Proofs
open Fl
open Ieee (Datum)
set_option linter.unusedSimpArgs false
set_option linter.unusedVariables false
attribute [local go_sem] run_fadd run_fsub run_fmul run_fquo run_store_float alloc_drewN setCell_drewN shape?_drewN tape_alloc drawn_alloc tape_setCell drawn_setCell drawn_drewN drawn_drew

/-- The box's eleven cells. -/
def boxV (px py : Nat) (n : Int) (xl xh xw : Nat) (xb : Bool) (yl yh yw : Nat) (yb : Bool) : Array Value :=
  #[.pointer (some ⟨px, 0, none⟩), .pointer (some ⟨py, 0, none⟩), .int .i64 n, .float .f32 xl, .float .f32 xh, .float .f32 xw, .bool xb, .float .f32 yl, .float .f32 yh, .float .f32 yw, .bool yb]
def BoxC (w : World) (b px py : Nat) (n : Int) (ax ay : Pl.AX) : Prop :=
  ∃ xl xh xw xb yl yh yw yb, w.heap[b]? = some (.cells (boxV px py n xl xh xw xb yl yh yw yb) 62) ∧ axV xl xh xw xb ax ∧ axV yl yh yw yb ay
theorem BoxC.ext {w w' : World} {b px py : Nat} {n : Int} {ax ay : Pl.AX} (h : BoxC w b px py n ax ay) (hx : Ext w w') : BoxC w' b px py n ax ay := by
  obtain ⟨xl, xh, xw, xb, yl, yh, yw, yb, h1, h2, h3⟩ := h
  exact ⟨xl, xh, xw, xb, yl, yh, yw, yb, hx.heap h1, h2, h3⟩
theorem BoxC.chg {S : List Nat} {w w' : World} {b px py : Nat} {n : Int} {ax ay : Pl.AX} (h : BoxC w b px py n ax ay) (hx : Chg S w w') (hb : b ∉ S) : BoxC w' b px py n ax ay := by
  obtain ⟨xl, xh, xw, xb, yl, yh, yw, yb, h1, h2, h3⟩ := h
  exact ⟨xl, xh, xw, xb, yl, yh, yw, yb, hx.heap h1 hb, h2, h3⟩

set_option maxHeartbeats 400000 in
theorem bnew_any (w : World) (px py : Nat) :
    Calls Try.prog 11 #[.pointer (some ⟨px, 0, none⟩), .pointer (some ⟨py, 0, none⟩)] w fun e w' => e = .returned (.pointer (some ⟨w.heap.size, 0, none⟩)) ∧ BoxC w' w.heap.size px py 0 Pl.noAX Pl.noAX ∧ Ext w w' := by
  go_enter Try.func11, Try.ntmps11
  go_wp2
  go_ret
  exact ⟨rfl, ⟨0, 0, 0, false, 0, 0, 0, false, heap_alloc_new _ _, ⟨rfl, rfl, rfl, rfl⟩, ⟨rfl, rfl, rfl, rfl⟩⟩, (Ext.refl _).alloc _⟩

set_option maxHeartbeats 400000 in
theorem refresh_zero (w : World) (b px py : Nat) (ax ay : Pl.AX) (h : BoxC w b px py 0 ax ay) :
    Calls Try.prog 28 #[.pointer (some ⟨b, 0, none⟩)] w fun e w' => e = .returned (.tuple #[]) ∧ BoxC w' b px py 0 Pl.noAX Pl.noAX ∧ Chg [b] w w' := by
  obtain ⟨xl, xh, xw, xb, yl, yh, yw, yb, h1, _, _⟩ := h
  have g2 : w.cell? ⟨b, 2, none⟩ = some (.int .i64 0) := cell_of h1 2
  have g3 : w.cell? ⟨b, 3, none⟩ = some (.float .f32 xl) := cell_of h1 3
  have g4 : w.cell? ⟨b, 4, none⟩ = some (.float .f32 xh) := cell_of h1 4
  have g5 : w.cell? ⟨b, 5, none⟩ = some (.float .f32 xw) := cell_of h1 5
  have g6 : w.cell? ⟨b, 6, none⟩ = some (.bool xb) := cell_of h1 6
  have g7 : w.cell? ⟨b, 7, none⟩ = some (.float .f32 yl) := cell_of h1 7
  have g8 : w.cell? ⟨b, 8, none⟩ = some (.float .f32 yh) := cell_of h1 8
  have g9 : w.cell? ⟨b, 9, none⟩ = some (.float .f32 yw) := cell_of h1 9
  have g10 : w.cell? ⟨b, 10, none⟩ = some (.bool yb) := cell_of h1 10
  have gf : ∀ o, w.frozen? ⟨b, o, none⟩ = false := frozen_of h1
  have H1 : Hid (w.heap[b]? = some (.cells (boxV px py 0 xl xh xw xb yl yh yw yb) 62)) := h1
  clear h1
  go_enter Try.func28, Try.ntmps28
  go_wp2
  refine bodyPost_ret (results_none rfl _ _ _) rfl ?_
  refine ⟨rfl, ⟨0, 0, 0, false, 0, 0, 0, false, ?_, ⟨rfl, rfl, rfl, rfl⟩, ⟨rfl, rfl, rfl, rfl⟩⟩, ?_⟩
  · refine (heap_set (heap_set (heap_set (heap_set (heap_set (heap_set (heap_set (heap_set H1.out _ _) _ _) _ _) _ _) _ _) _ _) _ _) _ _).trans ?_
    simp only [boxV, List.setIfInBounds_toArray, List.set]
  · repeat (refine Chg.setCell ?_ (by simp) _)
    exact Chg.refl _ _

set_option maxHeartbeats 1000000 in
theorem refresh_some (w : World) (b px Lx py Ly m : Nat) (xs ys : List Pl.LD) (dx dy : Pl.LD) (ax ay : Pl.AX) (h : BoxC w b px py ((m : Int) + 1) ax ay)
    (hx : SerAt w px Lx xs) (hy : SerAt w py Ly ys) (hmx : xs.length = m + 1) (hmy : ys.length = m + 1) (hdx : xs[m]? = some dx) (hdy : ys[m]? = some dy)
    (f1 : fits32 dx.l = true) (f2 : fits32 dx.h = true) (f3 : fits32 dy.l = true) (f4 : fits32 dy.h = true) (hnd : [b, px, Lx, py, Ly].Nodup) :
    Calls Try.prog 28 #[.pointer (some ⟨b, 0, none⟩)] w fun e w' => e = .returned (.tuple #[]) ∧ BoxC w' b px py ((m : Int) + 1) (Pl.span dx.l dx.h) (Pl.span dy.l dy.h) ∧ Chg [b] w w' := by
  obtain ⟨xl, xh, xw, xb, yl, yh, yw, yb, h1, _, _⟩ := h
  have hne : b ≠ py ∧ b ≠ Ly := by simp at hnd; omega
  obtain ⟨hne1, hne2⟩ := hne
  have HX : Hid (SerAt w px Lx xs ∧ SerAt w py Ly ys ∧ xs.length = m + 1 ∧ ys.length = m + 1 ∧ xs[m]? = some dx ∧ ys[m]? = some dy) := ⟨hx, hy, hmx, hmy, hdx, hdy⟩
  have HF : Hid (fits32 dx.l = true ∧ fits32 dx.h = true ∧ fits32 dy.l = true ∧ fits32 dy.h = true) := ⟨f1, f2, f3, f4⟩
  have H1 : Hid (w.heap[b]? = some (.cells (boxV px py ((m : Int) + 1) xl xh xw xb yl yh yw yb) 62)) := h1
  have g0 : ∀ w', Ext w w' → w'.cell? ⟨b, 0, none⟩ = some (.pointer (some ⟨px, 0, none⟩)) := fun w' h => cell_of (h.heap h1) 0
  have g1 : ∀ w', Ext w w' → w'.cell? ⟨b, 1, none⟩ = some (.pointer (some ⟨py, 0, none⟩)) := fun w' h => cell_of (h.heap h1) 1
  have g2 : ∀ w', Ext w w' → w'.cell? ⟨b, 2, none⟩ = some (.int .i64 ((m : Int) + 1)) := fun w' h => cell_of (h.heap h1) 2
  have g3 : ∀ w', Ext w w' → w'.cell? ⟨b, 3, none⟩ = some (.float .f32 xl) := fun w' h => cell_of (h.heap h1) 3
  have g4 : ∀ w', Ext w w' → w'.cell? ⟨b, 4, none⟩ = some (.float .f32 xh) := fun w' h => cell_of (h.heap h1) 4
  have g5 : ∀ w', Ext w w' → w'.cell? ⟨b, 5, none⟩ = some (.float .f32 xw) := fun w' h => cell_of (h.heap h1) 5
  have g6 : ∀ w', Ext w w' → w'.cell? ⟨b, 6, none⟩ = some (.bool xb) := fun w' h => cell_of (h.heap h1) 6
  have g7 : ∀ w', Ext w w' → w'.cell? ⟨b, 7, none⟩ = some (.float .f32 yl) := fun w' h => cell_of (h.heap h1) 7
  have g8 : ∀ w', Ext w w' → w'.cell? ⟨b, 8, none⟩ = some (.float .f32 yh) := fun w' h => cell_of (h.heap h1) 8
  have g9 : ∀ w', Ext w w' → w'.cell? ⟨b, 9, none⟩ = some (.float .f32 yw) := fun w' h => cell_of (h.heap h1) 9
  have g10 : ∀ w', Ext w w' → w'.cell? ⟨b, 10, none⟩ = some (.bool yb) := fun w' h => cell_of (h.heap h1) 10
  have gf : ∀ w', Ext w w' → ∀ o, w'.frozen? ⟨b, o, none⟩ = false := fun w' h => frozen_of (h.heap h1)
  have hx0 := Ext.refl w
  have hz : ((m : Int) + 1 == 0) = false := beq_eq_false_iff_ne.2 (by omega)
  clear h1 hx hy hmx hmy hdx hdy f1 f2 f3 f4 hnd
  go_enter Try.func28, Try.ntmps28
  go_wp2_with fail
  refine (min_some w px Lx m xs dx HX.out.1 HX.out.2.2.1 HX.out.2.2.2.2.1).mono ?_
  rintro e w1 ⟨r1, rfl, hr1, hx1⟩
  have R1 : Hid (V .f64 r1 = dx.l) := hr1
  clear hr1
  go_wp2_with fail
  refine (max_some w1 px Lx m xs dx (HX.out.1.ext hx1) HX.out.2.2.1 HX.out.2.2.2.2.1).mono ?_
  rintro e w2 ⟨r2, rfl, hr2, hx2⟩
  have R2 : Hid (V .f64 r2 = dx.h) := hr2
  replace hx2 := hx1.trans hx2
  clear hr2
  go_wp2_with fail
  refine (span_any r1 r2 w2 (by rw [R1.out]; exact HF.out.1) (by rw [R2.out]; exact HF.out.2.1)).mono ?_
  rintro e w3 ⟨al, ah, aw, ab, rfl, hv3, hx3⟩
  have A3 : Hid (axV al ah aw ab (Pl.span dx.l dx.h)) := by rw [R1.out, R2.out] at hv3; exact hv3
  replace hx3 := hx2.trans hx3
  clear hv3
  unfold axC
  go_wp2_with fail
  have q4 := heap_set (heap_set (heap_set (heap_set (hx3.heap H1.out) 3 (.float .f32 al)) 4 (.float .f32 ah)) 5 (.float .f32 aw)) 6 (.bool ab)
  simp only [boxV, List.setIfInBounds_toArray, List.set] at q4
  refine (min_some _ py Ly m ys dy ((HX.out.2.1.ext hx3).chg (S := [b]) ?_ ?_ ?_) HX.out.2.2.2.1 HX.out.2.2.2.2.2).mono ?_
  · repeat (refine Chg.setCell ?_ (by simp) _)
    exact Chg.refl _ _
  · simp; exact Ne.symm hne1
  · simp; exact Ne.symm hne2
  rintro e w5 ⟨r3, rfl, hr3, hx5⟩
  have R3 : Hid (V .f64 r3 = dy.l) := hr3
  have C5 : Hid (Chg [b] w w5) := by
    refine Chg.then ?_ hx5
    repeat (refine Chg.setCell ?_ (by simp) _)
    exact Chg.of_ext hx3
  have q5 := hx5.heap q4
  have S5 : Hid (SerAt w5 py Ly ys) := HX.out.2.1.chg C5.out (by simp; exact Ne.symm hne1) (by simp; exact Ne.symm hne2)
  have Q5 : Hid (w5.heap[b]? = some (.cells (boxV px py ((m : Int) + 1) al ah aw ab yl yh yw yb) 62)) := q5
  clear hr3 q4 hx5 g0 g1 g2 g3 g4 g5 g6 g7 g8 g9 g10 gf hx0 hx1 hx2 hx3
  have g1 : ∀ w', Ext w5 w' → w'.cell? ⟨b, 1, none⟩ = some (.pointer (some ⟨py, 0, none⟩)) := fun w' h => cell_of (h.heap q5) 1
  have g7 : ∀ w', Ext w5 w' → w'.cell? ⟨b, 7, none⟩ = some (.float .f32 yl) := fun w' h => cell_of (h.heap q5) 7
  have g8 : ∀ w', Ext w5 w' → w'.cell? ⟨b, 8, none⟩ = some (.float .f32 yh) := fun w' h => cell_of (h.heap q5) 8
  have g9 : ∀ w', Ext w5 w' → w'.cell? ⟨b, 9, none⟩ = some (.float .f32 yw) := fun w' h => cell_of (h.heap q5) 9
  have g10 : ∀ w', Ext w5 w' → w'.cell? ⟨b, 10, none⟩ = some (.bool yb) := fun w' h => cell_of (h.heap q5) 10
  have gf : ∀ w', Ext w5 w' → ∀ o, w'.frozen? ⟨b, o, none⟩ = false := fun w' h => frozen_of (h.heap q5)
  clear q5
  have hx0 := Ext.refl w5
  go_wp2_with fail
  refine (max_some w5 py Ly m ys dy S5.out HX.out.2.2.2.1 HX.out.2.2.2.2.2).mono ?_
  rintro e w6 ⟨r4, rfl, hr4, hx6⟩
  have R4 : Hid (V .f64 r4 = dy.h) := hr4
  clear hr4
  go_wp2_with fail
  refine (span_any r3 r4 w6 (by rw [R3.out]; exact HF.out.2.2.1) (by rw [R4.out]; exact HF.out.2.2.2)).mono ?_
  rintro e w7 ⟨bl, bh, bw, bb, rfl, hv7, hx7⟩
  have A7 : Hid (axV bl bh bw bb (Pl.span dy.l dy.h)) := by rw [R3.out, R4.out] at hv7; exact hv7
  replace hx7 := hx6.trans hx7
  clear hv7
  unfold axC
  go_wp2
  refine bodyPost_end (results_none rfl _ _ _) rfl ?_
  refine ⟨rfl, ⟨al, ah, aw, ab, bl, bh, bw, bb, ?_, A3.out, A7.out⟩, ?_⟩
  · refine (heap_set (heap_set (heap_set (heap_set (hx7.heap Q5.out) _ _) _ _) _ _) _ _).trans ?_
    simp only [boxV, List.setIfInBounds_toArray, List.set]
  · repeat (refine Chg.setCell ?_ (by simp) _)
    exact C5.out.then hx7
end Go.Proofs.Qxb6500343a
