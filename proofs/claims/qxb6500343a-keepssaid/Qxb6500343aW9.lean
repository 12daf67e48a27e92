/-
  Walks 9: the box's questions: along, clamp.
-/
import Derived.Test.Qxb6500343aW8
namespace Go.Proofs.Qxb6500343a
open Go.RowKit
open Go.Proofs
open Fl
open Ieee (Datum)
set_option linter.unusedSimpArgs false
set_option linter.unusedVariables false
attribute [local go_sem] run_fadd run_fsub run_fmul run_fquo run_store_float alloc_drewN setCell_drewN shape?_drewN tape_alloc drawn_alloc tape_setCell drawn_setCell drawn_drewN drawn_drew

set_option maxHeartbeats 400000 in
theorem along_none (w : World) (i : BId) (ys : List Pl.LD) (a b : Int) (h : BoxAt w i [] ys) :
    Calls Try.prog 14 #[.pointer (some ⟨i.b, 0, none⟩), .int .i64 a, .int .i64 b] w fun e w' => e = .returned (.tuple #[.float .f32 0, .float .f32 0, .int .i64 2]) ∧ Ext w w' := by
  obtain ⟨xl, xh, xw, xb, yl, yh, yw, yb, _, _, hc⟩ := h.cells
  have g2 : w.cell? ⟨i.b, 2, none⟩ = some (.int .i64 0) := (hc w (Ext.refl _)).2.2.1
  clear hc
  go_enter Try.func14, Try.ntmps14
  go_wp2
  go_ret3
  exact ⟨rfl, Ext.refl _⟩
set_option maxHeartbeats 400000 in
theorem clamp_none (w : World) (i : BId) (ys : List Pl.LD) (a b c : Int) (h : BoxAt w i [] ys) :
    Calls Try.prog 15 #[.pointer (some ⟨i.b, 0, none⟩), .int .i64 a, .int .i64 b, .int .i64 c] w fun e w' => e = .returned (.tuple #[.float .f32 0, .float .f32 0, .int .i64 2]) ∧ Ext w w' := by
  obtain ⟨xl, xh, xw, xb, yl, yh, yw, yb, _, _, hc⟩ := h.cells
  have g2 : w.cell? ⟨i.b, 2, none⟩ = some (.int .i64 0) := (hc w (Ext.refl _)).2.2.1
  clear hc
  go_enter Try.func15, Try.ntmps15
  go_wp2
  go_ret3
  exact ⟨rfl, Ext.refl _⟩
set_option maxHeartbeats 1000000 in
theorem along_some (w : World) (i : BId) (xs ys : List Pl.LD) (a b : Int) (h : BoxAt w i xs ys) (hn : 0 < xs.length) (f1 : fits32 (Pl.ratio a b) = true) :
    Calls Try.prog 14 #[.pointer (some ⟨i.b, 0, none⟩), .int .i64 a, .int .i64 b] w fun e w' => ∃ u v, e = .returned (.tuple #[.float .f32 u, .float .f32 v, .int .i64 0]) ∧ V .f32 u = Pl.lerp (Pl.coord a b) (Pl.axisOf xs).lo (Pl.axisOf xs).hi ∧ V .f32 v = Pl.lerp (Pl.coord a b) (Pl.axisOf ys).lo (Pl.axisOf ys).hi ∧ Ext w w' := by
  obtain ⟨xl, xh, xw, xb, yl, yh, yw, yb, hax, hay, hc⟩ := h.cells
  have hlen := h.sx.len
  clear h
  generalize Pl.axisOf xs = ax at *
  generalize Pl.axisOf ys = ay at *
  have HA : Hid (axV xl xh xw xb ax ∧ axV yl yh yw yb ay) := ⟨hax, hay⟩
  have g2 : ∀ w', Ext w w' → w'.cell? ⟨i.b, 2, none⟩ = some (.int .i64 xs.length) := fun w' hx => (hc w' hx).2.2.1
  have g3 : ∀ w', Ext w w' → w'.cell? ⟨i.b, 3, none⟩ = some (.float .f32 xl) := fun w' hx => (hc w' hx).2.2.2.1
  have g4 : ∀ w', Ext w w' → w'.cell? ⟨i.b, 4, none⟩ = some (.float .f32 xh) := fun w' hx => (hc w' hx).2.2.2.2.1
  have g7 : ∀ w', Ext w w' → w'.cell? ⟨i.b, 7, none⟩ = some (.float .f32 yl) := fun w' hx => (hc w' hx).2.2.2.2.2.2.2.1
  have g8 : ∀ w', Ext w w' → w'.cell? ⟨i.b, 8, none⟩ = some (.float .f32 yh) := fun w' hx => (hc w' hx).2.2.2.2.2.2.2.2.1
  have hx0 := Ext.refl w
  have hz : ((xs.length : Int) == 0) = false := beq_eq_false_iff_ne.2 (by omega)
  clear hc hax hay
  have HF : Hid (fits32 (Pl.ratio a b) = true) := f1
  clear f1
  go_enter Try.func14, Try.ntmps14
  go_wp2_with fail
  refine (coord_any a b w HF.out).mono ?_
  rintro e w1 ⟨r1, rfl, hr1, hx1⟩
  have R1 : Hid (V .f32 r1 = Pl.coord a b) := hr1
  clear hr1
  go_wp2_with fail
  refine Calm.region 13 0 (fun o => o.dst == some 29) (Ext w) (by kernel_rfl) (by kernel_rfl) hx1.drew ?_
  simp only [List.take, List.drop]
  repeat (first
    | (refine Calm.walk_move _ (by first | exact .inl rfl | exact .inr rfl) rfl rfl ?_; simp only [Act.put, List.setIfInBounds_toArray, List.set, Act.eval, List.getD_toArray, List.getD_cons_zero, List.getD_cons_succ])
    | (refine Calm.walk_call (f := 32) (args := #[.float .f32 r1, .float .f32 xl, .float .f32 xh]) (fun v => ∃ r, v = .float .f32 r ∧ V .f32 r = Pl.lerp (V .f32 r1) (V .f32 xl) (V .f32 xh)) rfl rfl (fun _ _ => by simp [go_sem]) (fun w' hw' => (lerp_any _ _ _ w').mono fun e w2 ⟨r, he, hv, hx⟩ => ⟨_, he, hw'.trans hx, ⟨r, rfl, hv⟩⟩) ?_; rintro v ⟨u, rfl, hu⟩; simp only [Act.put, List.setIfInBounds_toArray, List.set])
    | (apply Calm.walk_value; rfl; rfl; (intro w' hw'; simp [go_sem, hw', g3, g4]; rfl); simp only [Act.put, List.setIfInBounds_toArray, List.set]))
  show ∀ w', _
  have Hhu : Hid (V .f32 u = Pl.lerp (V .f32 r1) (V .f32 xl) (V .f32 xh)) := hu
  clear hu
  intro w2 hx2
  go_wp2_with fail
  refine Calm.region 13 0 (fun o => o.dst == some 41) (Ext w) (by kernel_rfl) (by kernel_rfl) hx2.drew ?_
  simp only [List.take, List.drop]
  repeat (first
    | (refine Calm.walk_move _ (by first | exact .inl rfl | exact .inr rfl) rfl rfl ?_; simp only [Act.put, List.setIfInBounds_toArray, List.set, Act.eval, List.getD_toArray, List.getD_cons_zero, List.getD_cons_succ])
    | (refine Calm.walk_call (f := 32) (args := #[.float .f32 r1, .float .f32 yl, .float .f32 yh]) (fun v => ∃ r, v = .float .f32 r ∧ V .f32 r = Pl.lerp (V .f32 r1) (V .f32 yl) (V .f32 yh)) rfl rfl (fun _ _ => by simp [go_sem]) (fun w' hw' => (lerp_any _ _ _ w').mono fun e w2 ⟨r, he, hv, hx⟩ => ⟨_, he, hw'.trans hx, ⟨r, rfl, hv⟩⟩) ?_; rintro v ⟨v, rfl, hv⟩; simp only [Act.put, List.setIfInBounds_toArray, List.set])
    | (apply Calm.walk_value; rfl; rfl; (intro w' hw'; simp [go_sem, hw', g7, g8]; rfl); simp only [Act.put, List.setIfInBounds_toArray, List.set]))
  show ∀ w', _
  have Hhv : Hid (V .f32 v = Pl.lerp (V .f32 r1) (V .f32 yl) (V .f32 yh)) := hv
  clear hv
  intro w3 hx3
  go_wp2
  go_ret3
  refine ⟨_, _, rfl, ?_, ?_, hx3⟩
  · rw [Hhu.out, R1.out, HA.out.1.1, HA.out.1.2.1]
  · rw [Hhv.out, R1.out, HA.out.2.1, HA.out.2.2.1]
set_option maxHeartbeats 1000000 in
theorem clamp_some (w : World) (i : BId) (xs ys : List Pl.LD) (a b c : Int) (h : BoxAt w i xs ys) (hn : 0 < xs.length) (f1 : fits32 (Pl.ratio a c) = true) (f2 : fits32 (Pl.ratio b c) = true) :
    Calls Try.prog 15 #[.pointer (some ⟨i.b, 0, none⟩), .int .i64 a, .int .i64 b, .int .i64 c] w fun e w' => ∃ u v, e = .returned (.tuple #[.float .f32 u, .float .f32 v, .int .i64 0]) ∧ V .f32 u = Pl.clamp (Pl.coord a c) (Pl.axisOf xs).lo (Pl.axisOf xs).hi ∧ V .f32 v = Pl.clamp (Pl.coord b c) (Pl.axisOf ys).lo (Pl.axisOf ys).hi ∧ Ext w w' := by
  obtain ⟨xl, xh, xw, xb, yl, yh, yw, yb, hax, hay, hc⟩ := h.cells
  have hlen := h.sx.len
  clear h
  generalize Pl.axisOf xs = ax at *
  generalize Pl.axisOf ys = ay at *
  have HA : Hid (axV xl xh xw xb ax ∧ axV yl yh yw yb ay) := ⟨hax, hay⟩
  have g2 : ∀ w', Ext w w' → w'.cell? ⟨i.b, 2, none⟩ = some (.int .i64 xs.length) := fun w' hx => (hc w' hx).2.2.1
  have g3 : ∀ w', Ext w w' → w'.cell? ⟨i.b, 3, none⟩ = some (.float .f32 xl) := fun w' hx => (hc w' hx).2.2.2.1
  have g4 : ∀ w', Ext w w' → w'.cell? ⟨i.b, 4, none⟩ = some (.float .f32 xh) := fun w' hx => (hc w' hx).2.2.2.2.1
  have g7 : ∀ w', Ext w w' → w'.cell? ⟨i.b, 7, none⟩ = some (.float .f32 yl) := fun w' hx => (hc w' hx).2.2.2.2.2.2.2.1
  have g8 : ∀ w', Ext w w' → w'.cell? ⟨i.b, 8, none⟩ = some (.float .f32 yh) := fun w' hx => (hc w' hx).2.2.2.2.2.2.2.2.1
  have hx0 := Ext.refl w
  have hz : ((xs.length : Int) == 0) = false := beq_eq_false_iff_ne.2 (by omega)
  clear hc hax hay
  have HF : Hid (fits32 (Pl.ratio a c) = true ∧ fits32 (Pl.ratio b c) = true) := ⟨f1, f2⟩
  clear f1 f2
  go_enter Try.func15, Try.ntmps15
  go_wp2_with fail
  refine (coord_any a c w HF.out.1).mono ?_
  rintro e w1 ⟨r1, rfl, hr1, hx1⟩
  have R1 : Hid (V .f32 r1 = Pl.coord a c) := hr1
  clear hr1
  go_wp2_with fail
  refine (coord_any b c w1 HF.out.2).mono ?_
  rintro e w1' ⟨r2, rfl, hr2, hx1'⟩
  have R2 : Hid (V .f32 r2 = Pl.coord b c) := hr2
  clear hr2
  replace hx1' := hx1.trans hx1'
  go_wp2_with fail
  refine Calm.region 13 0 (fun o => o.dst == some 35) (Ext w) (by kernel_rfl) (by kernel_rfl) hx1'.drew ?_
  simp only [List.take, List.drop]
  repeat (first
    | (refine Calm.walk_move _ (by first | exact .inl rfl | exact .inr rfl) rfl rfl ?_; simp only [Act.put, List.setIfInBounds_toArray, List.set, Act.eval, List.getD_toArray, List.getD_cons_zero, List.getD_cons_succ])
    | (refine Calm.walk_call (f := 33) (args := #[.float .f32 r1, .float .f32 xl, .float .f32 xh]) (fun v => ∃ r, v = .float .f32 r ∧ V .f32 r = Pl.clamp (V .f32 r1) (V .f32 xl) (V .f32 xh)) rfl rfl (fun _ _ => by simp [go_sem]) (fun w' hw' => (clamp_any _ _ _ w').mono fun e w2 ⟨r, he, hv, hx⟩ => ⟨_, he, hw'.trans hx, ⟨r, rfl, hv⟩⟩) ?_; rintro v ⟨u, rfl, hu⟩; simp only [Act.put, List.setIfInBounds_toArray, List.set])
    | (apply Calm.walk_value; rfl; rfl; (intro w' hw'; simp [go_sem, hw', g3, g4]; rfl); simp only [Act.put, List.setIfInBounds_toArray, List.set]))
  show ∀ w', _
  have Hhu : Hid (V .f32 u = Pl.clamp (V .f32 r1) (V .f32 xl) (V .f32 xh)) := hu
  clear hu
  intro w2 hx2
  go_wp2_with fail
  refine Calm.region 13 0 (fun o => o.dst == some 47) (Ext w) (by kernel_rfl) (by kernel_rfl) hx2.drew ?_
  simp only [List.take, List.drop]
  repeat (first
    | (refine Calm.walk_move _ (by first | exact .inl rfl | exact .inr rfl) rfl rfl ?_; simp only [Act.put, List.setIfInBounds_toArray, List.set, Act.eval, List.getD_toArray, List.getD_cons_zero, List.getD_cons_succ])
    | (refine Calm.walk_call (f := 33) (args := #[.float .f32 r2, .float .f32 yl, .float .f32 yh]) (fun v => ∃ r, v = .float .f32 r ∧ V .f32 r = Pl.clamp (V .f32 r2) (V .f32 yl) (V .f32 yh)) rfl rfl (fun _ _ => by simp [go_sem]) (fun w' hw' => (clamp_any _ _ _ w').mono fun e w2 ⟨r, he, hv, hx⟩ => ⟨_, he, hw'.trans hx, ⟨r, rfl, hv⟩⟩) ?_; rintro v ⟨v, rfl, hv⟩; simp only [Act.put, List.setIfInBounds_toArray, List.set])
    | (apply Calm.walk_value; rfl; rfl; (intro w' hw'; simp [go_sem, hw', g7, g8]; rfl); simp only [Act.put, List.setIfInBounds_toArray, List.set]))
  show ∀ w', _
  have Hhv : Hid (V .f32 v = Pl.clamp (V .f32 r2) (V .f32 yl) (V .f32 yh)) := hv
  clear hv
  intro w3 hx3
  go_wp2
  go_ret3
  refine ⟨_, _, rfl, ?_, ?_, hx3⟩
  · rw [Hhu.out, R1.out, HA.out.1.1, HA.out.1.2.1]
  · rw [Hhv.out, R2.out, HA.out.2.1, HA.out.2.2.1]
end Go.Proofs.Qxb6500343a
