/-
  Walks 11: Facts.
-/
import Derived.Test.Qxb6500343aW10
namespace Go.Proofs.Qxb6500343a
open Go.RowKit
open Go.Proofs
open Fl
open Ieee (Datum)
set_option linter.unusedSimpArgs false
set_option linter.unusedVariables false
attribute [local go_sem] run_fadd run_fsub run_fmul run_fquo run_store_float alloc_drewN setCell_drewN shape?_drewN tape_alloc drawn_alloc tape_setCell drawn_setCell drawn_drewN drawn_drew

theorem cell_at (w : World) (i : BId) (a b c k : Int) (h : BoxAt w i Fk.xs Fk.ys) (hk : Fk.cellB a b c k = true) :
    Calls Try.prog 13 #[.pointer (some ⟨i.b, 0, none⟩), .int .i64 a, .int .i64 b, .int .i64 c] w fun e w' => e = .returned (.tuple #[.int .i64 k, .int .i64 0]) ∧ Ext w w' := by
  simp only [Fk.cellB, Bool.and_eq_true, decide_eq_true_eq] at hk
  obtain ⟨⟨⟨h1, h2⟩, h3⟩, h4⟩ := hk
  have := cell_some w i Fk.xs Fk.ys a b c h (by simp [Fk.xs]) h1 h2 h3
  rw [h4] at this
  exact this

/-- A counter up to four, and nothing old has turned. -/
def Cnt (w4 : World) (i : Value) (w' : World) : Prop := ∃ k : Nat, k ≤ 4 ∧ i = .int .i64 k ∧ Ext w4 w'
set_option maxRecDepth 100000 in
set_option maxHeartbeats 2000000 in
theorem facts_any (w : World) : Calls Try.prog 6 #[] w fun e w' => e = .returned (.bool true) ∧ Ext w w' := by
  go_enter Try.func6, Try.ntmps6
  go_wp2_with fail
  refine (ground_any _).mono ?_
  rintro e w1 ⟨px, Lx, py, Ly, rfl, hs1, hs2, hnd, hk, hx1⟩
  have HK : Hid (SerAt w1 px Lx [] ∧ SerAt w1 py Ly [] ∧ [px, Lx, py, Ly].Nodup ∧ ∀ k, k ∈ [px, Lx, py, Ly] → w.heap.size ≤ k ∧ k < w1.heap.size) := ⟨hs1, hs2, hnd, hk⟩
  clear hs1 hs2 hnd hk
  have hsz := hx1.size
  go_wp2_with fail
  refine (bnew_any _ px py).mono ?_
  rintro e w2 ⟨rfl, hb2, hx2⟩
  simp only [World.size_alloc] at hb2 hx2 ⊢
  generalize hW : w1.heap.size + 1 = bb at *
  have HB : Hid (BoxAt w2 ⟨bb, px, Lx, py, Ly⟩ [] []) := by
    obtain ⟨h1, h2, h3, h4⟩ := HK.out
    have hx12 : Ext w1 w2 := by
      refine Ext.trans ?_ hx2
      repeat (first | exact Ext.refl _ | refine Ext.alloc ?_ _)
    refine ⟨hb2, h1.ext hx12, h2.ext hx12, rfl, ?_⟩
    have a1 := h4 px (by simp)
    have a2 := h4 Lx (by simp)
    have a3 := h4 py (by simp)
    have a4 := h4 Ly (by simp)
    simp [BId.all] at h3 ⊢
    omega
  have HX : Hid (Ext w w2) := by
    refine Ext.trans ?_ hx2
    exact hx1.alloc _
  have HN : Hid (∀ k, k ∈ [bb, px, Lx, py, Ly] → w.heap.size ≤ k) := by
    intro k hk
    have h4 := HK.out.2.2.2
    have a1 := h4 px (by simp)
    have a2 := h4 Lx (by simp)
    have a3 := h4 py (by simp)
    have a4 := h4 Ly (by simp)
    simp at hk
    omega
  clear hb2 hW hx2 hx1 hsz
  go_wp2_with fail
  refine (add_ok w2 ⟨bb, px, Lx, py, Ly⟩ [] [] 0 0 1 HB.out (by simp) (Fk.fit_of Fk.fit1) (Fk.fit_of Fk.fit1)).mono ?_
  rintro e w3 ⟨rfl, hb3, hc3⟩
  have HB3 : Hid (BoxAt w3 ⟨bb, px, Lx, py, Ly⟩ Fk.x1 Fk.x1 ∧ Chg [bb, px, Lx, py, Ly] w2 w3) := ⟨hb3, hc3⟩
  clear hb3 hc3
  go_wp2_with fail
  refine (add_ok w3 ⟨bb, px, Lx, py, Ly⟩ Fk.x1 Fk.x1 4 8 1 HB3.out.1 (by simp [Fk.x1]) (Fk.fit_of Fk.fitx) (Fk.fit_of Fk.fity)).mono ?_
  rintro e w4 ⟨rfl, hb4, hc4⟩
  have HB4 : Hid (BoxAt w4 ⟨bb, px, Lx, py, Ly⟩ Fk.xs Fk.ys ∧ Ext w w4) := by
    refine ⟨hb4, ?_⟩
    have h1 : Chg [bb, px, Lx, py, Ly] w2 w4 := HB3.out.2.trans hc4
    exact ((Chg.of_ext (S := []) HX.out).trans' h1 (fun i hi => .inr (HN.out i hi))).ext
  clear hb4 hc4
  go_wp2_with fail
  go_loopw [3] (fun i w' => Cnt w4 i w') (fun i _ => 4 - (intOf i).toNat)
  case atStart => exact ⟨0, by omega, rfl, Ext.refl _⟩
  case round =>
    obtain ⟨k, hk, rfl, hxr⟩ := hrel
    by_cases hlt : k < 4
    · have hd : decide ((k : Int) < 4) = true := decide_eq_true (by omega)
      go_wp2_with fail
      obtain ⟨wo, rfl⟩ : ∃ wo : World, wo = wr := ⟨_, rfl⟩
      go_loopw [4] (fun j w' => Cnt w4 j w') (fun j _ => 4 - (intOf j).toNat)
      case atStart => exact ⟨0, by omega, rfl, hxr⟩
      case round =>
        obtain ⟨l, hl, rfl, hxl⟩ := hrel
        by_cases hlt2 : l < 4
        · have C1 : Hid (Fk.cellB (k : Int) (2 * (l : Int)) 1 ((l : Int) * 4 + k) = true) := Fk.cells1 ⟨k, hlt⟩ ⟨l, hlt2⟩
          have C2 : Hid (Fk.cellB (4 * (k : Int) + 3) (8 * (l : Int) + 6) 4 ((l : Int) * 4 + k) = true) := Fk.cells2 ⟨k, hlt⟩ ⟨l, hlt2⟩
          go_wp2_with fail
          refine (cell_at _ ⟨bb, px, Lx, py, Ly⟩ _ _ _ _ (HB4.out.1.ext hxl) C1.out).mono ?_
          rintro e w5 ⟨rfl, hx5⟩
          replace hx5 := hxl.trans hx5
          go_wp2_with fail
          refine (cell_at _ ⟨bb, px, Lx, py, Ly⟩ _ _ _ _ (HB4.out.1.ext hx5) C2.out).mono ?_
          rintro e w6 ⟨rfl, hx6⟩
          replace hx6 := hx5.trans hx6
          go_wp2
          go_roundw
          case rel => first | exact ⟨l + 1, by omega, by go_num, hx6⟩ | ((repeat apply Exists.intro); exact ⟨⟨l + 1, by omega, by go_num, hx6⟩, rfl⟩)
          case measure => simp [intOf]; omega
        · have hk4 : l = 4 := by omega
          subst hk4
          have A1 : Hid (Fk.alongB (k : Int) 4 = true) := Fk.alongs ⟨k, hlt⟩
          go_wp2_with fail
          have A2 : Hid (fits32 (Pl.ratio (k : Int) 4) = true) := by
            have := A1.out; simp only [Fk.alongB, Bool.and_eq_true] at this; exact this.1.1
          refine (along_some _ ⟨bb, px, Lx, py, Ly⟩ Fk.xs Fk.ys _ _ (HB4.out.1.ext hxl) (by simp [Fk.xs]) A2.out).mono ?_
          rintro e w5 ⟨u, v, rfl, hu, hv, hx5⟩
          have q1 : FloatKind.f32.format.order u (floatOfInt .f32 (k : Int)) = some .eq := by
            rw [order_V, hu, V_ofInt]
            have := A1.out; simp only [Fk.alongB, Bool.and_eq_true] at this; simpa [eq] using this.1.2
          have q2 : FloatKind.f32.format.order v (floatOfInt .f32 (2 * (k : Int))) = some .eq := by
            rw [order_V, hv, V_ofInt]
            have := A1.out; simp only [Fk.alongB, Bool.and_eq_true] at this; simpa [eq] using this.2
          clear hu hv
          replace hx5 := hxl.trans hx5
          go_wp2
          go_roundw
          case rel => first | exact ⟨k + 1, by omega, by go_num, hx5⟩ | ((repeat apply Exists.intro); exact ⟨⟨k + 1, by omega, by go_num, hx5⟩, rfl⟩)
          case measure => simp [intOf]; omega
    · have hk4 : k = 4 := by omega
      subst hk4
      go_wp2_with fail
      refine (cell_at _ ⟨bb, px, Lx, py, Ly⟩ _ _ _ _ (HB4.out.1.ext hxr) Fk.cells3).mono ?_
      rintro e w5 ⟨rfl, hx5⟩
      replace hx5 := hxr.trans hx5
      have CL : Hid (fits32 (Pl.ratio 9 1) = true ∧ fits32 (Pl.ratio (-5) 1) = true ∧ eq (Pl.clamp (Pl.coord 9 1) (Pl.axisOf Fk.xs).lo (Pl.axisOf Fk.xs).hi) Pl.four32 = true ∧ eq (Pl.clamp (Pl.coord (-5) 1) (Pl.axisOf Fk.ys).lo (Pl.axisOf Fk.ys).hi) Pl.zero32 = true) := by
        have := Fk.clamps; simp only [Bool.and_eq_true] at this; exact ⟨this.1.1.1, this.1.1.2, this.1.2, this.2⟩
      go_wp2_with fail
      refine (clamp_some _ ⟨bb, px, Lx, py, Ly⟩ Fk.xs Fk.ys _ _ _ (HB4.out.1.ext hx5) (by simp [Fk.xs]) CL.out.1 CL.out.2.1).mono ?_
      rintro e w6 ⟨u, v, rfl, hu, hv, hx6⟩
      have q1 : FloatKind.f32.format.order u 1082130432 = some .eq := by
        rw [order_V, hu]
        have h := CL.out.2.2.1; simp only [eq, beq_iff_eq] at h; exact h
      have q2 : FloatKind.f32.format.order v 0 = some .eq := by
        rw [order_V, hv]
        have h := CL.out.2.2.2; simp only [eq, beq_iff_eq] at h; exact h
      clear hu hv
      replace hx6 := hx5.trans hx6
      go_wp2
      go_ret
      exact ⟨rfl, HB4.out.2.trans hx6⟩
end Go.Proofs.Qxb6500343a
