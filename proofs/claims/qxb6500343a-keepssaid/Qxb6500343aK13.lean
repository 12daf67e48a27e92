/-
  Walks of Keeps 13: Means, Cell.
-/
import Derived.Test.Qxb6500343aK10
namespace Go.Proofs.Qxb6500343a
open Go.RowKit
open Go.Proofs
open Ieee (Datum)
open Fl
open Tx (st)
open Ff (in64)
set_option linter.unusedSimpArgs false
set_option linter.unusedVariables false
attribute [local go_sem] run_fadd run_fsub run_fmul run_fquo run_store_float alloc_drewN setCell_drewN shape?_drewN tape_alloc drawn_alloc tape_setCell drawn_setCell drawn_drewN drawn_drew run_fneg

theorem cell_facts {xs ys : List Datum} (hx : xs ≠ []) (hy : ys ≠ []) (px py : Datum) (K F : Int) (hKF : Pl.cellA (AX xs) (AX ys) px py = (K, F)) :
    owedD (Pl.holds (AX xs) px && Pl.holds (AX ys) py) (sub .f32 (AX xs).hi (AX xs).lo) (sub .f32 (AX ys).hi (AX ys).lo) F = true ∧
    ((F = 5 ∧ K = 0) ∨ (F = 6 ∧ K = 0) ∨ (F = 0 ∧ ∃ row col : Int, K = Pl.rc row col ∧ partD px (AX xs).lo (AX xs).hi = col ∧ partD py (AX ys).lo (AX ys).hi = row ∧ (0 ≤ col ∧ col ≤ 3) ∧ (0 ≤ row ∧ row ≤ 3) ∧
      (eq px (AX xs).lo = true → col = 0) ∧ (eq px (AX xs).hi = true → col = 3) ∧ (eq py (AX ys).lo = true → row = 0) ∧ (eq py (AX ys).hi = true → row = 3))) := by
  have wx := (Kf.lo_hi hx).2.2
  have wy := (Kf.lo_hi hy).2.2
  unfold Pl.cellA at hKF
  unfold owedD
  cases h1 : Pl.holds (AX xs) px
  · rw [h1] at hKF
    simp only [Bool.false_eq_true, if_false, Prod.mk.injEq] at hKF
    obtain ⟨rfl, rfl⟩ := hKF
    exact ⟨rfl, .inl ⟨rfl, rfl⟩⟩
  · cases h2 : Pl.holds (AX ys) py
    · rw [h1, h2] at hKF
      simp only [Bool.false_eq_true, if_false, if_true, Prod.mk.injEq] at hKF
      obtain ⟨rfl, rfl⟩ := hKF
      exact ⟨rfl, .inl ⟨rfl, rfl⟩⟩
    · obtain ⟨p1, p2⟩ := Kf.part_owed wx.1 wx.2 h1
      obtain ⟨q1, q2⟩ := Kf.part_owed wy.1 wy.2 h2
      rw [h1, h2, p1, q1] at hKF
      rw [← wx.1, ← wy.1]
      simp only [if_true, Bool.and_self] at hKF ⊢
      cases d1 : divable (AX xs).w
      · rw [d1] at hKF
        simp only [Bool.false_and, Bool.false_eq_true, if_false, Prod.mk.injEq] at hKF
        obtain ⟨rfl, rfl⟩ := hKF
        exact ⟨rfl, .inr (.inl ⟨rfl, rfl⟩)⟩
      · cases d2 : divable (AX ys).w
        · rw [d1, d2] at hKF
          simp only [Bool.and_false, Bool.false_eq_true, if_false, Prod.mk.injEq] at hKF
          obtain ⟨rfl, rfl⟩ := hKF
          exact ⟨rfl, .inr (.inl ⟨rfl, rfl⟩)⟩
        · rw [d1, d2, p2 d1, q2 d2] at hKF
          simp only [Bool.and_self, if_true, Prod.mk.injEq] at hKF
          obtain ⟨rfl, rfl⟩ := hKF
          unfold Pl.holds at h1 h2
          rw [Bool.and_eq_true] at h1 h2
          rw [wx.1] at d1
          rw [wy.1] at d2
          obtain ⟨u1, u2, u3, u4⟩ := Kf.unit_of ((Ff.ge_iff _ _).1 h1.1) ((Ff.le_iff _ _).1 h1.2) d1
          obtain ⟨v1, v2, v3, v4⟩ := Kf.unit_of ((Ff.ge_iff _ _).1 h2.1) ((Ff.le_iff _ _).1 h2.2) d2
          refine ⟨rfl, .inr (.inr ⟨rfl, _, _, rfl, ?_, ?_, u2, v2, u3, u4, v3, v4⟩)⟩
          · unfold partD; rw [u1, if_pos rfl]
          · unfold partD; rw [v1, if_pos rfl]
theorem rc_eq {row col : Int} (h1 : 0 ≤ col ∧ col ≤ 3) (h2 : 0 ≤ row ∧ row ≤ 3) : Pl.rc row col = row * 4 + col := by
  unfold Pl.rc
  rw [IntWalk.wrap64_in (row * 4) (by omega), IntWalk.wrap64_in _ (by omega)]
theorem six {x : Int} {e1 e2 : Bool} (h : 0 ≤ x ∧ x ≤ 3) (h1 : e1 = true → x = 0) (h2 : e2 = true → x = 3) :
    (x = 0 ∧ e1 = true ∧ e2 = false) ∨ (x = 0 ∧ e1 = false ∧ e2 = false) ∨ (x = 1 ∧ e1 = false ∧ e2 = false) ∨ (x = 2 ∧ e1 = false ∧ e2 = false) ∨ (x = 3 ∧ e1 = false ∧ e2 = true) ∨ (x = 3 ∧ e1 = false ∧ e2 = false) := by
  cases e1 <;> cases e2 <;> simp at h1 h2 ⊢ <;> omega
set_option maxRecDepth 100000 in
set_option maxHeartbeats 16000000 in
theorem means_cell_e5 (w : World) (i : BId) (xs ys : List Datum) (a b c was : Int) (os ot : ByteArray) (hbx : BoxAt w i (Pl.lv xs) (Pl.lv ys)) (hn : 0 < xs.length) (ha : in64 a) (hb : in64 b) (hc : in64 c) (hKF : Pl.cellA (AX xs) (AX ys) (Pl.coord a c) (Pl.coord b c) = (0, 5)) (how : owedD (Pl.holds (AX xs) (Pl.coord a c) && Pl.holds (AX ys) (Pl.coord b c)) (sub .f32 (AX xs).hi (AX xs).lo) (sub .f32 (AX ys).hi (AX ys).lo) 5 = true) :
    Calls Try.prog 24 #[.pointer (some ⟨i.b, 0, none⟩), .agg #[.int .i64 8, .int .i64 a, .int .i64 b, .int .i64 c, .string os, .string ot], .int .i64 was] w fun e w' => e = .returned (.bool true) ∧ Ext w w' := by
  have HKF : Hid (Pl.cellA (AX xs) (AX ys) (Pl.coord a c) (Pl.coord b c) = (0, 5) ∧ owedD (Pl.holds (AX xs) (Pl.coord a c) && Pl.holds (AX ys) (Pl.coord b c)) (sub .f32 (AX xs).hi (AX xs).lo) (sub .f32 (AX ys).hi (AX ys).lo) 5 = true) := ⟨hKF, how⟩
  clear hKF how
  have H : Hid (BoxAt w i (Pl.lv xs) (Pl.lv ys) ∧ 0 < xs.length ∧ in64 a ∧ in64 b ∧ in64 c) := ⟨hbx, hn, ha, hb, hc⟩
  have hlen := hbx.len
  rw [Pl.lv_len, Pl.lv_len] at hlen
  have HNE : Hid (xs ≠ [] ∧ ys ≠ []) := ⟨by rintro rfl; simp at hn, by rintro rfl; simp at hlen; omega⟩
  clear hbx hn ha hb hc hlen
  go_enter Try.func24, Try.ntmps24
  go_wp2_with fail
  obtain ⟨W0, hW0⟩ : ∃ W0, W0 = w.alloc (.cells #[.int .i64 8, .int .i64 a, .int .i64 b, .int .i64 c, .string os, .string ot] 48) := ⟨_, rfl⟩
  have X0 : Hid (Ext w W0 ∧ W0.heap[w.heap.size]? = some (.cells #[.int .i64 8, .int .i64 a, .int .i64 b, .int .i64 c, .string os, .string ot] 48)) := by
    rw [hW0]
    exact ⟨(Ext.refl w).alloc _, heap_alloc_new w _⟩
  rw [← hW0]
  clear hW0
  have HB : Hid (∀ w', Ext W0 w' → BoxAt w' i (Pl.lv xs) (Pl.lv ys)) := fun w' hx => H.out.1.ext (X0.out.1.trans hx)
  have HO : Hid (∀ w', Ext W0 w' → w'.cell? ⟨w.heap.size, 0, none⟩ = some (.int .i64 8) ∧ w'.cell? ⟨w.heap.size, 1, none⟩ = some (.int .i64 a) ∧ w'.cell? ⟨w.heap.size, 2, none⟩ = some (.int .i64 b) ∧ w'.cell? ⟨w.heap.size, 3, none⟩ = some (.int .i64 c) ∧ w'.cell? ⟨w.heap.size, 4, none⟩ = some (.string os) ∧ w'.cell? ⟨w.heap.size, 5, none⟩ = some (.string ot)) := fun w' hx => ⟨cell_of (hx.heap X0.out.2) 0, cell_of (hx.heap X0.out.2) 1, cell_of (hx.heap X0.out.2) 2, cell_of (hx.heap X0.out.2) 3, cell_of (hx.heap X0.out.2) 4, cell_of (hx.heap X0.out.2) 5⟩
  refine (e_c _ i xs ys 0 (AX xs).lo (HB.out _ (Ext.refl W0)) H.out.2.1 rfl).mono ?_
  rintro e w1 ⟨lx, rfl, hlx, x1⟩
  have X1 : Hid (Ext W0 w1 ∧ V .f32 lx = (AX xs).lo) := ⟨(Ext.refl W0).trans x1, hlx⟩
  clear x1 hlx
  go_wp2_with fail
  refine (e_c _ i xs ys 1 (AX ys).lo (HB.out _ X1.out.1) H.out.2.1 rfl).mono ?_
  rintro e w2 ⟨ly, rfl, hly, x2⟩
  have X2 : Hid (Ext W0 w2 ∧ V .f32 ly = (AX ys).lo) := ⟨X1.out.1.trans x2, hly⟩
  clear x2 hly
  go_wp2_with fail
  refine (e_c _ i xs ys 2 (AX xs).hi (HB.out _ X2.out.1) H.out.2.1 rfl).mono ?_
  rintro e w3 ⟨hx, rfl, hhx, x3⟩
  have X3 : Hid (Ext W0 w3 ∧ V .f32 hx = (AX xs).hi) := ⟨X2.out.1.trans x3, hhx⟩
  clear x3 hhx
  go_wp2_with fail
  refine (e_c _ i xs ys 3 (AX ys).hi (HB.out _ X3.out.1) H.out.2.1 rfl).mono ?_
  rintro e w4 ⟨hy, rfl, hhy, x4⟩
  have X4 : Hid (Ext W0 w4 ∧ V .f32 hy = (AX ys).hi) := ⟨X3.out.1.trans x4, hhy⟩
  clear x4 hhy
  have HV : Hid (V .f32 lx = (AX xs).lo ∧ V .f32 ly = (AX ys).lo ∧ V .f32 hx = (AX xs).hi ∧ V .f32 hy = (AX ys).hi) := ⟨X1.out.2, X2.out.2, X3.out.2, X4.out.2⟩
  have E4 : Hid (Ext W0 w4) := X4.out.1
  clear X1 X2 X3 X4
  obtain ⟨p0, p1, p2, p3, p4, p5⟩ := HO.out w4 E4.out
  go_wp2_with fail
  refine (placed_any w4 i xs ys 8 a b c os ot lx ly hx hy (HB.out _ E4.out) H.out.2.1 H.out.2.2.1 H.out.2.2.2.1 H.out.2.2.2.2 HV.out.1 HV.out.2.1 HV.out.2.2.1 HV.out.2.2.2).mono ?_
  rintro e w5 ⟨rfl, x5⟩
  have E5 : Hid (Ext W0 w5) := E4.out.trans x5
  clear x5 p0 p1 p2 p3 p4 p5
  obtain ⟨p0, p1, p2, p3, p4, p5⟩ := HO.out w5 E5.out
  go_wp2_with fail
  refine (e_cel w5 i xs ys a b c (HB.out _ E5.out) H.out.2.1 H.out.2.2.1 H.out.2.2.2.1 H.out.2.2.2.2).mono ?_
  rintro e w6 ⟨rfl, x6⟩
  rw [HKF.out.1]
  have E6 : Hid (Ext W0 w6) := E5.out.trans x6
  clear x6 p0 p1 p2 p3 p4 p5
  obtain ⟨p0, p1, p2, p3, p4, p5⟩ := HO.out w6 E6.out
  go_wp2_with fail
  refine (e_ins w6 i xs ys a b c (HB.out _ E6.out) H.out.2.1 H.out.2.2.1 H.out.2.2.2.1 H.out.2.2.2.2).mono ?_
  rintro e w7 ⟨rfl, x7⟩
  have E7 : Hid (Ext W0 w7) := E6.out.trans x7
  clear x7 p0 p1 p2 p3 p4 p5
  have HOW : Hid (∀ τ1 n1 τ2 n2, owedD (Pl.holds (AX xs) (Pl.coord a c) && Pl.holds (AX ys) (Pl.coord b c)) (V .f32 (fb .sub .f32 hx lx τ1 n1)) (V .f32 (fb .sub .f32 hy ly τ2 n2)) 5 = true) := by
    intro τ1 n1 τ2 n2
    rw [V_sub, V_sub, HV.out.1, HV.out.2.1, HV.out.2.2.1, HV.out.2.2.2]
    exact HKF.out.2
  generalize (Pl.holds (AX xs) (Pl.coord a c) && Pl.holds (AX ys) (Pl.coord b c)) = tin at *
  go_wp2_with fail
  refine (owed_any tin _ _ 5 _).mono ?_
  rintro e w8 ⟨rfl, x8⟩
  rw [HOW.out]
  have E8 : Hid (Ext W0 w8) := (E7.out.drewN _).trans x8
  clear x8
  obtain ⟨p0, p1, p2, p3, p4, p5⟩ := HO.out w8 E8.out
  go_wp2
  go_ret
  exact ⟨rfl, X0.out.1.trans E8.out⟩
set_option maxRecDepth 100000 in
set_option maxHeartbeats 16000000 in
theorem means_cell_e6 (w : World) (i : BId) (xs ys : List Datum) (a b c was : Int) (os ot : ByteArray) (hbx : BoxAt w i (Pl.lv xs) (Pl.lv ys)) (hn : 0 < xs.length) (ha : in64 a) (hb : in64 b) (hc : in64 c) (hKF : Pl.cellA (AX xs) (AX ys) (Pl.coord a c) (Pl.coord b c) = (0, 6)) (how : owedD (Pl.holds (AX xs) (Pl.coord a c) && Pl.holds (AX ys) (Pl.coord b c)) (sub .f32 (AX xs).hi (AX xs).lo) (sub .f32 (AX ys).hi (AX ys).lo) 6 = true) :
    Calls Try.prog 24 #[.pointer (some ⟨i.b, 0, none⟩), .agg #[.int .i64 8, .int .i64 a, .int .i64 b, .int .i64 c, .string os, .string ot], .int .i64 was] w fun e w' => e = .returned (.bool true) ∧ Ext w w' := by
  have HKF : Hid (Pl.cellA (AX xs) (AX ys) (Pl.coord a c) (Pl.coord b c) = (0, 6) ∧ owedD (Pl.holds (AX xs) (Pl.coord a c) && Pl.holds (AX ys) (Pl.coord b c)) (sub .f32 (AX xs).hi (AX xs).lo) (sub .f32 (AX ys).hi (AX ys).lo) 6 = true) := ⟨hKF, how⟩
  clear hKF how
  have H : Hid (BoxAt w i (Pl.lv xs) (Pl.lv ys) ∧ 0 < xs.length ∧ in64 a ∧ in64 b ∧ in64 c) := ⟨hbx, hn, ha, hb, hc⟩
  have hlen := hbx.len
  rw [Pl.lv_len, Pl.lv_len] at hlen
  have HNE : Hid (xs ≠ [] ∧ ys ≠ []) := ⟨by rintro rfl; simp at hn, by rintro rfl; simp at hlen; omega⟩
  clear hbx hn ha hb hc hlen
  go_enter Try.func24, Try.ntmps24
  go_wp2_with fail
  obtain ⟨W0, hW0⟩ : ∃ W0, W0 = w.alloc (.cells #[.int .i64 8, .int .i64 a, .int .i64 b, .int .i64 c, .string os, .string ot] 48) := ⟨_, rfl⟩
  have X0 : Hid (Ext w W0 ∧ W0.heap[w.heap.size]? = some (.cells #[.int .i64 8, .int .i64 a, .int .i64 b, .int .i64 c, .string os, .string ot] 48)) := by
    rw [hW0]
    exact ⟨(Ext.refl w).alloc _, heap_alloc_new w _⟩
  rw [← hW0]
  clear hW0
  have HB : Hid (∀ w', Ext W0 w' → BoxAt w' i (Pl.lv xs) (Pl.lv ys)) := fun w' hx => H.out.1.ext (X0.out.1.trans hx)
  have HO : Hid (∀ w', Ext W0 w' → w'.cell? ⟨w.heap.size, 0, none⟩ = some (.int .i64 8) ∧ w'.cell? ⟨w.heap.size, 1, none⟩ = some (.int .i64 a) ∧ w'.cell? ⟨w.heap.size, 2, none⟩ = some (.int .i64 b) ∧ w'.cell? ⟨w.heap.size, 3, none⟩ = some (.int .i64 c) ∧ w'.cell? ⟨w.heap.size, 4, none⟩ = some (.string os) ∧ w'.cell? ⟨w.heap.size, 5, none⟩ = some (.string ot)) := fun w' hx => ⟨cell_of (hx.heap X0.out.2) 0, cell_of (hx.heap X0.out.2) 1, cell_of (hx.heap X0.out.2) 2, cell_of (hx.heap X0.out.2) 3, cell_of (hx.heap X0.out.2) 4, cell_of (hx.heap X0.out.2) 5⟩
  refine (e_c _ i xs ys 0 (AX xs).lo (HB.out _ (Ext.refl W0)) H.out.2.1 rfl).mono ?_
  rintro e w1 ⟨lx, rfl, hlx, x1⟩
  have X1 : Hid (Ext W0 w1 ∧ V .f32 lx = (AX xs).lo) := ⟨(Ext.refl W0).trans x1, hlx⟩
  clear x1 hlx
  go_wp2_with fail
  refine (e_c _ i xs ys 1 (AX ys).lo (HB.out _ X1.out.1) H.out.2.1 rfl).mono ?_
  rintro e w2 ⟨ly, rfl, hly, x2⟩
  have X2 : Hid (Ext W0 w2 ∧ V .f32 ly = (AX ys).lo) := ⟨X1.out.1.trans x2, hly⟩
  clear x2 hly
  go_wp2_with fail
  refine (e_c _ i xs ys 2 (AX xs).hi (HB.out _ X2.out.1) H.out.2.1 rfl).mono ?_
  rintro e w3 ⟨hx, rfl, hhx, x3⟩
  have X3 : Hid (Ext W0 w3 ∧ V .f32 hx = (AX xs).hi) := ⟨X2.out.1.trans x3, hhx⟩
  clear x3 hhx
  go_wp2_with fail
  refine (e_c _ i xs ys 3 (AX ys).hi (HB.out _ X3.out.1) H.out.2.1 rfl).mono ?_
  rintro e w4 ⟨hy, rfl, hhy, x4⟩
  have X4 : Hid (Ext W0 w4 ∧ V .f32 hy = (AX ys).hi) := ⟨X3.out.1.trans x4, hhy⟩
  clear x4 hhy
  have HV : Hid (V .f32 lx = (AX xs).lo ∧ V .f32 ly = (AX ys).lo ∧ V .f32 hx = (AX xs).hi ∧ V .f32 hy = (AX ys).hi) := ⟨X1.out.2, X2.out.2, X3.out.2, X4.out.2⟩
  have E4 : Hid (Ext W0 w4) := X4.out.1
  clear X1 X2 X3 X4
  obtain ⟨p0, p1, p2, p3, p4, p5⟩ := HO.out w4 E4.out
  go_wp2_with fail
  refine (placed_any w4 i xs ys 8 a b c os ot lx ly hx hy (HB.out _ E4.out) H.out.2.1 H.out.2.2.1 H.out.2.2.2.1 H.out.2.2.2.2 HV.out.1 HV.out.2.1 HV.out.2.2.1 HV.out.2.2.2).mono ?_
  rintro e w5 ⟨rfl, x5⟩
  have E5 : Hid (Ext W0 w5) := E4.out.trans x5
  clear x5 p0 p1 p2 p3 p4 p5
  obtain ⟨p0, p1, p2, p3, p4, p5⟩ := HO.out w5 E5.out
  go_wp2_with fail
  refine (e_cel w5 i xs ys a b c (HB.out _ E5.out) H.out.2.1 H.out.2.2.1 H.out.2.2.2.1 H.out.2.2.2.2).mono ?_
  rintro e w6 ⟨rfl, x6⟩
  rw [HKF.out.1]
  have E6 : Hid (Ext W0 w6) := E5.out.trans x6
  clear x6 p0 p1 p2 p3 p4 p5
  obtain ⟨p0, p1, p2, p3, p4, p5⟩ := HO.out w6 E6.out
  go_wp2_with fail
  refine (e_ins w6 i xs ys a b c (HB.out _ E6.out) H.out.2.1 H.out.2.2.1 H.out.2.2.2.1 H.out.2.2.2.2).mono ?_
  rintro e w7 ⟨rfl, x7⟩
  have E7 : Hid (Ext W0 w7) := E6.out.trans x7
  clear x7 p0 p1 p2 p3 p4 p5
  have HOW : Hid (∀ τ1 n1 τ2 n2, owedD (Pl.holds (AX xs) (Pl.coord a c) && Pl.holds (AX ys) (Pl.coord b c)) (V .f32 (fb .sub .f32 hx lx τ1 n1)) (V .f32 (fb .sub .f32 hy ly τ2 n2)) 6 = true) := by
    intro τ1 n1 τ2 n2
    rw [V_sub, V_sub, HV.out.1, HV.out.2.1, HV.out.2.2.1, HV.out.2.2.2]
    exact HKF.out.2
  generalize (Pl.holds (AX xs) (Pl.coord a c) && Pl.holds (AX ys) (Pl.coord b c)) = tin at *
  go_wp2_with fail
  refine (owed_any tin _ _ 6 _).mono ?_
  rintro e w8 ⟨rfl, x8⟩
  rw [HOW.out]
  have E8 : Hid (Ext W0 w8) := (E7.out.drewN _).trans x8
  clear x8
  obtain ⟨p0, p1, p2, p3, p4, p5⟩ := HO.out w8 E8.out
  go_wp2
  go_ret
  exact ⟨rfl, X0.out.1.trans E8.out⟩
end Go.Proofs.Qxb6500343a
