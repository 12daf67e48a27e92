/-
  Walks of Keeps 13: Means, Cell, one column.
-/
import Derived.Test.Qxb6500343aK13
namespace Go.Proofs.Qxb6500343a
open Go.RowKit
open Go.Proofs
open Ieee (Datum)
open Fl
open Tx (st)
open Ff (in64)
set_option linter.unusedSimpArgs false
set_option linter.unusedVariables false
attribute [local go_sem] run_fadd run_fsub run_fmul run_fquo run_store_float alloc_drewN setCell_drewN shape?_drewN tape_alloc drawn_alloc tape_setCell drawn_setCell drawn_drewN drawn_drew run_fneg

set_option maxRecDepth 100000 in
set_option maxHeartbeats 16000000 in
theorem means_cell_b (w : World) (i : BId) (xs ys : List Datum) (a b c was : Int) (os ot : ByteArray) (hbx : BoxAt w i (Pl.lv xs) (Pl.lv ys)) (hn : 0 < xs.length) (ha : in64 a) (hb : in64 b) (hc : in64 c) (K row : Int) (hKF : Pl.cellA (AX xs) (AX ys) (Pl.coord a c) (Pl.coord b c) = (K, 0)) (how : owedD (Pl.holds (AX xs) (Pl.coord a c) && Pl.holds (AX ys) (Pl.coord b c)) (sub .f32 (AX xs).hi (AX xs).lo) (sub .f32 (AX ys).hi (AX ys).lo) 0 = true) (hK : K = row * 4 + 0) (hcol : partD (Pl.coord a c) (AX xs).lo (AX xs).hi = 0) (hrow : partD (Pl.coord b c) (AX ys).lo (AX ys).hi = row) (rrow : 0 ≤ row ∧ row ≤ 3) (g1 : eq (Pl.coord a c) (AX xs).lo = false) (g2 : eq (Pl.coord a c) (AX xs).hi = false) (g3 : eq (Pl.coord b c) (AX ys).lo = true → row = 0) (g4 : eq (Pl.coord b c) (AX ys).hi = true → row = 3) :
    Calls Try.prog 24 #[.pointer (some ⟨i.b, 0, none⟩), .agg #[.int .i64 8, .int .i64 a, .int .i64 b, .int .i64 c, .string os, .string ot], .int .i64 was] w fun e w' => e = .returned (.bool true) ∧ Ext w w' := by
  have HKF : Hid (Pl.cellA (AX xs) (AX ys) (Pl.coord a c) (Pl.coord b c) = (K, 0) ∧ owedD (Pl.holds (AX xs) (Pl.coord a c) && Pl.holds (AX ys) (Pl.coord b c)) (sub .f32 (AX xs).hi (AX xs).lo) (sub .f32 (AX ys).hi (AX ys).lo) 0 = true) := ⟨hKF, how⟩
  have HK : Hid (K = row * 4 + 0 ∧ partD (Pl.coord a c) (AX xs).lo (AX xs).hi = 0 ∧ partD (Pl.coord b c) (AX ys).lo (AX ys).hi = row) := ⟨hK, hcol, hrow⟩
  have HG : Hid (eq (Pl.coord a c) (AX xs).lo = false ∧ eq (Pl.coord a c) (AX xs).hi = false) := ⟨g1, g2⟩
  have S2 : Hid _ := six rrow g3 g4
  have k1 : decide (K < 0) = false := decide_eq_false (by omega)
  have k2 : decide (16 ≤ K) = false := decide_eq_false (by omega)
  clear hKF how hK hcol hrow rrow g1 g2 g3 g4
  have H : Hid (BoxAt w i (Pl.lv xs) (Pl.lv ys) ∧ 0 < xs.length ∧ in64 a ∧ in64 b ∧ in64 c) := ⟨hbx, hn, ha, hb, hc⟩
  have hlen := hbx.len
  rw [Pl.lv_len, Pl.lv_len] at hlen
  have HNE : Hid (xs ≠ [] ∧ ys ≠ []) := ⟨by rintro rfl; simp at hn, by rintro rfl; simp at hlen; omega⟩
  clear hbx hn ha hb hc hlen
  go_enter Try.func24, Try.ntmps24
  go_wp2_with fail
  obtain ⟨W0, hW0⟩ : ∃ W0, W0 = w.alloc (.cells #[.int .i64 8, .int .i64 a, .int .i64 b, .int .i64 c, .string os, .string ot] 48) := ⟨_, rfl⟩
  have X0 : Hid (Ext w W0 ∧ W0.heap[w.heap.size]? = some (.cells #[.int .i64 8, .int .i64 a, .int .i64 b, .int .i64 c, .string os, .string ot] 48)) := by
    rw [hW0]
    exact ⟨(Ext.refl w).alloc _, heap_alloc_new w _⟩
  rw [← hW0]
  clear hW0
  have HB : Hid (∀ w', Ext W0 w' → BoxAt w' i (Pl.lv xs) (Pl.lv ys)) := fun w' hx => H.out.1.ext (X0.out.1.trans hx)
  have HO : Hid (∀ w', Ext W0 w' → w'.cell? ⟨w.heap.size, 0, none⟩ = some (.int .i64 8) ∧ w'.cell? ⟨w.heap.size, 1, none⟩ = some (.int .i64 a) ∧ w'.cell? ⟨w.heap.size, 2, none⟩ = some (.int .i64 b) ∧ w'.cell? ⟨w.heap.size, 3, none⟩ = some (.int .i64 c) ∧ w'.cell? ⟨w.heap.size, 4, none⟩ = some (.string os) ∧ w'.cell? ⟨w.heap.size, 5, none⟩ = some (.string ot)) := fun w' hx => ⟨cell_of (hx.heap X0.out.2) 0, cell_of (hx.heap X0.out.2) 1, cell_of (hx.heap X0.out.2) 2, cell_of (hx.heap X0.out.2) 3, cell_of (hx.heap X0.out.2) 4, cell_of (hx.heap X0.out.2) 5⟩
  refine (e_c _ i xs ys 0 (AX xs).lo (HB.out _ (Ext.refl W0)) H.out.2.1 rfl).mono ?_
  rintro e w1 ⟨lx, rfl, hlx, x1⟩
  have X1 : Hid (Ext W0 w1 ∧ V .f32 lx = (AX xs).lo) := ⟨(Ext.refl W0).trans x1, hlx⟩
  clear x1 hlx
  go_wp2_with fail
  refine (e_c _ i xs ys 1 (AX ys).lo (HB.out _ X1.out.1) H.out.2.1 rfl).mono ?_
  rintro e w2 ⟨ly, rfl, hly, x2⟩
  have X2 : Hid (Ext W0 w2 ∧ V .f32 ly = (AX ys).lo) := ⟨X1.out.1.trans x2, hly⟩
  clear x2 hly
  go_wp2_with fail
  refine (e_c _ i xs ys 2 (AX xs).hi (HB.out _ X2.out.1) H.out.2.1 rfl).mono ?_
  rintro e w3 ⟨hx, rfl, hhx, x3⟩
  have X3 : Hid (Ext W0 w3 ∧ V .f32 hx = (AX xs).hi) := ⟨X2.out.1.trans x3, hhx⟩
  clear x3 hhx
  go_wp2_with fail
  refine (e_c _ i xs ys 3 (AX ys).hi (HB.out _ X3.out.1) H.out.2.1 rfl).mono ?_
  rintro e w4 ⟨hy, rfl, hhy, x4⟩
  have X4 : Hid (Ext W0 w4 ∧ V .f32 hy = (AX ys).hi) := ⟨X3.out.1.trans x4, hhy⟩
  clear x4 hhy
  have HV : Hid (V .f32 lx = (AX xs).lo ∧ V .f32 ly = (AX ys).lo ∧ V .f32 hx = (AX xs).hi ∧ V .f32 hy = (AX ys).hi) := ⟨X1.out.2, X2.out.2, X3.out.2, X4.out.2⟩
  have E4 : Hid (Ext W0 w4) := X4.out.1
  clear X1 X2 X3 X4
  obtain ⟨p0, p1, p2, p3, p4, p5⟩ := HO.out w4 E4.out
  go_wp2_with fail
  refine (placed_any w4 i xs ys 8 a b c os ot lx ly hx hy (HB.out _ E4.out) H.out.2.1 H.out.2.2.1 H.out.2.2.2.1 H.out.2.2.2.2 HV.out.1 HV.out.2.1 HV.out.2.2.1 HV.out.2.2.2).mono ?_
  rintro e w5 ⟨rfl, x5⟩
  have E5 : Hid (Ext W0 w5) := E4.out.trans x5
  clear x5 p0 p1 p2 p3 p4 p5
  obtain ⟨p0, p1, p2, p3, p4, p5⟩ := HO.out w5 E5.out
  go_wp2_with fail
  refine (e_cel w5 i xs ys a b c (HB.out _ E5.out) H.out.2.1 H.out.2.2.1 H.out.2.2.2.1 H.out.2.2.2.2).mono ?_
  rintro e w6 ⟨rfl, x6⟩
  rw [HKF.out.1]
  have E6 : Hid (Ext W0 w6) := E5.out.trans x6
  clear x6 p0 p1 p2 p3 p4 p5
  obtain ⟨p0, p1, p2, p3, p4, p5⟩ := HO.out w6 E6.out
  go_wp2_with fail
  refine (e_ins w6 i xs ys a b c (HB.out _ E6.out) H.out.2.1 H.out.2.2.1 H.out.2.2.2.1 H.out.2.2.2.2).mono ?_
  rintro e w7 ⟨rfl, x7⟩
  have E7 : Hid (Ext W0 w7) := E6.out.trans x7
  clear x7 p0 p1 p2 p3 p4 p5
  have HOW : Hid (∀ τ1 n1 τ2 n2, owedD (Pl.holds (AX xs) (Pl.coord a c) && Pl.holds (AX ys) (Pl.coord b c)) (V .f32 (fb .sub .f32 hx lx τ1 n1)) (V .f32 (fb .sub .f32 hy ly τ2 n2)) 0 = true) := by
    intro τ1 n1 τ2 n2
    rw [V_sub, V_sub, HV.out.1, HV.out.2.1, HV.out.2.2.1, HV.out.2.2.2]
    exact HKF.out.2
  generalize (Pl.holds (AX xs) (Pl.coord a c) && Pl.holds (AX ys) (Pl.coord b c)) = tin at *
  go_wp2_with fail
  refine (owed_any tin _ _ 0 _).mono ?_
  rintro e w8 ⟨rfl, x8⟩
  rw [HOW.out]
  have E8 : Hid (Ext W0 w8) := (E7.out.drewN _).trans x8
  clear x8
  obtain ⟨p0, p1, p2, p3, p4, p5⟩ := HO.out w8 E8.out
  go_wp2_with fail
  refine (kcoord_any a c _ H.out.2.2.1 H.out.2.2.2.2).mono ?_
  rintro e w9 ⟨px, rfl, hpx, x9⟩
  have E9 : Hid (Ext W0 w9 ∧ V .f32 px = Pl.coord a c) := ⟨E8.out.trans x9, hpx⟩
  clear x9 hpx p0 p1 p2 p3 p4 p5
  obtain ⟨p0, p1, p2, p3, p4, p5⟩ := HO.out w9 E9.out.1
  go_wp2_with fail
  refine (kcoord_any b c _ H.out.2.2.2.1 H.out.2.2.2.2).mono ?_
  rintro e w10 ⟨py, rfl, hpy, x10⟩
  have E10 : Hid (Ext W0 w10 ∧ V .f32 py = Pl.coord b c) := ⟨E9.out.1.trans x10, hpy⟩
  clear x10 hpy p0 p1 p2 p3 p4 p5
  go_wp2_with fail
  refine (kpart_any px lx hx _).mono ?_
  rintro e w11 ⟨rfl, x11⟩
  rw [E9.out.2, HV.out.1, HV.out.2.2.1, HK.out.2.1]
  have E11 : Hid (Ext W0 w11) := E10.out.1.trans x11
  clear x11
  go_wp2_with fail
  refine (kpart_any py ly hy _).mono ?_
  rintro e w12 ⟨rfl, x12⟩
  rw [E10.out.2, HV.out.2.1, HV.out.2.2.2, HK.out.2.2]
  have E12 : Hid (Ext w w12) := X0.out.1.trans (E11.out.trans x12)
  clear x12
  have q1 := o_eq .f32 px lx
  have q2 := o_eq .f32 px hx
  have q3 := o_ne .f32 py ly
  have q4 := o_ne .f32 py hy
  rw [E9.out.2, HV.out.1, HG.out.1] at q1
  rw [E9.out.2, HV.out.2.2.1, HG.out.2] at q2
  rw [E10.out.2, HV.out.2.1] at q3
  rw [E10.out.2, HV.out.2.2.2] at q4
  generalize eq (Pl.coord b c) (AX ys).lo = e3 at *
  generalize eq (Pl.coord b c) (AX ys).hi = e4 at *
  have HK2 : Hid (K = row * 4 + 0) := HK.out.1
  clear HK HG HKF
  rcases S2.out with ⟨rfl, rfl, rfl⟩ | ⟨rfl, rfl, rfl⟩ | ⟨rfl, rfl, rfl⟩ | ⟨rfl, rfl, rfl⟩ | ⟨rfl, rfl, rfl⟩ | ⟨rfl, rfl, rfl⟩
  · have hK : K = 0 := HK2.out
    subst hK
    simp only [Bool.not_true, Bool.not_false] at q3 q4
    clear k1 k2
    go_wp2
    go_ret
    exact ⟨rfl, E12.out⟩
  · have hK : K = 0 := HK2.out
    subst hK
    simp only [Bool.not_true, Bool.not_false] at q3 q4
    clear k1 k2
    go_wp2
    go_ret
    exact ⟨rfl, E12.out⟩
  · have hK : K = 4 := HK2.out
    subst hK
    simp only [Bool.not_true, Bool.not_false] at q3 q4
    clear k1 k2
    go_wp2
    go_ret
    exact ⟨rfl, E12.out⟩
  · have hK : K = 8 := HK2.out
    subst hK
    simp only [Bool.not_true, Bool.not_false] at q3 q4
    clear k1 k2
    go_wp2
    go_ret
    exact ⟨rfl, E12.out⟩
  · have hK : K = 12 := HK2.out
    subst hK
    simp only [Bool.not_true, Bool.not_false] at q3 q4
    clear k1 k2
    go_wp2
    go_ret
    exact ⟨rfl, E12.out⟩
  · have hK : K = 12 := HK2.out
    subst hK
    simp only [Bool.not_true, Bool.not_false] at q3 q4
    clear k1 k2
    go_wp2
    go_ret
    exact ⟨rfl, E12.out⟩
end Go.Proofs.Qxb6500343a
