/-
  Walks of Keeps 12: Means, Clamp.
-/
import Derived.Test.Qxb6500343aK11
namespace Go.Proofs.Qxb6500343a
open Go.RowKit
open Go.Proofs
open Ieee (Datum)
open Fl
open Tx (st)
open Ff (in64)
set_option linter.unusedSimpArgs false
set_option linter.unusedVariables false
attribute [local go_sem] run_fadd run_fsub run_fmul run_fquo run_store_float alloc_drewN setCell_drewN shape?_drewN tape_alloc drawn_alloc tape_setCell drawn_setCell drawn_drewN drawn_drew run_fneg

set_option maxRecDepth 100000 in
set_option maxHeartbeats 16000000 in
theorem means_clamp (w : World) (i : BId) (xs ys : List Datum) (a b c was : Int) (os ot : ByteArray) (hbx : BoxAt w i (Pl.lv xs) (Pl.lv ys)) (hn : 0 < xs.length) (ha : in64 a) (hb : in64 b) (hc : in64 c)  :
    Calls Try.prog 24 #[.pointer (some ⟨i.b, 0, none⟩), .agg #[.int .i64 6, .int .i64 a, .int .i64 b, .int .i64 c, .string os, .string ot], .int .i64 was] w fun e w' => e = .returned (.bool true) ∧ Ext w w' := by
  have H : Hid (BoxAt w i (Pl.lv xs) (Pl.lv ys) ∧ 0 < xs.length ∧ in64 a ∧ in64 b ∧ in64 c) := ⟨hbx, hn, ha, hb, hc⟩
  have hlen := hbx.len
  rw [Pl.lv_len, Pl.lv_len] at hlen
  have HNE : Hid (xs ≠ [] ∧ ys ≠ []) := ⟨by rintro rfl; simp at hn, by rintro rfl; simp at hlen; omega⟩
  clear hbx hn ha hb hc hlen
  go_enter Try.func24, Try.ntmps24
  go_wp2_with fail
  obtain ⟨W0, hW0⟩ : ∃ W0, W0 = w.alloc (.cells #[.int .i64 6, .int .i64 a, .int .i64 b, .int .i64 c, .string os, .string ot] 48) := ⟨_, rfl⟩
  have X0 : Hid (Ext w W0 ∧ W0.heap[w.heap.size]? = some (.cells #[.int .i64 6, .int .i64 a, .int .i64 b, .int .i64 c, .string os, .string ot] 48)) := by
    rw [hW0]
    exact ⟨(Ext.refl w).alloc _, heap_alloc_new w _⟩
  rw [← hW0]
  clear hW0
  have HB : Hid (∀ w', Ext W0 w' → BoxAt w' i (Pl.lv xs) (Pl.lv ys)) := fun w' hx => H.out.1.ext (X0.out.1.trans hx)
  have HO : Hid (∀ w', Ext W0 w' → w'.cell? ⟨w.heap.size, 0, none⟩ = some (.int .i64 6) ∧ w'.cell? ⟨w.heap.size, 1, none⟩ = some (.int .i64 a) ∧ w'.cell? ⟨w.heap.size, 2, none⟩ = some (.int .i64 b) ∧ w'.cell? ⟨w.heap.size, 3, none⟩ = some (.int .i64 c) ∧ w'.cell? ⟨w.heap.size, 4, none⟩ = some (.string os) ∧ w'.cell? ⟨w.heap.size, 5, none⟩ = some (.string ot)) := fun w' hx => ⟨cell_of (hx.heap X0.out.2) 0, cell_of (hx.heap X0.out.2) 1, cell_of (hx.heap X0.out.2) 2, cell_of (hx.heap X0.out.2) 3, cell_of (hx.heap X0.out.2) 4, cell_of (hx.heap X0.out.2) 5⟩
  refine (e_c _ i xs ys 0 (AX xs).lo (HB.out _ (Ext.refl W0)) H.out.2.1 rfl).mono ?_
  rintro e w1 ⟨lx, rfl, hlx, x1⟩
  have X1 : Hid (Ext W0 w1 ∧ V .f32 lx = (AX xs).lo) := ⟨(Ext.refl W0).trans x1, hlx⟩
  clear x1 hlx
  go_wp2_with fail
  refine (e_c _ i xs ys 1 (AX ys).lo (HB.out _ X1.out.1) H.out.2.1 rfl).mono ?_
  rintro e w2 ⟨ly, rfl, hly, x2⟩
  have X2 : Hid (Ext W0 w2 ∧ V .f32 ly = (AX ys).lo) := ⟨X1.out.1.trans x2, hly⟩
  clear x2 hly
  go_wp2_with fail
  refine (e_c _ i xs ys 2 (AX xs).hi (HB.out _ X2.out.1) H.out.2.1 rfl).mono ?_
  rintro e w3 ⟨hx, rfl, hhx, x3⟩
  have X3 : Hid (Ext W0 w3 ∧ V .f32 hx = (AX xs).hi) := ⟨X2.out.1.trans x3, hhx⟩
  clear x3 hhx
  go_wp2_with fail
  refine (e_c _ i xs ys 3 (AX ys).hi (HB.out _ X3.out.1) H.out.2.1 rfl).mono ?_
  rintro e w4 ⟨hy, rfl, hhy, x4⟩
  have X4 : Hid (Ext W0 w4 ∧ V .f32 hy = (AX ys).hi) := ⟨X3.out.1.trans x4, hhy⟩
  clear x4 hhy
  have HV : Hid (V .f32 lx = (AX xs).lo ∧ V .f32 ly = (AX ys).lo ∧ V .f32 hx = (AX xs).hi ∧ V .f32 hy = (AX ys).hi) := ⟨X1.out.2, X2.out.2, X3.out.2, X4.out.2⟩
  have E4 : Hid (Ext W0 w4) := X4.out.1
  clear X1 X2 X3 X4
  obtain ⟨p0, p1, p2, p3, p4, p5⟩ := HO.out w4 E4.out
  go_wp2_with fail
  refine (placed_any w4 i xs ys 6 a b c os ot lx ly hx hy (HB.out _ E4.out) H.out.2.1 H.out.2.2.1 H.out.2.2.2.1 H.out.2.2.2.2 HV.out.1 HV.out.2.1 HV.out.2.2.1 HV.out.2.2.2).mono ?_
  rintro e w5 ⟨rfl, x5⟩
  have E5 : Hid (Ext W0 w5) := E4.out.trans x5
  clear x5 p0 p1 p2 p3 p4 p5
  obtain ⟨p0, p1, p2, p3, p4, p5⟩ := HO.out w5 E5.out
  go_wp2_with fail
  refine (kcoord_any a c _ H.out.2.2.1 H.out.2.2.2.2).mono ?_
  rintro e w6 ⟨px, rfl, hpx, x6⟩
  have E6 : Hid (Ext W0 w6 ∧ V .f32 px = Pl.coord a c) := ⟨E5.out.trans x6, hpx⟩
  clear x6 hpx p0 p1 p2 p3 p4 p5
  obtain ⟨p0, p1, p2, p3, p4, p5⟩ := HO.out w6 E6.out.1
  go_wp2_with fail
  refine (kcoord_any b c _ H.out.2.2.2.1 H.out.2.2.2.2).mono ?_
  rintro e w7 ⟨py, rfl, hpy, x7⟩
  have E7 : Hid (Ext W0 w7 ∧ V .f32 py = Pl.coord b c) := ⟨E6.out.1.trans x7, hpy⟩
  clear x7 hpy p0 p1 p2 p3 p4 p5
  obtain ⟨p0, p1, p2, p3, p4, p5⟩ := HO.out w7 E7.out.1
  go_wp2_with fail
  refine (e_clp w7 i xs ys a b c (HB.out _ E7.out.1) H.out.2.1 H.out.2.2.1 H.out.2.2.2.1 H.out.2.2.2.2).mono ?_
  rintro e w8 ⟨cx, cy, rfl, hcx, hcy, x8⟩
  have E8 : Hid (Ext W0 w8 ∧ V .f32 cx = Pl.clamp (Pl.coord a c) (AX xs).lo (AX xs).hi ∧ V .f32 cy = Pl.clamp (Pl.coord b c) (AX ys).lo (AX ys).hi) := ⟨E7.out.1.trans x8, hcx, hcy⟩
  clear x8 hcx hcy p0 p1 p2 p3 p4 p5
  obtain ⟨p0, p1, p2, p3, p4, p5⟩ := HO.out w8 E8.out.1
  have HLE : Hid (((AX xs).lo.isNaN = false → Ff.Le (AX xs).lo (AX xs).hi) ∧ ((AX ys).lo.isNaN = false → Ff.Le (AX ys).lo (AX ys).hi)) := ⟨Kf.lohi_Le HNE.out.1, Kf.lohi_Le HNE.out.2⟩
  have W1 : Hid (withinD (V .f32 cx) (V .f32 lx) (V .f32 hx) = true ∧ withinD (V .f32 cy) (V .f32 ly) (V .f32 hy) = true) := by
    rw [E8.out.2.1, E8.out.2.2, HV.out.1, HV.out.2.1, HV.out.2.2.1, HV.out.2.2.2]
    exact ⟨Kf.clamp_within HLE.out.1, Kf.clamp_within HLE.out.2⟩
  go_wp2_with fail
  refine (within_any cx lx hx _).mono ?_
  rintro e w9 ⟨rfl, hw9⟩
  rw [W1.out.1]
  subst hw9
  go_wp2_with fail
  refine (within_any cy ly hy _).mono ?_
  rintro e w10 ⟨rfl, hw10⟩
  rw [W1.out.2]
  subst hw10
  have AX1 : Hid _ := axis_bits px cx lx hx (by rw [E8.out.2.1, E6.out.2, HV.out.1, HV.out.2.2.1]) (by rw [HV.out.1, HV.out.2.2.1]; exact Kf.lohi_nan HNE.out.1) (by rw [HV.out.1, HV.out.2.2.1]; exact HLE.out.1)
  have AX2 : Hid _ := axis_bits py cy ly hy (by rw [E8.out.2.2, E7.out.2, HV.out.2.1, HV.out.2.2.2]) (by rw [HV.out.2.1, HV.out.2.2.2]; exact Kf.lohi_nan HNE.out.2) (by rw [HV.out.2.1, HV.out.2.2.2]; exact HLE.out.2)
  have HI : Hid ((AX xs).lo.isNaN = false → (AX ys).lo.isNaN = false → (FloatKind.f32.format.order cx px == some .eq) = Pl.holds (AX xs) (Pl.coord a c) ∧ (FloatKind.f32.format.order cy py == some .eq) = Pl.holds (AX ys) (Pl.coord b c)) := by
    intro h1 h2
    rw [o_eq, o_eq, E8.out.2.1, E8.out.2.2, E6.out.2, E7.out.2]
    exact ⟨(Kf.clamp_inside (HLE.out.1 h1)).symm, (Kf.clamp_inside (HLE.out.2 h2)).symm⟩
  have n3 := oo .f32 lx
  have n4 := oo .f32 ly
  rw [HV.out.1] at n3
  rw [HV.out.2.1] at n4
  have HIN : Hid (Calls Try.prog 39 #[.pointer (some ⟨i.b, 0, none⟩), .int .i64 a, .int .i64 b, .int .i64 c] w10 fun e w' => e = .returned (.tuple #[.bool (Pl.holds (AX xs) (Pl.coord a c) && Pl.holds (AX ys) (Pl.coord b c)), .int .i64 0]) ∧ Ext w10 w') := e_ins w10 i xs ys a b c (HB.out _ E8.out.1) H.out.2.1 H.out.2.2.1 H.out.2.2.2.1 H.out.2.2.2.2
  generalize Pl.holds (AX xs) (Pl.coord a c) = t1 at *
  generalize Pl.holds (AX ys) (Pl.coord b c) = t2 at *
  generalize (AX xs).lo.isNaN = m1 at *
  generalize (AX ys).lo.isNaN = m2 at *
  rcases AX1.out with ⟨a1, a2, a3, a4⟩ | ⟨a1, a2, a3, a4⟩ | ⟨a1, a2, a3, a4⟩ | ⟨a1, a2, a3⟩ <;> rcases AX2.out with ⟨b1, b2, b3, b4⟩ | ⟨b1, b2, b3, b4⟩ | ⟨b1, b2, b3, b4⟩ | ⟨b1, b2, b3⟩
  all_goals
    go_wp2_with fail
    refine HIN.out.mono ?_
    rintro e w11 ⟨rfl, x11⟩
    have E11 : Hid (Ext w w11) := X0.out.1.trans (E8.out.1.trans x11)
    clear x11
    cases m1
    · cases m2
      · obtain ⟨z1, z2⟩ := HI.out rfl rfl
        cases t1
        · go_wp2
          go_ret
          exact ⟨by first | rfl | simp, E11.out⟩
        · go_wp2
          go_ret
          exact ⟨by first | rfl | simp, E11.out⟩
      · go_wp2
        go_ret
        exact ⟨rfl, E11.out⟩
    · go_wp2
      go_ret
      exact ⟨rfl, E11.out⟩
end Go.Proofs.Qxb6500343a
