/-
  Walks of Keeps 10: Means, the first kinds.
-/
import Derived.Test.Qxb6500343aK9
import Derived.Test.Qxb6500343aFs
namespace Go.Proofs.Qxb6500343a
open Go.RowKit
open Go.Proofs
open Ieee (Datum)
open Fl
open Tx (st)
open Ff (in64)
set_option linter.unusedSimpArgs false
set_option linter.unusedVariables false
attribute [local go_sem] run_fadd run_fsub run_fmul run_fquo run_store_float alloc_drewN setCell_drewN shape?_drewN tape_alloc drawn_alloc tape_setCell drawn_setCell drawn_drewN drawn_drew run_fneg

set_option maxRecDepth 100000 in
set_option maxHeartbeats 2000000 in
theorem means_none (w : World) (i : BId) (o : Stp) (was : Int) (h : BoxAt w i (Pl.lv []) (Pl.lv [])) :
    Calls Try.prog 24 #[.pointer (some ⟨i.b, 0, none⟩), opV o, .int .i64 was] w fun e w' => e = .returned (.bool true) ∧ Ext w w' := by
  have H : Hid _ := h
  clear h
  obtain ⟨k, a, b, c, os, ot⟩ := o
  unfold opV
  simp only
  go_enter Try.func24, Try.ntmps24
  go_wp2_with fail
  refine (e_corner _ i [] [] 0 (H.out.ext ((Ext.refl w).alloc _))).mono ?_
  rintro e w1 ⟨lx, rfl, hlx, x1⟩
  rw [show (corner (AX []) (AX []) ([] : List Datum).isEmpty 0).2 = 2 from rfl]
  have X1 : Hid (Ext w w1) := ((Ext.refl w).alloc _).trans x1
  clear hlx x1
  go_wp2
  go_ret
  exact ⟨rfl, X1.out⟩
set_option maxRecDepth 100000 in
set_option maxHeartbeats 16000000 in
theorem means_else (w : World) (i : BId) (xs ys : List Datum) (a b c was : Int) (os ot : ByteArray) (k : Int) (hbx : BoxAt w i (Pl.lv xs) (Pl.lv ys)) (hn : 0 < xs.length) (ha : in64 a) (hb : in64 b) (hc : in64 c) (h1 : k ≠ 1) (h5 : k ≠ 5) (h6 : k ≠ 6) (h7 : k ≠ 7) (h8 : k ≠ 8) :
    Calls Try.prog 24 #[.pointer (some ⟨i.b, 0, none⟩), .agg #[.int .i64 k, .int .i64 a, .int .i64 b, .int .i64 c, .string os, .string ot], .int .i64 was] w fun e w' => e = .returned (.bool true) ∧ Ext w w' := by
  have k1 : (k == 1) = false := beq_false_of_ne h1
  have k5 : (k == 5) = false := beq_false_of_ne h5
  have k6 : (k == 6) = false := beq_false_of_ne h6
  have k7 : (k == 7) = false := beq_false_of_ne h7
  have k8 : (k == 8) = false := beq_false_of_ne h8
  clear h1 h5 h6 h7 h8
  have H : Hid (BoxAt w i (Pl.lv xs) (Pl.lv ys) ∧ 0 < xs.length ∧ in64 a ∧ in64 b ∧ in64 c) := ⟨hbx, hn, ha, hb, hc⟩
  have hlen := hbx.len
  rw [Pl.lv_len, Pl.lv_len] at hlen
  have HNE : Hid (xs ≠ [] ∧ ys ≠ []) := ⟨by rintro rfl; simp at hn, by rintro rfl; simp at hlen; omega⟩
  clear hbx hn ha hb hc hlen
  go_enter Try.func24, Try.ntmps24
  go_wp2_with fail
  obtain ⟨W0, hW0⟩ : ∃ W0, W0 = w.alloc (.cells #[.int .i64 k, .int .i64 a, .int .i64 b, .int .i64 c, .string os, .string ot] 48) := ⟨_, rfl⟩
  have X0 : Hid (Ext w W0 ∧ W0.heap[w.heap.size]? = some (.cells #[.int .i64 k, .int .i64 a, .int .i64 b, .int .i64 c, .string os, .string ot] 48)) := by
    rw [hW0]
    exact ⟨(Ext.refl w).alloc _, heap_alloc_new w _⟩
  rw [← hW0]
  clear hW0
  have HB : Hid (∀ w', Ext W0 w' → BoxAt w' i (Pl.lv xs) (Pl.lv ys)) := fun w' hx => H.out.1.ext (X0.out.1.trans hx)
  have HO : Hid (∀ w', Ext W0 w' → w'.cell? ⟨w.heap.size, 0, none⟩ = some (.int .i64 k) ∧ w'.cell? ⟨w.heap.size, 1, none⟩ = some (.int .i64 a) ∧ w'.cell? ⟨w.heap.size, 2, none⟩ = some (.int .i64 b) ∧ w'.cell? ⟨w.heap.size, 3, none⟩ = some (.int .i64 c) ∧ w'.cell? ⟨w.heap.size, 4, none⟩ = some (.string os) ∧ w'.cell? ⟨w.heap.size, 5, none⟩ = some (.string ot)) := fun w' hx => ⟨cell_of (hx.heap X0.out.2) 0, cell_of (hx.heap X0.out.2) 1, cell_of (hx.heap X0.out.2) 2, cell_of (hx.heap X0.out.2) 3, cell_of (hx.heap X0.out.2) 4, cell_of (hx.heap X0.out.2) 5⟩
  refine (e_c _ i xs ys 0 (AX xs).lo (HB.out _ (Ext.refl W0)) H.out.2.1 rfl).mono ?_
  rintro e w1 ⟨lx, rfl, hlx, x1⟩
  have X1 : Hid (Ext W0 w1 ∧ V .f32 lx = (AX xs).lo) := ⟨(Ext.refl W0).trans x1, hlx⟩
  clear x1 hlx
  go_wp2_with fail
  refine (e_c _ i xs ys 1 (AX ys).lo (HB.out _ X1.out.1) H.out.2.1 rfl).mono ?_
  rintro e w2 ⟨ly, rfl, hly, x2⟩
  have X2 : Hid (Ext W0 w2 ∧ V .f32 ly = (AX ys).lo) := ⟨X1.out.1.trans x2, hly⟩
  clear x2 hly
  go_wp2_with fail
  refine (e_c _ i xs ys 2 (AX xs).hi (HB.out _ X2.out.1) H.out.2.1 rfl).mono ?_
  rintro e w3 ⟨hx, rfl, hhx, x3⟩
  have X3 : Hid (Ext W0 w3 ∧ V .f32 hx = (AX xs).hi) := ⟨X2.out.1.trans x3, hhx⟩
  clear x3 hhx
  go_wp2_with fail
  refine (e_c _ i xs ys 3 (AX ys).hi (HB.out _ X3.out.1) H.out.2.1 rfl).mono ?_
  rintro e w4 ⟨hy, rfl, hhy, x4⟩
  have X4 : Hid (Ext W0 w4 ∧ V .f32 hy = (AX ys).hi) := ⟨X3.out.1.trans x4, hhy⟩
  clear x4 hhy
  have HV : Hid (V .f32 lx = (AX xs).lo ∧ V .f32 ly = (AX ys).lo ∧ V .f32 hx = (AX xs).hi ∧ V .f32 hy = (AX ys).hi) := ⟨X1.out.2, X2.out.2, X3.out.2, X4.out.2⟩
  have E4 : Hid (Ext W0 w4) := X4.out.1
  clear X1 X2 X3 X4
  obtain ⟨p0, p1, p2, p3, p4, p5⟩ := HO.out w4 E4.out
  go_wp2
  go_ret
  exact ⟨rfl, X0.out.1.trans E4.out⟩
set_option maxRecDepth 100000 in
set_option maxHeartbeats 16000000 in
theorem means_add (w : World) (i : BId) (xs ys : List Datum) (a b c was : Int) (os ot : ByteArray) (hbx : BoxAt w i (Pl.lv xs) (Pl.lv ys)) (hn : 0 < xs.length) (ha : in64 a) (hb : in64 b) (hc : in64 c) (hadd : was = 0 → Pl.ratio a c ∈ xs ∧ Pl.ratio b c ∈ ys) :
    Calls Try.prog 24 #[.pointer (some ⟨i.b, 0, none⟩), .agg #[.int .i64 1, .int .i64 a, .int .i64 b, .int .i64 c, .string os, .string ot], .int .i64 was] w fun e w' => e = .returned (.bool true) ∧ Ext w w' := by
  have HA : Hid _ := hadd
  clear hadd
  have H : Hid (BoxAt w i (Pl.lv xs) (Pl.lv ys) ∧ 0 < xs.length ∧ in64 a ∧ in64 b ∧ in64 c) := ⟨hbx, hn, ha, hb, hc⟩
  have hlen := hbx.len
  rw [Pl.lv_len, Pl.lv_len] at hlen
  have HNE : Hid (xs ≠ [] ∧ ys ≠ []) := ⟨by rintro rfl; simp at hn, by rintro rfl; simp at hlen; omega⟩
  clear hbx hn ha hb hc hlen
  go_enter Try.func24, Try.ntmps24
  go_wp2_with fail
  obtain ⟨W0, hW0⟩ : ∃ W0, W0 = w.alloc (.cells #[.int .i64 1, .int .i64 a, .int .i64 b, .int .i64 c, .string os, .string ot] 48) := ⟨_, rfl⟩
  have X0 : Hid (Ext w W0 ∧ W0.heap[w.heap.size]? = some (.cells #[.int .i64 1, .int .i64 a, .int .i64 b, .int .i64 c, .string os, .string ot] 48)) := by
    rw [hW0]
    exact ⟨(Ext.refl w).alloc _, heap_alloc_new w _⟩
  rw [← hW0]
  clear hW0
  have HB : Hid (∀ w', Ext W0 w' → BoxAt w' i (Pl.lv xs) (Pl.lv ys)) := fun w' hx => H.out.1.ext (X0.out.1.trans hx)
  have HO : Hid (∀ w', Ext W0 w' → w'.cell? ⟨w.heap.size, 0, none⟩ = some (.int .i64 1) ∧ w'.cell? ⟨w.heap.size, 1, none⟩ = some (.int .i64 a) ∧ w'.cell? ⟨w.heap.size, 2, none⟩ = some (.int .i64 b) ∧ w'.cell? ⟨w.heap.size, 3, none⟩ = some (.int .i64 c) ∧ w'.cell? ⟨w.heap.size, 4, none⟩ = some (.string os) ∧ w'.cell? ⟨w.heap.size, 5, none⟩ = some (.string ot)) := fun w' hx => ⟨cell_of (hx.heap X0.out.2) 0, cell_of (hx.heap X0.out.2) 1, cell_of (hx.heap X0.out.2) 2, cell_of (hx.heap X0.out.2) 3, cell_of (hx.heap X0.out.2) 4, cell_of (hx.heap X0.out.2) 5⟩
  refine (e_c _ i xs ys 0 (AX xs).lo (HB.out _ (Ext.refl W0)) H.out.2.1 rfl).mono ?_
  rintro e w1 ⟨lx, rfl, hlx, x1⟩
  have X1 : Hid (Ext W0 w1 ∧ V .f32 lx = (AX xs).lo) := ⟨(Ext.refl W0).trans x1, hlx⟩
  clear x1 hlx
  go_wp2_with fail
  refine (e_c _ i xs ys 1 (AX ys).lo (HB.out _ X1.out.1) H.out.2.1 rfl).mono ?_
  rintro e w2 ⟨ly, rfl, hly, x2⟩
  have X2 : Hid (Ext W0 w2 ∧ V .f32 ly = (AX ys).lo) := ⟨X1.out.1.trans x2, hly⟩
  clear x2 hly
  go_wp2_with fail
  refine (e_c _ i xs ys 2 (AX xs).hi (HB.out _ X2.out.1) H.out.2.1 rfl).mono ?_
  rintro e w3 ⟨hx, rfl, hhx, x3⟩
  have X3 : Hid (Ext W0 w3 ∧ V .f32 hx = (AX xs).hi) := ⟨X2.out.1.trans x3, hhx⟩
  clear x3 hhx
  go_wp2_with fail
  refine (e_c _ i xs ys 3 (AX ys).hi (HB.out _ X3.out.1) H.out.2.1 rfl).mono ?_
  rintro e w4 ⟨hy, rfl, hhy, x4⟩
  have X4 : Hid (Ext W0 w4 ∧ V .f32 hy = (AX ys).hi) := ⟨X3.out.1.trans x4, hhy⟩
  clear x4 hhy
  have HV : Hid (V .f32 lx = (AX xs).lo ∧ V .f32 ly = (AX ys).lo ∧ V .f32 hx = (AX xs).hi ∧ V .f32 hy = (AX ys).hi) := ⟨X1.out.2, X2.out.2, X3.out.2, X4.out.2⟩
  have E4 : Hid (Ext W0 w4) := X4.out.1
  clear X1 X2 X3 X4
  obtain ⟨p0, p1, p2, p3, p4, p5⟩ := HO.out w4 E4.out
  go_wp2_with fail
  refine (placed_any w4 i xs ys 1 a b c os ot lx ly hx hy (HB.out _ E4.out) H.out.2.1 H.out.2.2.1 H.out.2.2.2.1 H.out.2.2.2.2 HV.out.1 HV.out.2.1 HV.out.2.2.1 HV.out.2.2.2).mono ?_
  rintro e w5 ⟨rfl, x5⟩
  have E5 : Hid (Ext W0 w5) := E4.out.trans x5
  clear x5 p0 p1 p2 p3 p4 p5
  obtain ⟨p0, p1, p2, p3, p4, p5⟩ := HO.out w5 E5.out
  go_wp2_with fail
  refine (kcoord_any a c _ H.out.2.2.1 H.out.2.2.2.2).mono ?_
  rintro e w6 ⟨px, rfl, hpx, x6⟩
  have E6 : Hid (Ext W0 w6 ∧ V .f32 px = Pl.coord a c) := ⟨E5.out.trans x6, hpx⟩
  clear x6 hpx p0 p1 p2 p3 p4 p5
  obtain ⟨p0, p1, p2, p3, p4, p5⟩ := HO.out w6 E6.out.1
  go_wp2_with fail
  refine (kcoord_any b c _ H.out.2.2.2.1 H.out.2.2.2.2).mono ?_
  rintro e w7 ⟨py, rfl, hpy, x7⟩
  have E7 : Hid (Ext W0 w7 ∧ V .f32 py = Pl.coord b c) := ⟨E6.out.1.trans x7, hpy⟩
  clear x7 hpy p0 p1 p2 p3 p4 p5
  obtain ⟨p0, p1, p2, p3, p4, p5⟩ := HO.out w7 E7.out.1
  go_wp2_with fail
  refine (e_ins w7 i xs ys a b c (HB.out _ E7.out.1) H.out.2.1 H.out.2.2.1 H.out.2.2.2.1 H.out.2.2.2.2).mono ?_
  rintro e w8 ⟨rfl, x8⟩
  have E8 : Hid (Ext w w8) := X0.out.1.trans (E7.out.1.trans x8)
  clear x8 p0 p1 p2 p3 p4 p5
  have q1 := oo .f32 px
  have q2 := oo .f32 py
  have q3 := oo .f32 lx
  have q4 := oo .f32 ly
  rw [E6.out.2] at q1
  rw [E7.out.2] at q2
  rw [HV.out.1] at q3
  rw [HV.out.2.1] at q4
  have HIN : Hid (was = 0 → (Pl.coord a c).isNaN = false → (Pl.coord b c).isNaN = false → (AX xs).lo.isNaN = false → (AX ys).lo.isNaN = false → (Pl.holds (AX xs) (Pl.coord a c) && Pl.holds (AX ys) (Pl.coord b c)) = true) := by
    intro h0 h1 h2 h3 h4
    obtain ⟨m1, m2⟩ := HA.out h0
    have l1 := Kf.mem_Le m1 h3 h1
    have l2 := Kf.mem_Le m2 h4 h2
    unfold Pl.holds Pl.coord
    rw [(Ff.ge_iff _ _).2 l1.1, (Ff.le_iff _ _).2 l1.2, (Ff.ge_iff _ _).2 l2.1, (Ff.le_iff _ _).2 l2.2]
    rfl
  generalize (Pl.coord a c).isNaN = n1 at *
  generalize (Pl.coord b c).isNaN = n2 at *
  generalize (AX xs).lo.isNaN = n3 at *
  generalize (AX ys).lo.isNaN = n4 at *
  generalize (Pl.holds (AX xs) (Pl.coord a c) && Pl.holds (AX ys) (Pl.coord b c)) = tin at *
  by_cases hw : was = 0
  · subst hw
    cases n1 <;> cases n2 <;> cases n3 <;> cases n4
    case false.false.false.false =>
      have hin := HIN.out rfl rfl rfl rfl rfl
      subst hin
      go_wp2
      go_ret
      exact ⟨rfl, E8.out⟩
    all_goals
      go_wp2
      go_ret
      exact ⟨rfl, E8.out⟩
  · have hw' : (was == 0) = false := beq_false_of_ne hw
    clear hw
    go_wp2
    go_ret
    exact ⟨rfl, E8.out⟩
set_option maxRecDepth 100000 in
set_option maxHeartbeats 16000000 in
theorem means_along (w : World) (i : BId) (xs ys : List Datum) (a b c was : Int) (os ot : ByteArray) (hbx : BoxAt w i (Pl.lv xs) (Pl.lv ys)) (hn : 0 < xs.length) (ha : in64 a) (hb : in64 b) (hc : in64 c)  :
    Calls Try.prog 24 #[.pointer (some ⟨i.b, 0, none⟩), .agg #[.int .i64 7, .int .i64 a, .int .i64 b, .int .i64 c, .string os, .string ot], .int .i64 was] w fun e w' => e = .returned (.bool true) ∧ Ext w w' := by
  have H : Hid (BoxAt w i (Pl.lv xs) (Pl.lv ys) ∧ 0 < xs.length ∧ in64 a ∧ in64 b ∧ in64 c) := ⟨hbx, hn, ha, hb, hc⟩
  have hlen := hbx.len
  rw [Pl.lv_len, Pl.lv_len] at hlen
  have HNE : Hid (xs ≠ [] ∧ ys ≠ []) := ⟨by rintro rfl; simp at hn, by rintro rfl; simp at hlen; omega⟩
  clear hbx hn ha hb hc hlen
  go_enter Try.func24, Try.ntmps24
  go_wp2_with fail
  obtain ⟨W0, hW0⟩ : ∃ W0, W0 = w.alloc (.cells #[.int .i64 7, .int .i64 a, .int .i64 b, .int .i64 c, .string os, .string ot] 48) := ⟨_, rfl⟩
  have X0 : Hid (Ext w W0 ∧ W0.heap[w.heap.size]? = some (.cells #[.int .i64 7, .int .i64 a, .int .i64 b, .int .i64 c, .string os, .string ot] 48)) := by
    rw [hW0]
    exact ⟨(Ext.refl w).alloc _, heap_alloc_new w _⟩
  rw [← hW0]
  clear hW0
  have HB : Hid (∀ w', Ext W0 w' → BoxAt w' i (Pl.lv xs) (Pl.lv ys)) := fun w' hx => H.out.1.ext (X0.out.1.trans hx)
  have HO : Hid (∀ w', Ext W0 w' → w'.cell? ⟨w.heap.size, 0, none⟩ = some (.int .i64 7) ∧ w'.cell? ⟨w.heap.size, 1, none⟩ = some (.int .i64 a) ∧ w'.cell? ⟨w.heap.size, 2, none⟩ = some (.int .i64 b) ∧ w'.cell? ⟨w.heap.size, 3, none⟩ = some (.int .i64 c) ∧ w'.cell? ⟨w.heap.size, 4, none⟩ = some (.string os) ∧ w'.cell? ⟨w.heap.size, 5, none⟩ = some (.string ot)) := fun w' hx => ⟨cell_of (hx.heap X0.out.2) 0, cell_of (hx.heap X0.out.2) 1, cell_of (hx.heap X0.out.2) 2, cell_of (hx.heap X0.out.2) 3, cell_of (hx.heap X0.out.2) 4, cell_of (hx.heap X0.out.2) 5⟩
  refine (e_c _ i xs ys 0 (AX xs).lo (HB.out _ (Ext.refl W0)) H.out.2.1 rfl).mono ?_
  rintro e w1 ⟨lx, rfl, hlx, x1⟩
  have X1 : Hid (Ext W0 w1 ∧ V .f32 lx = (AX xs).lo) := ⟨(Ext.refl W0).trans x1, hlx⟩
  clear x1 hlx
  go_wp2_with fail
  refine (e_c _ i xs ys 1 (AX ys).lo (HB.out _ X1.out.1) H.out.2.1 rfl).mono ?_
  rintro e w2 ⟨ly, rfl, hly, x2⟩
  have X2 : Hid (Ext W0 w2 ∧ V .f32 ly = (AX ys).lo) := ⟨X1.out.1.trans x2, hly⟩
  clear x2 hly
  go_wp2_with fail
  refine (e_c _ i xs ys 2 (AX xs).hi (HB.out _ X2.out.1) H.out.2.1 rfl).mono ?_
  rintro e w3 ⟨hx, rfl, hhx, x3⟩
  have X3 : Hid (Ext W0 w3 ∧ V .f32 hx = (AX xs).hi) := ⟨X2.out.1.trans x3, hhx⟩
  clear x3 hhx
  go_wp2_with fail
  refine (e_c _ i xs ys 3 (AX ys).hi (HB.out _ X3.out.1) H.out.2.1 rfl).mono ?_
  rintro e w4 ⟨hy, rfl, hhy, x4⟩
  have X4 : Hid (Ext W0 w4 ∧ V .f32 hy = (AX ys).hi) := ⟨X3.out.1.trans x4, hhy⟩
  clear x4 hhy
  have HV : Hid (V .f32 lx = (AX xs).lo ∧ V .f32 ly = (AX ys).lo ∧ V .f32 hx = (AX xs).hi ∧ V .f32 hy = (AX ys).hi) := ⟨X1.out.2, X2.out.2, X3.out.2, X4.out.2⟩
  have E4 : Hid (Ext W0 w4) := X4.out.1
  clear X1 X2 X3 X4
  obtain ⟨p0, p1, p2, p3, p4, p5⟩ := HO.out w4 E4.out
  go_wp2_with fail
  refine (e_alg w4 i xs ys a b (HB.out _ E4.out) H.out.2.1 H.out.2.2.1 H.out.2.2.2.1).mono ?_
  rintro e w5 ⟨u, v, rfl, hu, hv, x5⟩
  have E5 : Hid (Ext W0 w5 ∧ V .f32 u = Pl.lerp (Pl.coord a b) (AX xs).lo (AX xs).hi ∧ V .f32 v = Pl.lerp (Pl.coord a b) (AX ys).lo (AX ys).hi) := ⟨E4.out.trans x5, hu, hv⟩
  clear x5 hu hv p0 p1 p2 p3 p4 p5
  obtain ⟨p0, p1, p2, p3, p4, p5⟩ := HO.out w5 E5.out.1
  go_wp2_with fail
  refine (kcoord_any a b _ H.out.2.2.1 H.out.2.2.2.1).mono ?_
  rintro e w6 ⟨t, rfl, ht, x6⟩
  have E6 : Hid (Ext W0 w6 ∧ V .f32 t = Pl.coord a b) := ⟨E5.out.1.trans x6, ht⟩
  clear x6 ht p0 p1 p2 p3 p4 p5
  have HL : Hid ((∀ τ1 n1 τ2 n2 τ3 n3 τ4 n4, V .f32 (fb .add .f32 (fb .mul .f32 (fb .sub .f32 1065353216 t τ1 n1) lx τ2 n2) (fb .mul .f32 t hx τ3 n3) τ4 n4) = V .f32 u) ∧ (∀ τ1 n1 τ2 n2 τ3 n3 τ4 n4, V .f32 (fb .add .f32 (fb .mul .f32 (fb .sub .f32 1065353216 t τ1 n1) ly τ2 n2) (fb .mul .f32 t hy τ3 n3) τ4 n4) = V .f32 v)) := by
    refine ⟨fun τ1 n1 τ2 n2 τ3 n3 τ4 n4 => ?_, fun τ1 n1 τ2 n2 τ3 n3 τ4 n4 => ?_⟩
    · rw [V_add, V_mul, V_mul, V_sub, E6.out.2, HV.out.1, HV.out.2.2.1, E5.out.2.1]; rfl
    · rw [V_add, V_mul, V_mul, V_sub, E6.out.2, HV.out.2.1, HV.out.2.2.2, E5.out.2.2]; rfl
  have HE : Hid (b ≠ 0 → finD (V .f32 lx) (V .f32 hx) = true → finD (V .f32 ly) (V .f32 hy) = true → (a = 0 → (FloatKind.f32.format.order u lx == some .eq) = true ∧ (FloatKind.f32.format.order v ly == some .eq) = true) ∧ (a = b → (FloatKind.f32.format.order u hx == some .eq) = true ∧ (FloatKind.f32.format.order v hy == some .eq) = true)) := by
    intro h0 f1 f2
    have l1 := Ff.V_held .f32 lx
    have l2 := Ff.V_held .f32 hx
    have l3 := Ff.V_held .f32 ly
    have l4 := Ff.V_held .f32 hy
    rw [HV.out.1] at l1 f1
    rw [HV.out.2.2.1] at l2 f1
    rw [HV.out.2.1] at l3 f2
    rw [HV.out.2.2.2] at l4 f2
    constructor
    · rintro rfl
      rw [o_eq, o_eq, E5.out.2.1, E5.out.2.2, HV.out.1, HV.out.2.1]
      exact ⟨Kf.along_low f1 l1 b H.out.2.2.2.1 h0, Kf.along_low f2 l3 b H.out.2.2.2.1 h0⟩
    · rintro rfl
      rw [o_eq, o_eq, E5.out.2.1, E5.out.2.2, HV.out.2.2.1, HV.out.2.2.2]
      exact ⟨Kf.along_high f1 l2 a H.out.2.2.1 h0, Kf.along_high f2 l4 a H.out.2.2.1 h0⟩
  go_wp2_with fail
  refine (text32_any u _).mono ?_
  rintro e w7 ⟨rfl, x7⟩
  have E7 : Hid (Ext W0 w7) := E6.out.1.trans x7
  clear x7
  generalize hSU : st (text32 (V .f32 u)) = SU
  have HSU : Hid (st (text32 (V .f32 u)) = SU) := hSU
  clear hSU
  go_wp2_with fail
  refine (text32_any v _).mono ?_
  rintro e w8 ⟨rfl, x8⟩
  have E8 : Hid (Ext W0 w8) := E7.out.trans x8
  clear x8
  generalize hSV : st (text32 (V .f32 v)) = SV
  have HSV : Hid (st (text32 (V .f32 v)) = SV) := hSV
  clear hSV
  go_wp2_with fail
  refine (text32_any _ _).mono ?_
  rintro e w9 ⟨rfl, x9⟩
  rw [HL.out.1, HSU.out]
  have E9 : Hid (Ext W0 w9) := (E8.out.drewN _).trans x9
  clear x9
  go_wp2_with fail
  refine (text32_any _ _).mono ?_
  rintro e w10 ⟨rfl, x10⟩
  rw [HL.out.2, HSV.out]
  have E10 : Hid (Ext W0 w10) := (E9.out.drewN _).trans x10
  clear x10
  obtain ⟨p0, p1, p2, p3, p4, p5⟩ := HO.out w10 E10.out
  by_cases hb0 : b = 0
  · have hz : (b == 0) = true := by rw [hb0]; rfl
    clear hb0
    go_wp2
    go_ret
    exact ⟨rfl, X0.out.1.trans E10.out⟩
  · have hz : (b == 0) = false := beq_false_of_ne hb0
    have HB0 : Hid (b ≠ 0) := hb0
    clear hb0
    go_wp2_with fail
    refine (finite_any lx hx _).mono ?_
    rintro e w11 ⟨rfl, x11⟩
    have E11 : Hid (Ext W0 w11) := E10.out.trans x11
    clear x11 p0 p1 p2 p3 p4 p5
    obtain ⟨f1, hf1⟩ : ∃ f1, finD (V .f32 lx) (V .f32 hx) = f1 := ⟨_, rfl⟩
    rw [hf1]
    have HF1 : Hid _ := hf1
    clear hf1
    cases f1
    · go_wp2
      go_ret
      exact ⟨rfl, X0.out.1.trans E11.out⟩
    · go_wp2_with fail
      refine (finite_any ly hy _).mono ?_
      rintro e w12 ⟨rfl, x12⟩
      have E12 : Hid (Ext W0 w12) := E11.out.trans x12
      clear x12
      obtain ⟨f2, hf2⟩ : ∃ f2, finD (V .f32 ly) (V .f32 hy) = f2 := ⟨_, rfl⟩
      rw [hf2]
      have HF2 : Hid _ := hf2
      clear hf2
      obtain ⟨p0, p1, p2, p3, p4, p5⟩ := HO.out w12 E12.out
      cases f2
      · go_wp2
        go_ret
        exact ⟨rfl, X0.out.1.trans E12.out⟩
      · have HE2 : Hid _ := HE.out HB0.out HF1.out HF2.out
        by_cases ha0 : a = 0
        · have za : (a == 0) = true := by rw [ha0]; rfl
          obtain ⟨r1, r2⟩ := HE2.out.1 ha0
          clear ha0
          go_wp2
          go_ret
          exact ⟨rfl, X0.out.1.trans E12.out⟩
        · have za : (a == 0) = false := beq_false_of_ne ha0
          by_cases hab : a = b
          · have zb : (a == b) = true := by rw [hab]; exact beq_self_eq_true b
            obtain ⟨r1, r2⟩ := HE2.out.2 hab
            clear ha0 hab
            go_wp2
            go_ret
            exact ⟨rfl, X0.out.1.trans E12.out⟩
          · have zb : (a == b) = false := beq_false_of_ne hab
            clear ha0 hab
            go_wp2
            go_ret
            exact ⟨rfl, X0.out.1.trans E12.out⟩
end Go.Proofs.Qxb6500343a
