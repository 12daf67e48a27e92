/-
  Walks of Keeps 7: Placed.
-/
import Derived.Test.Qxb6500343aK6
import Derived.Test.Qxb6500343aFp
namespace Go.Proofs.Qxb6500343a
open Go.RowKit
open Go.Proofs
open Ieee (Datum)
open Fl
open Tx (st)
open Ff (in64)
set_option linter.unusedSimpArgs false
set_option linter.unusedVariables false
attribute [local go_sem] run_fadd run_fsub run_fmul run_fquo run_store_float alloc_drewN setCell_drewN shape?_drewN tape_alloc drawn_alloc tape_setCell drawn_setCell drawn_drewN drawn_drew run_fneg

/-! The box's questions, of a box that holds a point: nothing old is turned. -/
theorem e_ins (w : World) (i : BId) (xs ys : List Datum) (a b c : Int) (h : BoxAt w i (Pl.lv xs) (Pl.lv ys)) (hn : 0 < xs.length) (ha : in64 a) (hb : in64 b) (hc : in64 c) :
    Calls Try.prog 39 #[.pointer (some ⟨i.b, 0, none⟩), .int .i64 a, .int .i64 b, .int .i64 c] w fun e w' => e = .returned (.tuple #[.bool (Pl.holds (AX xs) (Pl.coord a c) && Pl.holds (AX ys) (Pl.coord b c)), .int .i64 0]) ∧ Ext w w' :=
  inside_some w i _ _ a b c h (by rw [Pl.lv_len]; exact hn) (Ff.ratio_fit a c ha hc) (Ff.ratio_fit b c hb hc)
theorem e_clp (w : World) (i : BId) (xs ys : List Datum) (a b c : Int) (h : BoxAt w i (Pl.lv xs) (Pl.lv ys)) (hn : 0 < xs.length) (ha : in64 a) (hb : in64 b) (hc : in64 c) :
    Calls Try.prog 15 #[.pointer (some ⟨i.b, 0, none⟩), .int .i64 a, .int .i64 b, .int .i64 c] w fun e w' => ∃ u v, e = .returned (.tuple #[.float .f32 u, .float .f32 v, .int .i64 0]) ∧ V .f32 u = Pl.clamp (Pl.coord a c) (AX xs).lo (AX xs).hi ∧ V .f32 v = Pl.clamp (Pl.coord b c) (AX ys).lo (AX ys).hi ∧ Ext w w' :=
  clamp_some w i _ _ a b c h (by rw [Pl.lv_len]; exact hn) (Ff.ratio_fit a c ha hc) (Ff.ratio_fit b c hb hc)
theorem e_alg (w : World) (i : BId) (xs ys : List Datum) (a b : Int) (h : BoxAt w i (Pl.lv xs) (Pl.lv ys)) (hn : 0 < xs.length) (ha : in64 a) (hb : in64 b) :
    Calls Try.prog 14 #[.pointer (some ⟨i.b, 0, none⟩), .int .i64 a, .int .i64 b] w fun e w' => ∃ u v, e = .returned (.tuple #[.float .f32 u, .float .f32 v, .int .i64 0]) ∧ V .f32 u = Pl.lerp (Pl.coord a b) (AX xs).lo (AX xs).hi ∧ V .f32 v = Pl.lerp (Pl.coord a b) (AX ys).lo (AX ys).hi ∧ Ext w w' :=
  along_some w i _ _ a b h (by rw [Pl.lv_len]; exact hn) (Ff.ratio_fit a b ha hb)
theorem e_cel (w : World) (i : BId) (xs ys : List Datum) (a b c : Int) (h : BoxAt w i (Pl.lv xs) (Pl.lv ys)) (hn : 0 < xs.length) (ha : in64 a) (hb : in64 b) (hc : in64 c) :
    Calls Try.prog 13 #[.pointer (some ⟨i.b, 0, none⟩), .int .i64 a, .int .i64 b, .int .i64 c] w fun e w' => e = .returned (.tuple #[.int .i64 (Pl.cellA (AX xs) (AX ys) (Pl.coord a c) (Pl.coord b c)).1, .int .i64 (Pl.cellA (AX xs) (AX ys) (Pl.coord a c) (Pl.coord b c)).2]) ∧ Ext w w' :=
  cell_some w i _ _ a b c h (by rw [Pl.lv_len]; exact hn) (Ff.ratio_fit a c ha hc) (Ff.ratio_fit b c hb hc) (by unfold Pl.cellOk; rw [Ff.partOk_all, Ff.partOk_all]; rfl)
theorem e_corner (w : World) (i : BId) (xs ys : List Datum) (k : Int) (h : BoxAt w i (Pl.lv xs) (Pl.lv ys)) :
    Calls Try.prog 37 #[.pointer (some ⟨i.b, 0, none⟩), .int .i64 k] w fun e w' => ∃ r, e = .returned (.tuple #[.float .f32 r, .int .i64 (corner (AX xs) (AX ys) xs.isEmpty k).2]) ∧ V .f32 r = (corner (AX xs) (AX ys) xs.isEmpty k).1 ∧ Ext w w' := by
  have := corner_any w i _ _ k h
  rw [iE_lv] at this
  exact this
theorem four_and (t1 t2 t3 t4 : Bool) : t1 = false ∨ (t1 = true ∧ t2 = false) ∨ (t1 = true ∧ t2 = true ∧ t3 = false) ∨ (t1 = true ∧ t2 = true ∧ t3 = true) := by
  cases t1 <;> cases t2 <;> cases t3 <;> simp
set_option maxRecDepth 100000 in
set_option maxHeartbeats 8000000 in
theorem placed_any (w : World) (i : BId) (xs ys : List Datum) (k a b c : Int) (os ot : ByteArray) (lx ly hx hy : Nat) (h : BoxAt w i (Pl.lv xs) (Pl.lv ys)) (hn : 0 < xs.length) (ha : in64 a) (hb : in64 b) (hc : in64 c)
    (v1 : V .f32 lx = (AX xs).lo) (v2 : V .f32 ly = (AX ys).lo) (v3 : V .f32 hx = (AX xs).hi) (v4 : V .f32 hy = (AX ys).hi) :
    Calls Try.prog 55 #[.pointer (some ⟨i.b, 0, none⟩), .agg #[.int .i64 k, .int .i64 a, .int .i64 b, .int .i64 c, .string os, .string ot], .float .f32 lx, .float .f32 ly, .float .f32 hx, .float .f32 hy] w fun e w' => e = .returned (.bool true) ∧ Ext w w' := by
  have H : Hid (BoxAt w i (Pl.lv xs) (Pl.lv ys) ∧ 0 < xs.length ∧ in64 a ∧ in64 b ∧ in64 c) := ⟨h, hn, ha, hb, hc⟩
  have HV : Hid (V .f32 lx = (AX xs).lo ∧ V .f32 ly = (AX ys).lo ∧ V .f32 hx = (AX xs).hi ∧ V .f32 hy = (AX ys).hi) := ⟨v1, v2, v3, v4⟩
  clear h hn ha hb hc v1 v2 v3 v4
  go_enter Try.func55, Try.ntmps55
  go_wp2_with fail
  obtain ⟨W0, hW0⟩ : ∃ W0, W0 = w.alloc (.cells #[.int .i64 k, .int .i64 a, .int .i64 b, .int .i64 c, .string os, .string ot] 48) := ⟨_, rfl⟩
  have X0 : Hid (Ext w W0 ∧ W0.heap[w.heap.size]? = some (.cells #[.int .i64 k, .int .i64 a, .int .i64 b, .int .i64 c, .string os, .string ot] 48)) := by
    rw [hW0]
    exact ⟨(Ext.refl w).alloc _, heap_alloc_new w _⟩
  rw [← hW0]
  clear hW0
  have HO : Hid (∀ w', Ext W0 w' → w'.cell? ⟨w.heap.size, 1, none⟩ = some (.int .i64 a) ∧ w'.cell? ⟨w.heap.size, 2, none⟩ = some (.int .i64 b) ∧ w'.cell? ⟨w.heap.size, 3, none⟩ = some (.int .i64 c)) := fun w' hx => ⟨cell_of (hx.heap X0.out.2) 1, cell_of (hx.heap X0.out.2) 2, cell_of (hx.heap X0.out.2) 3⟩
  refine (kcoord_any a c _ H.out.2.2.1 H.out.2.2.2.2).mono ?_
  rintro e w1 ⟨px, rfl, hpx, x1⟩
  have X1 : Hid (Ext W0 w1 ∧ V .f32 px = Pl.coord a c) := ⟨x1, hpx⟩
  obtain ⟨a1, a2, a3⟩ := HO.out w1 x1
  clear x1 hpx
  go_wp2_with fail
  refine (kcoord_any b c _ H.out.2.2.2.1 H.out.2.2.2.2).mono ?_
  rintro e w2 ⟨py, rfl, hpy, x2⟩
  have X2 : Hid (Ext W0 w2 ∧ V .f32 py = Pl.coord b c) := ⟨X1.out.1.trans x2, hpy⟩
  obtain ⟨b1, b2, b3⟩ := HO.out w2 X2.out.1
  clear x2 hpy a1 a2 a3
  go_wp2_with fail
  refine (e_ins w2 i xs ys a b c (H.out.1.ext (X0.out.1.trans X2.out.1)) H.out.2.1 H.out.2.2.1 H.out.2.2.2.1 H.out.2.2.2.2).mono ?_
  rintro e w3 ⟨rfl, x3⟩
  have X3 : Hid (Ext W0 w3) := X2.out.1.trans x3
  obtain ⟨c1, c2, c3⟩ := HO.out w3 X3.out
  clear x3 b1 b2 b3
  unfold Pl.holds
  have q1 : (FloatKind.f32.format.order px lx == some .gt || FloatKind.f32.format.order px lx == some .eq) = ge (Pl.coord a c) (AX xs).lo := by rw [o_ge, X1.out.2, HV.out.1]
  have q2 : (FloatKind.f32.format.order px hx == some .lt || FloatKind.f32.format.order px hx == some .eq) = le (Pl.coord a c) (AX xs).hi := by rw [o_le, X1.out.2, HV.out.2.2.1]
  have q3 : (FloatKind.f32.format.order py ly == some .gt || FloatKind.f32.format.order py ly == some .eq) = ge (Pl.coord b c) (AX ys).lo := by rw [o_ge, X2.out.2, HV.out.2.1]
  have q4 : (FloatKind.f32.format.order py hy == some .lt || FloatKind.f32.format.order py hy == some .eq) = le (Pl.coord b c) (AX ys).hi := by rw [o_le, X2.out.2, HV.out.2.2.2]
  generalize ge (Pl.coord a c) (AX xs).lo = t1 at *
  generalize le (Pl.coord a c) (AX xs).hi = t2 at *
  generalize ge (Pl.coord b c) (AX ys).lo = t3 at *
  generalize le (Pl.coord b c) (AX ys).hi = t4 at *
  have HC : Hid (Pl.clamp (V .f32 px) (V .f32 lx) (V .f32 hx) = Pl.clamp (Pl.coord a c) (AX xs).lo (AX xs).hi ∧ Pl.clamp (V .f32 py) (V .f32 ly) (V .f32 hy) = Pl.clamp (Pl.coord b c) (AX ys).lo (AX ys).hi) := by
    rw [X1.out.2, X2.out.2, HV.out.1, HV.out.2.1, HV.out.2.2.1, HV.out.2.2.2]
    exact ⟨rfl, rfl⟩
  have hcl : ∀ w', Ext W0 w' → Calls Try.prog 15 #[.pointer (some ⟨i.b, 0, none⟩), .int .i64 a, .int .i64 b, .int .i64 c] w' fun e w'' => ∃ u v, e = .returned (.tuple #[.float .f32 u, .float .f32 v, .int .i64 0]) ∧ V .f32 u = Pl.clamp (Pl.coord a c) (AX xs).lo (AX xs).hi ∧ V .f32 v = Pl.clamp (Pl.coord b c) (AX ys).lo (AX ys).hi ∧ Ext w' w'' :=
    fun w' hx => e_clp w' i xs ys a b c (H.out.1.ext (X0.out.1.trans hx)) H.out.2.1 H.out.2.2.1 H.out.2.2.2.1 H.out.2.2.2.2
  have HCL : Hid _ := hcl
  clear hcl
  generalize Pl.clamp (Pl.coord a c) (AX xs).lo (AX xs).hi = C1 at *
  generalize Pl.clamp (Pl.coord b c) (AX ys).lo (AX ys).hi = C2 at *
  rcases four_and t1 t2 t3 t4 with r1 | ⟨r1, r2⟩ | ⟨r1, r2, r3⟩ | ⟨r1, r2, r3⟩
  · rw [r1] at q1 ⊢
    simp only [Bool.false_and, Bool.and_false, Bool.true_and] at q1 q2 q3 q4 ⊢
    clear r1
    go_wp2_with fail
    refine (HCL.out w3 X3.out).mono ?_
    rintro e w4 ⟨u, v, rfl, hu, hv, x4⟩
    have X4 : Hid (Ext W0 w4 ∧ V .f32 u = C1 ∧ V .f32 v = C2) := ⟨X3.out.trans x4, hu, hv⟩
    clear x4 hu hv c1 c2 c3 q1 q2 q3 q4
    go_wp2_with fail
    refine (pinch_any px lx hx _).mono ?_
    rintro e w5 ⟨ux, rfl, hux, hw5⟩
    have HU : Hid (V .f32 ux = C1 ∧ w5 = w4) := ⟨by rw [hux, HC.out.1], hw5⟩
    clear hux hw5
    go_wp2_with fail
    refine (pinch_any py ly hy _).mono ?_
    rintro e w6 ⟨uy, rfl, huy, hw6⟩
    have HU2 : Hid (V .f32 uy = C2 ∧ Ext W0 w6) := ⟨by rw [huy, HC.out.2], by rw [hw6, HU.out.2]; exact X4.out.1⟩
    clear huy hw6
    go_wp2_with fail
    refine (text32_any u _).mono ?_
    rintro e w7 ⟨rfl, x7⟩
    rw [X4.out.2.1]
    have X7 : Hid (Ext W0 w7) := HU2.out.2.trans x7
    clear x7
    go_wp2_with fail
    refine (text32_any v _).mono ?_
    rintro e w8 ⟨rfl, x8⟩
    rw [X4.out.2.2]
    have X8 : Hid (Ext W0 w8) := X7.out.trans x8
    clear x8
    go_wp2_with fail
    refine (text32_any ux _).mono ?_
    rintro e w9 ⟨rfl, x9⟩
    rw [HU.out.1]
    have X9 : Hid (Ext W0 w9) := X8.out.trans x9
    clear x9
    go_wp2_with fail
    refine (text32_any uy _).mono ?_
    rintro e w10 ⟨rfl, x10⟩
    rw [HU2.out.1]
    have X10 : Hid (Ext W0 w10) := X9.out.trans x10
    clear x10
    go_wp2
    go_ret
    exact ⟨rfl, X0.out.1.trans X10.out⟩
  · rw [r1] at q1 ⊢
    rw [r2] at q2 ⊢
    simp only [Bool.false_and, Bool.and_false, Bool.true_and] at q1 q2 q3 q4 ⊢
    clear r1 r2
    go_wp2_with fail
    refine (HCL.out w3 X3.out).mono ?_
    rintro e w4 ⟨u, v, rfl, hu, hv, x4⟩
    have X4 : Hid (Ext W0 w4 ∧ V .f32 u = C1 ∧ V .f32 v = C2) := ⟨X3.out.trans x4, hu, hv⟩
    clear x4 hu hv c1 c2 c3 q1 q2 q3 q4
    go_wp2_with fail
    refine (pinch_any px lx hx _).mono ?_
    rintro e w5 ⟨ux, rfl, hux, hw5⟩
    have HU : Hid (V .f32 ux = C1 ∧ w5 = w4) := ⟨by rw [hux, HC.out.1], hw5⟩
    clear hux hw5
    go_wp2_with fail
    refine (pinch_any py ly hy _).mono ?_
    rintro e w6 ⟨uy, rfl, huy, hw6⟩
    have HU2 : Hid (V .f32 uy = C2 ∧ Ext W0 w6) := ⟨by rw [huy, HC.out.2], by rw [hw6, HU.out.2]; exact X4.out.1⟩
    clear huy hw6
    go_wp2_with fail
    refine (text32_any u _).mono ?_
    rintro e w7 ⟨rfl, x7⟩
    rw [X4.out.2.1]
    have X7 : Hid (Ext W0 w7) := HU2.out.2.trans x7
    clear x7
    go_wp2_with fail
    refine (text32_any v _).mono ?_
    rintro e w8 ⟨rfl, x8⟩
    rw [X4.out.2.2]
    have X8 : Hid (Ext W0 w8) := X7.out.trans x8
    clear x8
    go_wp2_with fail
    refine (text32_any ux _).mono ?_
    rintro e w9 ⟨rfl, x9⟩
    rw [HU.out.1]
    have X9 : Hid (Ext W0 w9) := X8.out.trans x9
    clear x9
    go_wp2_with fail
    refine (text32_any uy _).mono ?_
    rintro e w10 ⟨rfl, x10⟩
    rw [HU2.out.1]
    have X10 : Hid (Ext W0 w10) := X9.out.trans x10
    clear x10
    go_wp2
    go_ret
    exact ⟨rfl, X0.out.1.trans X10.out⟩
  · rw [r1] at q1 ⊢
    rw [r2] at q2 ⊢
    rw [r3] at q3 ⊢
    simp only [Bool.false_and, Bool.and_false, Bool.true_and] at q1 q2 q3 q4 ⊢
    clear r1 r2 r3
    go_wp2_with fail
    refine (HCL.out w3 X3.out).mono ?_
    rintro e w4 ⟨u, v, rfl, hu, hv, x4⟩
    have X4 : Hid (Ext W0 w4 ∧ V .f32 u = C1 ∧ V .f32 v = C2) := ⟨X3.out.trans x4, hu, hv⟩
    clear x4 hu hv c1 c2 c3 q1 q2 q3 q4
    go_wp2_with fail
    refine (pinch_any px lx hx _).mono ?_
    rintro e w5 ⟨ux, rfl, hux, hw5⟩
    have HU : Hid (V .f32 ux = C1 ∧ w5 = w4) := ⟨by rw [hux, HC.out.1], hw5⟩
    clear hux hw5
    go_wp2_with fail
    refine (pinch_any py ly hy _).mono ?_
    rintro e w6 ⟨uy, rfl, huy, hw6⟩
    have HU2 : Hid (V .f32 uy = C2 ∧ Ext W0 w6) := ⟨by rw [huy, HC.out.2], by rw [hw6, HU.out.2]; exact X4.out.1⟩
    clear huy hw6
    go_wp2_with fail
    refine (text32_any u _).mono ?_
    rintro e w7 ⟨rfl, x7⟩
    rw [X4.out.2.1]
    have X7 : Hid (Ext W0 w7) := HU2.out.2.trans x7
    clear x7
    go_wp2_with fail
    refine (text32_any v _).mono ?_
    rintro e w8 ⟨rfl, x8⟩
    rw [X4.out.2.2]
    have X8 : Hid (Ext W0 w8) := X7.out.trans x8
    clear x8
    go_wp2_with fail
    refine (text32_any ux _).mono ?_
    rintro e w9 ⟨rfl, x9⟩
    rw [HU.out.1]
    have X9 : Hid (Ext W0 w9) := X8.out.trans x9
    clear x9
    go_wp2_with fail
    refine (text32_any uy _).mono ?_
    rintro e w10 ⟨rfl, x10⟩
    rw [HU2.out.1]
    have X10 : Hid (Ext W0 w10) := X9.out.trans x10
    clear x10
    go_wp2
    go_ret
    exact ⟨rfl, X0.out.1.trans X10.out⟩
  · rw [r1] at q1 ⊢
    rw [r2] at q2 ⊢
    rw [r3] at q3 ⊢
    simp only [Bool.false_and, Bool.and_false, Bool.true_and] at q1 q2 q3 q4 ⊢
    clear r1 r2 r3
    go_wp2_with fail
    refine (HCL.out w3 X3.out).mono ?_
    rintro e w4 ⟨u, v, rfl, hu, hv, x4⟩
    have X4 : Hid (Ext W0 w4 ∧ V .f32 u = C1 ∧ V .f32 v = C2) := ⟨X3.out.trans x4, hu, hv⟩
    clear x4 hu hv c1 c2 c3 q1 q2 q3 q4
    go_wp2_with fail
    refine (pinch_any px lx hx _).mono ?_
    rintro e w5 ⟨ux, rfl, hux, hw5⟩
    have HU : Hid (V .f32 ux = C1 ∧ w5 = w4) := ⟨by rw [hux, HC.out.1], hw5⟩
    clear hux hw5
    go_wp2_with fail
    refine (pinch_any py ly hy _).mono ?_
    rintro e w6 ⟨uy, rfl, huy, hw6⟩
    have HU2 : Hid (V .f32 uy = C2 ∧ Ext W0 w6) := ⟨by rw [huy, HC.out.2], by rw [hw6, HU.out.2]; exact X4.out.1⟩
    clear huy hw6
    go_wp2_with fail
    refine (text32_any u _).mono ?_
    rintro e w7 ⟨rfl, x7⟩
    rw [X4.out.2.1]
    have X7 : Hid (Ext W0 w7) := HU2.out.2.trans x7
    clear x7
    go_wp2_with fail
    refine (text32_any v _).mono ?_
    rintro e w8 ⟨rfl, x8⟩
    rw [X4.out.2.2]
    have X8 : Hid (Ext W0 w8) := X7.out.trans x8
    clear x8
    go_wp2_with fail
    refine (text32_any ux _).mono ?_
    rintro e w9 ⟨rfl, x9⟩
    rw [HU.out.1]
    have X9 : Hid (Ext W0 w9) := X8.out.trans x9
    clear x9
    go_wp2_with fail
    refine (text32_any uy _).mono ?_
    rintro e w10 ⟨rfl, x10⟩
    rw [HU2.out.1]
    have X10 : Hid (Ext W0 w10) := X9.out.trans x10
    clear x10
    go_wp2
    go_ret
    exact ⟨rfl, X0.out.1.trans X10.out⟩
end Go.Proofs.Qxb6500343a
