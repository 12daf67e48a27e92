/-
  Walks 16: the box's Drop, Corner, Inside, Show.
-/
import Derived.Test.Qxb6500343aW15
import Derived.Test.Qxb6500343aLs
namespace Go.Proofs.Qxb6500343a
open Go.RowKit
open Go.Proofs
open Ieee (Datum)
open Fl
open Tx (st)
open Ff (in64)
set_option linter.unusedSimpArgs false
set_option linter.unusedVariables false
attribute [local go_sem] run_fadd run_fsub run_fmul run_fquo run_store_float alloc_drewN setCell_drewN shape?_drewN tape_alloc drawn_alloc tape_setCell drawn_setCell drawn_drewN drawn_drew run_fneg

set_option maxHeartbeats 400000 in
theorem drop_none (w : World) (i : BId) (ys : List Pl.LD) (h : BoxAt w i [] ys) :
    Calls Try.prog 35 #[.pointer (some ⟨i.b, 0, none⟩)] w fun e w' => e = .returned (.int .i64 2) ∧ Ext w w' := by
  obtain ⟨xl, xh, xw, xb, yl, yh, yw, yb, _, _, hc⟩ := h.cells
  have g2 : w.cell? ⟨i.b, 2, none⟩ = some (.int .i64 0) := (hc w (Ext.refl _)).2.2.1
  clear hc
  go_enter Try.func35, Try.ntmps35
  go_wp2
  go_ret
  exact ⟨rfl, Ext.refl _⟩
set_option maxHeartbeats 1000000 in
theorem drop_some (w : World) (i : BId) (xs ys : List Pl.LD) (h : BoxAt w i xs ys) (hn : 0 < xs.length) (fx : Pl.Fit xs.dropLast) (fy : Pl.Fit ys.dropLast) :
    Calls Try.prog 35 #[.pointer (some ⟨i.b, 0, none⟩)] w fun e w' => e = .returned (.int .i64 0) ∧ BoxAt w' i xs.dropLast ys.dropLast ∧ Chg i.all w w' := by
  obtain ⟨⟨xl, xh, xw, xb, yl, yh, yw, yb, h1, hax, hay⟩, hsx, hsy, hlen, hnd⟩ := h
  have hn0 : i.b ≠ i.px ∧ i.b ≠ i.Lx ∧ i.b ≠ i.py ∧ i.b ≠ i.Ly ∧ i.py ≠ i.px ∧ i.py ≠ i.Lx ∧ i.Ly ≠ i.px ∧ i.Ly ≠ i.Lx := by simp [BId.all] at hnd; omega
  obtain ⟨n1, n2, n3, n4, n5, n6, n7, n8⟩ := hn0
  have hl8 := hsx.len
  have hz : ((xs.length : Int) == 0) = false := beq_eq_false_iff_ne.2 (by omega)
  have H : Hid (SerAt w i.px i.Lx xs ∧ SerAt w i.py i.Ly ys ∧ i.all.Nodup ∧ Pl.Fit xs.dropLast ∧ Pl.Fit ys.dropLast) := ⟨hsx, hsy, hnd, fx, fy⟩
  have H1 : Hid (w.heap[i.b]? = some (.cells (boxV i.px i.py xs.length xl xh xw xb yl yh yw yb) 62) ∧ axV xl xh xw xb (Pl.axisOf xs) ∧ axV yl yh yw yb (Pl.axisOf ys)) := ⟨h1, hax, hay⟩
  have g0 : w.cell? ⟨i.b, 0, none⟩ = some (.pointer (some ⟨i.px, 0, none⟩)) := cell_of h1 0
  have g2 : w.cell? ⟨i.b, 2, none⟩ = some (.int .i64 xs.length) := cell_of h1 2
  clear h1 hax hay hsx hsy hnd fx fy
  have HL : Hid (ys.length = xs.length) := hlen
  clear hlen
  go_enter Try.func35, Try.ntmps35
  go_wp2_with fail
  refine (pop_some w i.px i.Lx xs H.out.1 hn).mono ?_
  rintro e w1 ⟨rfl, hs1, hc1⟩
  have q1 := hc1.heap H1.out.1 (by simp; exact ⟨n1, n2⟩)
  have f0 : w1.cell? ⟨i.b, 1, none⟩ = some (.pointer (some ⟨i.py, 0, none⟩)) := cell_of q1 1
  have HS1 : Hid (SerAt w1 i.px i.Lx xs.dropLast ∧ Chg [i.px, i.Lx] w w1 ∧ w1.heap[i.b]? = some (.cells (boxV i.px i.py xs.length xl xh xw xb yl yh yw yb) 62)) := ⟨hs1, hc1, q1⟩
  clear hs1 hc1 q1
  go_wp2_with fail
  refine (pop_some w1 i.py i.Ly ys (H.out.2.1.chg HS1.out.2.1 (by simp; exact ⟨n5, n6⟩) (by simp; exact ⟨n7, n8⟩)) (by rw [HL.out]; exact hn)).mono ?_
  rintro e w2 ⟨rfl, hs2, hc2⟩
  have q2 := hc2.heap HS1.out.2.2 (by simp; exact ⟨n3, n4⟩)
  have e2 : w2.cell? ⟨i.b, 2, none⟩ = some (.int .i64 xs.length) := cell_of q2 2
  have ef := frozen_of q2
  have HS2 : Hid (SerAt w2 i.py i.Ly ys.dropLast ∧ SerAt w2 i.px i.Lx xs.dropLast ∧ w2.heap[i.b]? = some (.cells (boxV i.px i.py xs.length xl xh xw xb yl yh yw yb) 62) ∧ Chg i.all w w2) :=
    ⟨hs2, HS1.out.1.chg hc2 (by simp; exact ⟨Ne.symm n5, Ne.symm n7⟩) (by simp; exact ⟨Ne.symm n6, Ne.symm n8⟩), q2, (HS1.out.2.1.mono (by simp [BId.all])).trans (hc2.mono (by simp [BId.all]))⟩
  clear hs2 hc2 q2 g0 g2 f0
  go_wp2_with fail
  have c3 : Chg [i.b] w2 (w2.setCell ⟨i.b, 2, none⟩ (.int .i64 ((xs.length : Int) - 1))) := (Chg.refl _ _).setCell (by simp) _
  have b3 : BoxC (w2.setCell ⟨i.b, 2, none⟩ (.int .i64 ((xs.length : Int) - 1))) i.b i.px i.py xs.dropLast.length (Pl.axisOf xs) (Pl.axisOf ys) := by
    refine ⟨xl, xh, xw, xb, yl, yh, yw, yb, ?_, H1.out.2.1, H1.out.2.2⟩
    rw [heap_set HS2.out.2.2.1, List.length_dropLast, show ((xs.length - 1 : Nat) : Int) = (xs.length : Int) - 1 from by omega]
    rfl
  refine (refresh_any _ i xs.dropLast ys.dropLast _ _ b3 (HS2.out.2.1.chg c3 (by simp; exact Ne.symm n1) (by simp; exact Ne.symm n2)) (HS2.out.1.chg c3 (by simp; exact Ne.symm n3) (by simp; exact Ne.symm n4)) (by rw [List.length_dropLast, List.length_dropLast, HL.out]) H.out.2.2.1 H.out.2.2.2.1 H.out.2.2.2.2).mono ?_
  rintro e w3 ⟨rfl, hb3, hc3⟩
  have H3 : Hid (BoxAt w3 i xs.dropLast ys.dropLast ∧ Chg i.all w w3) := ⟨hb3, HS2.out.2.2.2.trans ((c3.mono (by simp [BId.all])).trans hc3)⟩
  clear hb3 hc3 c3 b3
  go_wp2
  go_ret
  exact ⟨rfl, H3.out⟩
/-- Corner, plain. -/
def corner (ax ay : Pl.AX) (e : Bool) (k : Int) : Datum × Int :=
  if e then (Pl.zero32, 2) else if k = 0 then (ax.lo, 0) else if k = 1 then (ay.lo, 0) else if k = 2 then (ax.hi, 0) else if k = 3 then (ay.hi, 0) else (Pl.zero32, 3)
set_option maxHeartbeats 1000000 in
theorem corner_any (w : World) (i : BId) (xs ys : List Pl.LD) (k : Int) (h : BoxAt w i xs ys) :
    Calls Try.prog 37 #[.pointer (some ⟨i.b, 0, none⟩), .int .i64 k] w fun e w' => ∃ r, e = .returned (.tuple #[.float .f32 r, .int .i64 (corner (Pl.axisOf xs) (Pl.axisOf ys) xs.isEmpty k).2]) ∧ V .f32 r = (corner (Pl.axisOf xs) (Pl.axisOf ys) xs.isEmpty k).1 ∧ Ext w w' := by
  obtain ⟨xl, xh, xw, xb, yl, yh, yw, yb, hax, hay, hc⟩ := h.cells
  obtain ⟨_, _, g2, g3, g4, _, _, g7, g8, _, _⟩ := hc w (Ext.refl _)
  have HA : Hid (axV xl xh xw xb (Pl.axisOf xs) ∧ axV yl yh yw yb (Pl.axisOf ys)) := ⟨hax, hay⟩
  have HE : Hid (xs.isEmpty = decide ((xs.length : Int) = 0)) := by
    show _ = _
    cases xs <;> simp; omega
  rw [HE.out]
  clear h hax hay hc
  generalize (xs.length : Int) = n at *
  generalize Pl.axisOf xs = ax at *
  generalize Pl.axisOf ys = ay at *
  by_cases hn : n = 0
  · subst hn
    go_enter Try.func37, Try.ntmps37
    go_wp2
    go_ret2
    exact ⟨0, rfl, rfl, Ext.refl _⟩
  · have hz : (n == 0) = false := beq_false_of_ne hn
    have hd : decide (n = 0) = false := decide_eq_false hn
    rw [hd]
    by_cases h0 : k = 0
    · subst h0
      go_enter Try.func37, Try.ntmps37
      go_wp2
      go_ret2
      exact ⟨xl, rfl, HA.out.1.1, Ext.refl _⟩
    have k0 : (k == 0) = false := beq_false_of_ne h0
    by_cases h1 : k = 1
    · subst h1
      go_enter Try.func37, Try.ntmps37
      go_wp2
      go_ret2
      exact ⟨yl, rfl, HA.out.2.1, Ext.refl _⟩
    have k1 : (k == 1) = false := beq_false_of_ne h1
    by_cases h2 : k = 2
    · subst h2
      go_enter Try.func37, Try.ntmps37
      go_wp2
      go_ret2
      exact ⟨xh, rfl, HA.out.1.2.1, Ext.refl _⟩
    have k2 : (k == 2) = false := beq_false_of_ne h2
    by_cases h3 : k = 3
    · subst h3
      go_enter Try.func37, Try.ntmps37
      go_wp2
      go_ret2
      exact ⟨yh, rfl, HA.out.2.2.1, Ext.refl _⟩
    have k3 : (k == 3) = false := beq_false_of_ne h3
    have HC : Hid (corner ax ay false k = (Pl.zero32, 3)) := by
      show _ = _
      unfold corner
      simp only [Bool.false_eq_true, if_false]
      rw [if_neg h0, if_neg h1, if_neg h2, if_neg h3]
    rw [HC.out]
    clear h0 h1 h2 h3
    go_enter Try.func37, Try.ntmps37
    go_wp2
    go_ret2
    exact ⟨0, rfl, rfl, Ext.refl _⟩
set_option maxHeartbeats 1000000 in
theorem inside_none (w : World) (i : BId) (ys : List Pl.LD) (a b c : Int) (h : BoxAt w i [] ys) :
    Calls Try.prog 39 #[.pointer (some ⟨i.b, 0, none⟩), .int .i64 a, .int .i64 b, .int .i64 c] w fun e w' => e = .returned (.tuple #[.bool false, .int .i64 2]) ∧ Ext w w' := by
  obtain ⟨xl, xh, xw, xb, yl, yh, yw, yb, _, _, hc⟩ := h.cells
  have g2 : w.cell? ⟨i.b, 2, none⟩ = some (.int .i64 0) := (hc w (Ext.refl _)).2.2.1
  clear hc
  go_enter Try.func39, Try.ntmps39
  go_wp2
  go_ret2
  exact ⟨rfl, Ext.refl _⟩
set_option maxHeartbeats 1000000 in
theorem inside_some (w : World) (i : BId) (xs ys : List Pl.LD) (a b c : Int) (h : BoxAt w i xs ys) (hn : 0 < xs.length) (f1 : fits32 (Pl.ratio a c) = true) (f2 : fits32 (Pl.ratio b c) = true) :
    Calls Try.prog 39 #[.pointer (some ⟨i.b, 0, none⟩), .int .i64 a, .int .i64 b, .int .i64 c] w fun e w' => e = .returned (.tuple #[.bool (Pl.holds (Pl.axisOf xs) (Pl.coord a c) && Pl.holds (Pl.axisOf ys) (Pl.coord b c)), .int .i64 0]) ∧ Ext w w' := by
  obtain ⟨xl, xh, xw, xb, yl, yh, yw, yb, hax, hay, hc⟩ := h.cells
  have hlen := h.sx.len
  have hz : ((xs.length : Int) == 0) = false := beq_eq_false_iff_ne.2 (by omega)
  have HF : Hid (fits32 (Pl.ratio a c) = true ∧ fits32 (Pl.ratio b c) = true ∧ axV xl xh xw xb (Pl.axisOf xs) ∧ axV yl yh yw yb (Pl.axisOf ys)) := ⟨f1, f2, hax, hay⟩
  clear h hax hay f1 f2
  generalize Pl.axisOf xs = ax at *
  generalize Pl.axisOf ys = ay at *
  have HC : Hid _ := hc
  obtain ⟨_, _, g2, _⟩ := hc w (Ext.refl _)
  clear hc
  go_enter Try.func39, Try.ntmps39
  go_wp2_with fail
  refine (coord_any a c w HF.out.1).mono ?_
  rintro e w1 ⟨px, rfl, hpx, x1⟩
  go_wp2_with fail
  refine (coord_any b c w1 HF.out.2.1).mono ?_
  rintro e w2 ⟨py, rfl, hpy, x2⟩
  have x12 := x1.trans x2
  obtain ⟨_, _, _, g3, g4, g5, g6, _⟩ := HC.out w2 x12
  have HX : Hid (Ext w w2 ∧ V .f32 px = Pl.coord a c ∧ V .f32 py = Pl.coord b c) := ⟨x12, hpx, hpy⟩
  clear x1 x2 x12 hpx hpy g2
  go_wp2_with fail
  refine (holds_any xl xh xw px xb ax HF.out.2.2.1 w2).mono ?_
  rintro e w3 ⟨rfl, x3⟩
  rw [HX.out.2.1]
  have X3 : Hid (Ext w w3) := HX.out.1.trans x3
  obtain ⟨_, _, _, _, _, _, _, g7, g8, g9, g10⟩ := HC.out w3 X3.out
  clear x3 g3 g4 g5 g6
  obtain ⟨t1, ht1⟩ : ∃ t, Pl.holds ax (Pl.coord a c) = t := ⟨_, rfl⟩
  rw [ht1]
  have HT1 : Hid (Pl.holds ax (Pl.coord a c) = t1) := ht1
  clear ht1
  go_wp2_with fail
  refine (holds_any yl yh yw py yb ay HF.out.2.2.2 w3).mono ?_
  rintro e w4 ⟨rfl, x4⟩
  rw [HX.out.2.2]
  have X4 : Hid (Ext w w4) := X3.out.trans x4
  clear x4 g7 g8 g9 g10
  obtain ⟨t2, ht2⟩ : ∃ t, Pl.holds ay (Pl.coord b c) = t := ⟨_, rfl⟩
  rw [ht2]
  have HT2 : Hid (Pl.holds ay (Pl.coord b c) = t2) := ht2
  clear ht2
  cases t1
  · go_wp2
    go_ret2
    exact ⟨by rw [HT1.out, HT2.out]; rfl, X4.out⟩
  · go_wp2
    go_ret2
    exact ⟨by rw [HT1.out, HT2.out]; rfl, X4.out⟩
/-- Show, plain. -/
def showB (n : Nat) (ax ay : Pl.AX) : List Nat :=
  if n = 0 then [110, 61] ++ Tx.itoa n else [110, 61] ++ Tx.itoa n ++ [32] ++ text32 ax.lo ++ [32] ++ text32 ay.lo ++ [32] ++ text32 ax.hi ++ [32] ++ text32 ay.hi
set_option maxHeartbeats 2000000 in
theorem show_any (w : World) (i : BId) (xs ys : List Pl.LD) (h : BoxAt w i xs ys) :
    Calls Try.prog 40 #[.pointer (some ⟨i.b, 0, none⟩)] w fun e w' => e = .returned (.string (st (showB xs.length (Pl.axisOf xs) (Pl.axisOf ys)))) ∧ Ext w w' := by
  obtain ⟨xl, xh, xw, xb, yl, yh, yw, yb, hax, hay, hc⟩ := h.cells
  have hlen := h.sx.len
  have HF : Hid (axV xl xh xw xb (Pl.axisOf xs) ∧ axV yl yh yw yb (Pl.axisOf ys)) := ⟨hax, hay⟩
  clear h hax hay
  generalize Pl.axisOf xs = ax at *
  generalize Pl.axisOf ys = ay at *
  generalize xs.length = n at *
  have HC : Hid _ := hc
  obtain ⟨_, _, g2, _⟩ := hc w (Ext.refl _)
  clear hc
  go_enter Try.func40, Try.ntmps40
  go_wp2_with fail
  refine (itoa_all (n : Int) (by unfold in64; omega) _).mono ?_
  rintro e w1 ⟨rfl, x1⟩
  have L1 : (st (Tx.itoa (n : Int))).size ≤ 21 := by rw [Tx.st_size]; exact Tx.itoa_len _
  obtain ⟨_, _, g2, g3, g4, _, _, g7, g8, _, _⟩ := HC.out w1 x1
  by_cases hn : n = 0
  · subst hn
    have HT : Hid (st (showB 0 ax ay) = { data := #[110, 61] } ++ st (Tx.itoa ((0 : Nat) : Int))) := by
      show _ = _
      unfold showB
      rw [if_pos rfl, ← Tx.st_append]; rfl
    generalize st (Tx.itoa ((0 : Nat) : Int)) = A at *
    go_wp2
    go_ret
    exact ⟨by rw [HT.out]; rfl, x1⟩
  · have hz : ((n : Int) == 0) = false := beq_eq_false_iff_ne.2 (by omega)
    have HT : Hid (st (showB n ax ay) = { data := #[110, 61] } ++ st (Tx.itoa (n : Int)) ++ { data := #[32] } ++ st (text32 ax.lo) ++ { data := #[32] } ++ st (text32 ay.lo) ++ { data := #[32] } ++ st (text32 ax.hi) ++ { data := #[32] } ++ st (text32 ay.hi)) := by
      show _ = _
      unfold showB
      rw [if_neg hn]
      simp only [← Tx.st_append]; rfl
    have B1 : (st (text32 ax.lo)).size ≤ 50 := by rw [Tx.st_size]; exact text_len _
    have B2 : (st (text32 ay.lo)).size ≤ 50 := by rw [Tx.st_size]; exact text_len _
    have B3 : (st (text32 ax.hi)).size ≤ 50 := by rw [Tx.st_size]; exact text_len _
    have B4 : (st (text32 ay.hi)).size ≤ 50 := by rw [Tx.st_size]; exact text_len _
    have HV : Hid (st (text32 (V .f32 xl)) = st (text32 ax.lo) ∧ st (text32 (V .f32 yl)) = st (text32 ay.lo) ∧ st (text32 (V .f32 xh)) = st (text32 ax.hi) ∧ st (text32 (V .f32 yh)) = st (text32 ay.hi)) := by
      obtain ⟨⟨a1, a2, _⟩, ⟨b1, b2, _⟩⟩ := HF.out
      rw [a1, a2, b1, b2]
      exact ⟨rfl, rfl, rfl, rfl⟩
    clear HF
    generalize st (Tx.itoa (n : Int)) = A at *
    generalize st (text32 ax.lo) = T1 at *
    generalize st (text32 ay.lo) = T2 at *
    generalize st (text32 ax.hi) = T3 at *
    generalize st (text32 ay.hi) = T4 at *
    go_wp2_with fail
    refine (text32_any xl _).mono ?_
    rintro e w2 ⟨rfl, x2⟩
    rw [HV.out.1]
    have x12 := x1.trans x2
    obtain ⟨_, _, g2, g3, g4, _, _, g7, g8, _, _⟩ := HC.out w2 x12
    clear x1 x2
    go_wp2_with fail
    refine (text32_any yl _).mono ?_
    rintro e w3 ⟨rfl, x3⟩
    rw [HV.out.2.1]
    have x13 := x12.trans x3
    obtain ⟨_, _, g2, g3, g4, _, _, g7, g8, _, _⟩ := HC.out w3 x13
    clear x12 x3
    go_wp2_with fail
    refine (text32_any xh _).mono ?_
    rintro e w4 ⟨rfl, x4⟩
    rw [HV.out.2.2.1]
    have x14 := x13.trans x4
    obtain ⟨_, _, g2, g3, g4, _, _, g7, g8, _, _⟩ := HC.out w4 x14
    clear x13 x4
    go_wp2_with fail
    refine (text32_any yh _).mono ?_
    rintro e w5 ⟨rfl, x5⟩
    rw [HV.out.2.2.2]
    have x15 := x14.trans x5
    clear x14 x5
    go_wp2
    go_ret
    exact ⟨by rw [HT.out]; rfl, x15⟩
end Go.Proofs.Qxb6500343a
