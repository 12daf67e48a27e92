/-
  The model's box: Inside, Clamp, Along, Cell.
-/
import Derived.Test.Qxb6500343aN5
namespace Go.Proofs.Qxb6500343a
open Go.RowKit
open Go.Proofs
open Ieee (Datum)
open Fl
open Tx (st)
open Ff (in64)
set_option linter.unusedSimpArgs false
set_option linter.unusedVariables false
attribute [local go_sem] run_fadd run_fsub run_fmul run_fquo run_store_float alloc_drewN setCell_drewN shape?_drewN tape_alloc drawn_alloc tape_setCell drawn_setCell drawn_drewN drawn_drew run_fneg

set_option maxHeartbeats 400000 in
theorem bminside_none (w : World) (B : Nat) (i : BM) (ys : List Datum) (a b c : Int) (h : BmAt w B i [] ys) : Calls Try.prog 83 #[.pointer (some ⟨i.mb, 0, none⟩), .int .i64 a, .int .i64 b, .int .i64 c] w fun e w' => e = .returned (.tuple #[.bool false, .int .i64 2]) ∧ Ext w w' := by
  have g0 : w.cell? ⟨i.mb, 0, none⟩ = some (.pointer (some ⟨i.mx, 0, none⟩)) := cell_of h.hb 0
  go_enter Try.func83, Try.ntmps83
  go_wp2_with fail
  refine (smlen_any w B i.mx i.vx [] h.sx).mono ?_
  rintro e w1 ⟨rfl, x1⟩
  go_wp2
  go_ret2
  exact ⟨rfl, x1⟩
set_option maxHeartbeats 400000 in
theorem bmclamp_none (w : World) (B : Nat) (i : BM) (ys : List Datum) (a b c : Int) (h : BmAt w B i [] ys) : Calls Try.prog 84 #[.pointer (some ⟨i.mb, 0, none⟩), .int .i64 a, .int .i64 b, .int .i64 c] w fun e w' => e = .returned (.tuple #[.float .f32 0, .float .f32 0, .int .i64 2]) ∧ Ext w w' := by
  have g0 : w.cell? ⟨i.mb, 0, none⟩ = some (.pointer (some ⟨i.mx, 0, none⟩)) := cell_of h.hb 0
  go_enter Try.func84, Try.ntmps84
  go_wp2_with fail
  refine (smlen_any w B i.mx i.vx [] h.sx).mono ?_
  rintro e w1 ⟨rfl, x1⟩
  go_wp2
  go_ret3
  exact ⟨rfl, x1⟩
set_option maxHeartbeats 400000 in
theorem bmalong_none (w : World) (B : Nat) (i : BM) (ys : List Datum) (a b : Int) (h : BmAt w B i [] ys) : Calls Try.prog 85 #[.pointer (some ⟨i.mb, 0, none⟩), .int .i64 a, .int .i64 b] w fun e w' => e = .returned (.tuple #[.float .f32 0, .float .f32 0, .int .i64 2]) ∧ Ext w w' := by
  have g0 : w.cell? ⟨i.mb, 0, none⟩ = some (.pointer (some ⟨i.mx, 0, none⟩)) := cell_of h.hb 0
  go_enter Try.func85, Try.ntmps85
  go_wp2_with fail
  refine (smlen_any w B i.mx i.vx [] h.sx).mono ?_
  rintro e w1 ⟨rfl, x1⟩
  go_wp2
  go_ret3
  exact ⟨rfl, x1⟩
set_option maxHeartbeats 4000000 in
theorem bminside_some (w : World) (B : Nat) (i : BM) (xs ys : List Datum) (h : BmAt w B i xs ys) (hn : 0 < xs.length) (hx : Pl.Rat xs) (hy : Pl.Rat ys) (a b c : Int) (f1 : fits32 (Pl.ratio a c) = true) (f2 : fits32 (Pl.ratio b c) = true) : Calls Try.prog 83 #[.pointer (some ⟨i.mb, 0, none⟩), .int .i64 a, .int .i64 b, .int .i64 c] w fun e w' => e = .returned (.tuple #[.bool (Pl.holds (Pl.axisOf (Pl.lv xs)) (Pl.coord a c) && Pl.holds (Pl.axisOf (Pl.lv ys)) (Pl.coord b c)), .int .i64 0]) ∧ BmAt w' B i xs ys ∧ Chg i.all w w' := by
  have H : Hid (BmAt w B i xs ys ∧ Pl.Rat xs ∧ Pl.Rat ys) := ⟨h, hx, hy⟩
  have HF : Hid (fits32 (Pl.ratio a c) = true ∧ fits32 (Pl.ratio b c) = true) := ⟨f1, f2⟩
  have g0 : w.cell? ⟨i.mb, 0, none⟩ = some (.pointer (some ⟨i.mx, 0, none⟩)) := cell_of h.hb 0
  have hz : ((xs.length : Int) == 0) = false := beq_eq_false_iff_ne.2 (by omega)
  clear h hx hy f1 f2
  go_enter Try.func83, Try.ntmps83
  go_wp2_with fail
  refine (smlen_any w B i.mx i.vx xs H.out.1.sx).mono ?_
  rintro e w1 ⟨rfl, x1⟩
  have H1 : Hid (BmAt w1 B i xs ys ∧ Ext w w1) := ⟨H.out.1.ext x1, x1⟩
  clear x1 g0
  go_wp2_with fail
  refine (four_any w1 B i xs ys H1.out.1 hn H.out.2.1 H.out.2.2).mono ?_
  rintro e w2 ⟨lox, loy, hix, hiy, rfl, e1, e2, e3, e4, b2, c2⟩
  have H2 : Hid (BmAt w2 B i xs ys ∧ Chg i.all w w2 ∧ V .f32 lox = (Pl.axisOf (Pl.lv xs)).lo ∧ V .f32 loy = (Pl.axisOf (Pl.lv ys)).lo ∧ V .f32 hix = (Pl.axisOf (Pl.lv xs)).hi ∧ V .f32 hiy = (Pl.axisOf (Pl.lv ys)).hi) := ⟨b2, (Chg.of_ext H1.out.2).trans c2, e1, e2, e3, e4⟩
  clear b2 c2 e1 e2 e3 e4
  go_wp2_with fail
  refine (coordm_any a c w2 HF.out.1).mono ?_
  rintro e w3 ⟨px, rfl, hpx, x3⟩
  have X3 : Hid (Ext w2 w3 ∧ V .f32 px = Pl.coord a c) := ⟨x3, hpx⟩
  clear x3 hpx
  go_wp2_with fail
  refine (coordm_any b c w3 HF.out.2).mono ?_
  rintro e w4 ⟨py, rfl, hpy, x4⟩
  have X4 : Hid (Ext w2 w4 ∧ V .f32 py = Pl.coord b c) := ⟨X3.out.1.trans x4, hpy⟩
  clear x4 hpy
  have H4 : Hid (BmAt w4 B i xs ys ∧ Chg i.all w w4) := ⟨H2.out.1.ext X4.out.1, H2.out.2.1.then X4.out.1⟩
  obtain ⟨t1, r1⟩ : ∃ t, (FloatKind.f32.format.order px lox == some .gt || FloatKind.f32.format.order px lox == some .eq) = t := ⟨_, rfl⟩
  obtain ⟨t2, r2⟩ : ∃ t, (FloatKind.f32.format.order px hix == some .lt || FloatKind.f32.format.order px hix == some .eq) = t := ⟨_, rfl⟩
  obtain ⟨t3, r3⟩ : ∃ t, (FloatKind.f32.format.order py loy == some .gt || FloatKind.f32.format.order py loy == some .eq) = t := ⟨_, rfl⟩
  obtain ⟨t4, r4⟩ : ∃ t, (FloatKind.f32.format.order py hiy == some .lt || FloatKind.f32.format.order py hiy == some .eq) = t := ⟨_, rfl⟩
  have HT : Hid (Pl.holds (Pl.axisOf (Pl.lv xs)) (Pl.coord a c) = (t1 && t2) ∧ Pl.holds (Pl.axisOf (Pl.lv ys)) (Pl.coord b c) = (t3 && t4)) := by
    unfold Pl.holds ge le
    rw [← r1, ← r2, ← r3, ← r4]
    rw [order_V, order_V, order_V, order_V, X3.out.2, X4.out.2, H2.out.2.2.1, H2.out.2.2.2.1, H2.out.2.2.2.2.1, H2.out.2.2.2.2.2]
    exact ⟨rfl, rfl⟩
  cases t1 <;> cases t2 <;> cases t3 <;> cases t4
  all_goals (go_wp2; go_ret2; exact ⟨by rw [HT.out.1, HT.out.2]; rfl, H4.out⟩)
set_option maxHeartbeats 2000000 in
theorem bmclamp_some (w : World) (B : Nat) (i : BM) (xs ys : List Datum) (h : BmAt w B i xs ys) (hn : 0 < xs.length) (hx : Pl.Rat xs) (hy : Pl.Rat ys) (a b c : Int) (f1 : fits32 (Pl.ratio a c) = true) (f2 : fits32 (Pl.ratio b c) = true) : Calls Try.prog 84 #[.pointer (some ⟨i.mb, 0, none⟩), .int .i64 a, .int .i64 b, .int .i64 c] w fun e w' => ∃ u v, e = .returned (.tuple #[.float .f32 u, .float .f32 v, .int .i64 0]) ∧ V .f32 u = Pl.clamp (Pl.coord a c) (Pl.axisOf (Pl.lv xs)).lo (Pl.axisOf (Pl.lv xs)).hi ∧ V .f32 v = Pl.clamp (Pl.coord b c) (Pl.axisOf (Pl.lv ys)).lo (Pl.axisOf (Pl.lv ys)).hi ∧ BmAt w' B i xs ys ∧ Chg i.all w w' := by
  have H : Hid (BmAt w B i xs ys ∧ Pl.Rat xs ∧ Pl.Rat ys) := ⟨h, hx, hy⟩
  have HF : Hid (fits32 (Pl.ratio a c) = true ∧ fits32 (Pl.ratio b c) = true) := ⟨f1, f2⟩
  have g0 : w.cell? ⟨i.mb, 0, none⟩ = some (.pointer (some ⟨i.mx, 0, none⟩)) := cell_of h.hb 0
  have hz : ((xs.length : Int) == 0) = false := beq_eq_false_iff_ne.2 (by omega)
  clear h hx hy f1 f2
  go_enter Try.func84, Try.ntmps84
  go_wp2_with fail
  refine (smlen_any w B i.mx i.vx xs H.out.1.sx).mono ?_
  rintro e w1 ⟨rfl, x1⟩
  have H1 : Hid (BmAt w1 B i xs ys ∧ Ext w w1) := ⟨H.out.1.ext x1, x1⟩
  clear x1 g0
  go_wp2_with fail
  refine (four_any w1 B i xs ys H1.out.1 hn H.out.2.1 H.out.2.2).mono ?_
  rintro e w2 ⟨lox, loy, hix, hiy, rfl, e1, e2, e3, e4, b2, c2⟩
  have H2 : Hid (BmAt w2 B i xs ys ∧ Chg i.all w w2 ∧ V .f32 lox = (Pl.axisOf (Pl.lv xs)).lo ∧ V .f32 loy = (Pl.axisOf (Pl.lv ys)).lo ∧ V .f32 hix = (Pl.axisOf (Pl.lv xs)).hi ∧ V .f32 hiy = (Pl.axisOf (Pl.lv ys)).hi) := ⟨b2, (Chg.of_ext H1.out.2).trans c2, e1, e2, e3, e4⟩
  clear b2 c2 e1 e2 e3 e4
  go_wp2_with fail
  refine (coordm_any a c w2 HF.out.1).mono ?_
  rintro e w3 ⟨px, rfl, hpx, x3⟩
  have X3 : Hid (Ext w2 w3 ∧ V .f32 px = Pl.coord a c) := ⟨x3, hpx⟩
  clear x3 hpx
  go_wp2_with fail
  refine (coordm_any b c w3 HF.out.2).mono ?_
  rintro e w4 ⟨py, rfl, hpy, x4⟩
  have X4 : Hid (Ext w2 w4 ∧ V .f32 py = Pl.coord b c) := ⟨X3.out.1.trans x4, hpy⟩
  clear x4 hpy
  go_wp2_with fail
  refine (clampm_any px lox hix w4).mono ?_
  rintro e w5 ⟨u, rfl, hu, x5⟩
  rw [X3.out.2, H2.out.2.2.1, H2.out.2.2.2.2.1] at hu
  have X5 : Hid (Ext w2 w5 ∧ V .f32 u = Pl.clamp (Pl.coord a c) (Pl.axisOf (Pl.lv xs)).lo (Pl.axisOf (Pl.lv xs)).hi) := ⟨X4.out.1.trans x5, hu⟩
  clear hu x5
  go_wp2_with fail
  refine (clampm_any py loy hiy w5).mono ?_
  rintro e w6 ⟨v, rfl, hv, x6⟩
  rw [X4.out.2, H2.out.2.2.2.1, H2.out.2.2.2.2.2] at hv
  have X6 : Hid (Ext w2 w6 ∧ V .f32 v = Pl.clamp (Pl.coord b c) (Pl.axisOf (Pl.lv ys)).lo (Pl.axisOf (Pl.lv ys)).hi) := ⟨X5.out.1.trans x6, hv⟩
  clear hv x6
  go_wp2
  go_ret3
  exact ⟨u, v, rfl, X5.out.2, X6.out.2, H2.out.1.ext X6.out.1, H2.out.2.1.then X6.out.1⟩
set_option maxHeartbeats 2000000 in
theorem bmalong_some (w : World) (B : Nat) (i : BM) (xs ys : List Datum) (h : BmAt w B i xs ys) (hn : 0 < xs.length) (hx : Pl.Rat xs) (hy : Pl.Rat ys) (a b : Int) (f1 : fits32 (Pl.ratio a b) = true) : Calls Try.prog 85 #[.pointer (some ⟨i.mb, 0, none⟩), .int .i64 a, .int .i64 b] w fun e w' => ∃ u v, e = .returned (.tuple #[.float .f32 u, .float .f32 v, .int .i64 0]) ∧ V .f32 u = Pl.lerp (Pl.coord a b) (Pl.axisOf (Pl.lv xs)).lo (Pl.axisOf (Pl.lv xs)).hi ∧ V .f32 v = Pl.lerp (Pl.coord a b) (Pl.axisOf (Pl.lv ys)).lo (Pl.axisOf (Pl.lv ys)).hi ∧ BmAt w' B i xs ys ∧ Chg i.all w w' := by
  have H : Hid (BmAt w B i xs ys ∧ Pl.Rat xs ∧ Pl.Rat ys) := ⟨h, hx, hy⟩
  have HF : Hid (fits32 (Pl.ratio a b) = true ∧ True) := ⟨f1, trivial⟩
  have g0 : w.cell? ⟨i.mb, 0, none⟩ = some (.pointer (some ⟨i.mx, 0, none⟩)) := cell_of h.hb 0
  have hz : ((xs.length : Int) == 0) = false := beq_eq_false_iff_ne.2 (by omega)
  clear h hx hy f1
  go_enter Try.func85, Try.ntmps85
  go_wp2_with fail
  refine (smlen_any w B i.mx i.vx xs H.out.1.sx).mono ?_
  rintro e w1 ⟨rfl, x1⟩
  have H1 : Hid (BmAt w1 B i xs ys ∧ Ext w w1) := ⟨H.out.1.ext x1, x1⟩
  clear x1 g0
  go_wp2_with fail
  refine (four_any w1 B i xs ys H1.out.1 hn H.out.2.1 H.out.2.2).mono ?_
  rintro e w2 ⟨lox, loy, hix, hiy, rfl, e1, e2, e3, e4, b2, c2⟩
  have H2 : Hid (BmAt w2 B i xs ys ∧ Chg i.all w w2 ∧ V .f32 lox = (Pl.axisOf (Pl.lv xs)).lo ∧ V .f32 loy = (Pl.axisOf (Pl.lv ys)).lo ∧ V .f32 hix = (Pl.axisOf (Pl.lv xs)).hi ∧ V .f32 hiy = (Pl.axisOf (Pl.lv ys)).hi) := ⟨b2, (Chg.of_ext H1.out.2).trans c2, e1, e2, e3, e4⟩
  clear b2 c2 e1 e2 e3 e4
  go_wp2_with fail
  refine (coordm_any a b w2 HF.out.1).mono ?_
  rintro e w3 ⟨t, rfl, ht, x3⟩
  have X3 : Hid (Ext w2 w3 ∧ V .f32 t = Pl.coord a b) := ⟨x3, ht⟩
  clear x3 ht
  go_wp2
  go_ret3
  refine ⟨_, _, rfl, ?_, ?_, (H2.out.1.ext X3.out.1).ext ((Ext.refl _).drewN _), (H2.out.2.1.then X3.out.1).drewN _⟩
  · simp only [V_add, V_mul, V_sub]; rw [X3.out.2, H2.out.2.2.1, H2.out.2.2.2.2.1]; rfl
  · simp only [V_add, V_mul, V_sub]; rw [X3.out.2, H2.out.2.2.2.1, H2.out.2.2.2.2.2]; rfl
set_option maxHeartbeats 400000 in
theorem bmcell_none (w : World) (B : Nat) (i : BM) (ys : List Datum) (a b c : Int) (h : BmAt w B i [] ys) : Calls Try.prog 86 #[.pointer (some ⟨i.mb, 0, none⟩), .int .i64 a, .int .i64 b, .int .i64 c] w fun e w' => e = .returned (.tuple #[.int .i64 0, .int .i64 2]) ∧ Ext w w' := by
  go_enter Try.func86, Try.ntmps86
  go_wp2_with fail
  refine (bminside_none w B i ys a b c h).mono ?_
  rintro e w1 ⟨rfl, x1⟩
  go_wp2
  go_ret2
  exact ⟨rfl, x1⟩
set_option maxHeartbeats 4000000 in
theorem bmcell_some (w : World) (B : Nat) (i : BM) (xs ys : List Datum) (h : BmAt w B i xs ys) (hn : 0 < xs.length) (hx : Pl.Rat xs) (hy : Pl.Rat ys) (a b c : Int) (f1 : fits32 (Pl.ratio a c) = true) (f2 : fits32 (Pl.ratio b c) = true) : Calls Try.prog 86 #[.pointer (some ⟨i.mb, 0, none⟩), .int .i64 a, .int .i64 b, .int .i64 c] w fun e w' => e = .returned (.tuple #[.int .i64 (Pl.cellA (Pl.axisOf (Pl.lv xs)) (Pl.axisOf (Pl.lv ys)) (Pl.coord a c) (Pl.coord b c)).1, .int .i64 (Pl.cellA (Pl.axisOf (Pl.lv xs)) (Pl.axisOf (Pl.lv ys)) (Pl.coord a c) (Pl.coord b c)).2]) ∧ BmAt w' B i xs ys ∧ Chg i.all w w' := by
  have H : Hid (BmAt w B i xs ys ∧ Pl.Rat xs ∧ Pl.Rat ys ∧ Pl.SoundA (Pl.axisOf (Pl.lv xs)) ∧ Pl.SoundA (Pl.axisOf (Pl.lv ys))) := ⟨h, hx, hy, Pl.sound_lv xs (fun e => by rw [e] at hn; simp at hn), Pl.sound_lv ys (fun e => by have hl := h.len; rw [e, List.length_nil] at hl; omega)⟩
  have HF : Hid (fits32 (Pl.ratio a c) = true ∧ fits32 (Pl.ratio b c) = true) := ⟨f1, f2⟩
  obtain ⟨R, hR⟩ : ∃ R, Pl.cellA (Pl.axisOf (Pl.lv xs)) (Pl.axisOf (Pl.lv ys)) (Pl.coord a c) (Pl.coord b c) = R := ⟨_, rfl⟩
  rw [hR]
  have HR : Hid (Pl.cellA (Pl.axisOf (Pl.lv xs)) (Pl.axisOf (Pl.lv ys)) (Pl.coord a c) (Pl.coord b c) = R) := hR
  clear h hx hy f1 f2 hR
  go_enter Try.func86, Try.ntmps86
  go_wp2_with fail
  refine (bminside_some w B i xs ys H.out.1 hn H.out.2.1 H.out.2.2.1 a b c HF.out.1 HF.out.2).mono ?_
  rintro e w1 ⟨rfl, b1, c1⟩
  have H1 : Hid (BmAt w1 B i xs ys ∧ Chg i.all w w1) := ⟨b1, c1⟩
  clear b1 c1
  cases ht : (Pl.holds (Pl.axisOf (Pl.lv xs)) (Pl.coord a c) && Pl.holds (Pl.axisOf (Pl.lv ys)) (Pl.coord b c))
  · have HE : Hid (R = (0, 5)) := by
      show _ = _
      rw [← HR.out]
      unfold Pl.cellA
      rw [Bool.and_eq_false_iff] at ht
      rcases ht with h | h
      · rw [h]; rfl
      · cases Pl.holds (Pl.axisOf (Pl.lv xs)) (Pl.coord a c)
        · rfl
        · rw [h]; rfl
    clear ht
    go_wp2
    go_ret2
    exact ⟨by rw [HE.out]; rfl, H1.out⟩
  · have HH : Hid (Pl.holds (Pl.axisOf (Pl.lv xs)) (Pl.coord a c) = true ∧ Pl.holds (Pl.axisOf (Pl.lv ys)) (Pl.coord b c) = true) := by rwa [Bool.and_eq_true] at ht
    clear ht
    go_wp2_with fail
    refine (four_any w1 B i xs ys H1.out.1 hn H.out.2.1 H.out.2.2.1).mono ?_
    rintro e w2 ⟨lox, loy, hix, hiy, rfl, e1, e2, e3, e4, b2, c2⟩
    have H2 : Hid (BmAt w2 B i xs ys ∧ Chg i.all w w2 ∧ V .f32 lox = (Pl.axisOf (Pl.lv xs)).lo ∧ V .f32 loy = (Pl.axisOf (Pl.lv ys)).lo ∧ V .f32 hix = (Pl.axisOf (Pl.lv xs)).hi ∧ V .f32 hiy = (Pl.axisOf (Pl.lv ys)).hi) := ⟨b2, H1.out.2.trans c2, e1, e2, e3, e4⟩
    clear b2 c2 e1 e2 e3 e4
    go_wp2_with fail
    refine (coordm_any a c w2 HF.out.1).mono ?_
    rintro e w3 ⟨px, rfl, hpx, x3⟩
    have X3 : Hid (Ext w2 w3 ∧ V .f32 px = Pl.coord a c) := ⟨x3, hpx⟩
    clear x3 hpx
    go_wp2_with fail
    refine (coordm_any b c w3 HF.out.2).mono ?_
    rintro e w4 ⟨py, rfl, hpy, x4⟩
    have X4 : Hid (Ext w2 w4 ∧ V .f32 py = Pl.coord b c) := ⟨X3.out.1.trans x4, hpy⟩
    clear x4 hpy
    go_wp2_with fail
    refine (partm_any px lox hix _ H2.out.2.2.1 H2.out.2.2.2.2.1 H.out.2.2.2.1 w4).mono ?_
    rintro e w5 ⟨rfl, x5⟩
    rw [X3.out.2]
    have X5 : Hid (Ext w2 w5) := X4.out.1.trans x5
    clear x5
    go_wp2_with fail
    refine (partm_any py loy hiy _ H2.out.2.2.2.1 H2.out.2.2.2.2.2 H.out.2.2.2.2 w5).mono ?_
    rintro e w6 ⟨rfl, x6⟩
    rw [X4.out.2]
    have X6 : Hid (BmAt w6 B i xs ys ∧ Chg i.all w w6) := ⟨H2.out.1.ext (X5.out.trans x6), H2.out.2.1.then (X5.out.trans x6)⟩
    clear x6
    have HE : Hid (R = if (Pl.part (Pl.axisOf (Pl.lv xs)) (Pl.coord a c)).2 && (Pl.part (Pl.axisOf (Pl.lv ys)) (Pl.coord b c)).2 then (Pl.rc (Pl.part (Pl.axisOf (Pl.lv ys)) (Pl.coord b c)).1 (Pl.part (Pl.axisOf (Pl.lv xs)) (Pl.coord a c)).1, 0) else (0, 6)) := by
      show _ = _
      rw [← HR.out]
      unfold Pl.cellA
      rw [HH.out.1, HH.out.2]; rfl
    clear HR HH
    generalize Pl.part (Pl.axisOf (Pl.lv xs)) (Pl.coord a c) = A at *
    generalize Pl.part (Pl.axisOf (Pl.lv ys)) (Pl.coord b c) = C at *
    obtain ⟨col, okx⟩ := A
    obtain ⟨row, oky⟩ := C
    cases okx
    · go_wp2
      go_ret2
      exact ⟨by rw [HE.out]; rfl, X6.out⟩
    · cases oky
      · go_wp2
        go_ret2
        exact ⟨by rw [HE.out]; rfl, X6.out⟩
      · go_wp2
        go_ret2
        exact ⟨by rw [HE.out]; rfl, X6.out⟩
end Go.Proofs.Qxb6500343a

