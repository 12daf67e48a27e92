/-
  The model's box: Corner, four.
-/
import Derived.Test.Qxb6500343aN3
namespace Go.Proofs.Qxb6500343a
open Go.RowKit
open Go.Proofs
open Ieee (Datum)
open Fl
open Tx (st)
open Ff (in64)
set_option linter.unusedSimpArgs false
set_option linter.unusedVariables false
attribute [local go_sem] run_fadd run_fsub run_fmul run_fquo run_store_float alloc_drewN setCell_drewN shape?_drewN tape_alloc drawn_alloc tape_setCell drawn_setCell drawn_drewN drawn_drew run_fneg

theorem lo_eq (xs : List Datum) (h : xs ≠ []) : (Pl.axisOf (Pl.lv xs)).lo = to32 (Pl.minL xs) ∧ (Pl.axisOf (Pl.lv xs)).hi = to32 (Pl.maxL xs) := by
  rw [Pl.axis_lv xs h]; exact ⟨rfl, rfl⟩
theorem fits_min {xs : List Datum} (h : Pl.Rat xs) (h0 : xs ≠ []) : fits32 (Pl.minL xs) = true ∧ fits32 (Pl.maxL xs) = true := by
  have hb := Pl.min_Bd h h0
  exact ⟨Ff.fits_Bd fun s m e he h0 => Int.le_trans (hb.1 s m e he h0) (by decide), Ff.fits_Bd fun s m e he h0 => Int.le_trans (hb.2 s m e he h0) (by decide)⟩
theorem BmAt.after {w w' : World} {B : Nat} {i : BM} {xs ys : List Datum} (h : BmAt w B i xs ys) (m : Nat) (hm : m = i.mx ∨ m = i.my) (hc : Chg [m] w w') (hs : (m = i.mx → SmAt w' B i.mx i.vx xs) ∧ (m = i.my → SmAt w' B i.my i.vy ys)) : BmAt w' B i xs ys ∧ Chg i.all w w' := by
  obtain ⟨p1, p2, p3, p4, p5, p6, p7, p8, p9, p10, _, _⟩ := h.ap
  rcases hm with rfl | rfl
  · refine ⟨⟨hc.heap h.hb (by simpa using p1), hs.1 rfl, h.sy.chg hc (by simpa using Ne.symm p3) (fun g hg => by simp only [List.mem_singleton]; exact fun e => p7 (by rw [← e]; exact hg)), h.len, h.nd, h.hB⟩, hc.mono (by simp [BM.all])⟩
  · refine ⟨⟨hc.heap h.hb (by simpa using p2), h.sx.chg hc (by simpa using p3) (fun g hg => by simp only [List.mem_singleton]; exact fun e => p8 (by rw [← e]; exact hg)), hs.2 rfl, h.len, h.nd, h.hB⟩, hc.mono (by simp [BM.all])⟩
set_option maxHeartbeats 400000 in
theorem bmcorner_none (w : World) (B : Nat) (i : BM) (ys : List Datum) (k : Int) (h : BmAt w B i [] ys) : Calls Try.prog 82 #[.pointer (some ⟨i.mb, 0, none⟩), .int .i64 k] w fun e w' => e = .returned (.tuple #[.float .f32 0, .int .i64 2]) ∧ Ext w w' := by
  have g0 : w.cell? ⟨i.mb, 0, none⟩ = some (.pointer (some ⟨i.mx, 0, none⟩)) := cell_of h.hb 0
  go_enter Try.func82, Try.ntmps82
  go_wp2_with fail
  refine (smlen_any w B i.mx i.vx [] h.sx).mono ?_
  rintro e w1 ⟨rfl, x1⟩
  go_wp2
  go_ret2
  exact ⟨rfl, x1⟩
set_option maxHeartbeats 1000000 in
theorem bmcorner_0 (w : World) (B : Nat) (i : BM) (xs ys : List Datum) (h : BmAt w B i xs ys) (hn : 0 < xs.length) (hx : Pl.Rat xs) (hy : Pl.Rat ys) : Calls Try.prog 82 #[.pointer (some ⟨i.mb, 0, none⟩), .int .i64 0] w fun e w' => ∃ r, e = .returned (.tuple #[.float .f32 r, .int .i64 0]) ∧ V .f32 r = (Pl.axisOf (Pl.lv xs)).lo ∧ BmAt w' B i xs ys ∧ Chg i.all w w' := by
  have H : Hid (BmAt w B i xs ys) := h
  have g0 : w.cell? ⟨i.mb, 0, none⟩ = some (.pointer (some ⟨i.mx, 0, none⟩)) := cell_of h.hb 0
  have hz : ((xs.length : Int) == 0) = false := beq_eq_false_iff_ne.2 (by omega)
  have hne : xs ≠ [] := by
    intro e
    have hl := h.len
    have hq : xs.length = 0 := by rw [e]; rfl
    omega
  have hf : fits32 (Pl.minL xs) = true := (fits_min hx hne).1
  have HE : Hid ((Pl.axisOf (Pl.lv xs)).lo = to32 (Pl.minL xs) ∧ fits32 (Pl.minL xs) = true) := ⟨(lo_eq xs hne).1, hf⟩
  clear h hx hy hne hf
  go_enter Try.func82, Try.ntmps82
  go_wp2_with fail
  refine (smlen_any w B i.mx i.vx xs H.out.sx).mono ?_
  rintro e w1 ⟨rfl, x1⟩
  have H1 : Hid (BmAt w1 B i xs ys ∧ Ext w w1) := ⟨H.out.ext x1, x1⟩
  have g1 : w1.cell? ⟨i.mb, 0, none⟩ = some (.pointer (some ⟨i.mx, 0, none⟩)) := cell_of H1.out.1.hb 0
  clear x1 g0
  go_wp2_with fail
  refine (smmin_some w1 B i.mx i.vx xs H1.out.1.sx (by have := H.out.len; omega)).mono ?_
  rintro e w2 ⟨r, rfl, hr, s2, c2⟩
  have h2 := H1.out.1.after i.mx (.inl rfl) c2 ⟨fun _ => s2, fun e => absurd e H1.out.1.ap.2.2.1⟩
  have H2 : Hid (BmAt w2 B i xs ys ∧ Chg i.all w w2 ∧ V .f64 r = Pl.minL xs) := ⟨h2.1, (Chg.of_ext H1.out.2).trans h2.2, hr⟩
  have hc := fun wx => run_to32 (P := Try.prog) wx 80 35 r (by rw [Try.underlying80]; rfl) Try.underlying35 (by rw [H2.out.2.2]; exact HE.out.2)
  clear h2 s2 c2 hr g1
  go_wp2
  go_ret2
  refine ⟨_, rfl, by rw [V_to32 _ _ _ (by rw [H2.out.2.2]; exact HE.out.2), H2.out.2.2, HE.out.1], H2.out.1.ext ((Ext.refl _).drewN _), H2.out.2.1.drewN _⟩
set_option maxHeartbeats 1000000 in
theorem bmcorner_1 (w : World) (B : Nat) (i : BM) (xs ys : List Datum) (h : BmAt w B i xs ys) (hn : 0 < xs.length) (hx : Pl.Rat xs) (hy : Pl.Rat ys) : Calls Try.prog 82 #[.pointer (some ⟨i.mb, 0, none⟩), .int .i64 1] w fun e w' => ∃ r, e = .returned (.tuple #[.float .f32 r, .int .i64 0]) ∧ V .f32 r = (Pl.axisOf (Pl.lv ys)).lo ∧ BmAt w' B i xs ys ∧ Chg i.all w w' := by
  have H : Hid (BmAt w B i xs ys) := h
  have g0 : w.cell? ⟨i.mb, 0, none⟩ = some (.pointer (some ⟨i.mx, 0, none⟩)) := cell_of h.hb 0
  have hz : ((xs.length : Int) == 0) = false := beq_eq_false_iff_ne.2 (by omega)
  have hne : ys ≠ [] := by
    intro e
    have hl := h.len
    have hq : ys.length = 0 := by rw [e]; rfl
    omega
  have hf : fits32 (Pl.minL ys) = true := (fits_min hy hne).1
  have HE : Hid ((Pl.axisOf (Pl.lv ys)).lo = to32 (Pl.minL ys) ∧ fits32 (Pl.minL ys) = true) := ⟨(lo_eq ys hne).1, hf⟩
  clear h hx hy hne hf
  go_enter Try.func82, Try.ntmps82
  go_wp2_with fail
  refine (smlen_any w B i.mx i.vx xs H.out.sx).mono ?_
  rintro e w1 ⟨rfl, x1⟩
  have H1 : Hid (BmAt w1 B i xs ys ∧ Ext w w1) := ⟨H.out.ext x1, x1⟩
  have g1 : w1.cell? ⟨i.mb, 1, none⟩ = some (.pointer (some ⟨i.my, 0, none⟩)) := cell_of H1.out.1.hb 1
  clear x1 g0
  go_wp2_with fail
  refine (smmin_some w1 B i.my i.vy ys H1.out.1.sy (by have := H.out.len; omega)).mono ?_
  rintro e w2 ⟨r, rfl, hr, s2, c2⟩
  have h2 := H1.out.1.after i.my (.inr rfl) c2 ⟨fun e => absurd e.symm H1.out.1.ap.2.2.1, fun _ => s2⟩
  have H2 : Hid (BmAt w2 B i xs ys ∧ Chg i.all w w2 ∧ V .f64 r = Pl.minL ys) := ⟨h2.1, (Chg.of_ext H1.out.2).trans h2.2, hr⟩
  have hc := fun wx => run_to32 (P := Try.prog) wx 80 35 r (by rw [Try.underlying80]; rfl) Try.underlying35 (by rw [H2.out.2.2]; exact HE.out.2)
  clear h2 s2 c2 hr g1
  go_wp2
  go_ret2
  refine ⟨_, rfl, by rw [V_to32 _ _ _ (by rw [H2.out.2.2]; exact HE.out.2), H2.out.2.2, HE.out.1], H2.out.1.ext ((Ext.refl _).drewN _), H2.out.2.1.drewN _⟩
set_option maxHeartbeats 1000000 in
theorem bmcorner_2 (w : World) (B : Nat) (i : BM) (xs ys : List Datum) (h : BmAt w B i xs ys) (hn : 0 < xs.length) (hx : Pl.Rat xs) (hy : Pl.Rat ys) : Calls Try.prog 82 #[.pointer (some ⟨i.mb, 0, none⟩), .int .i64 2] w fun e w' => ∃ r, e = .returned (.tuple #[.float .f32 r, .int .i64 0]) ∧ V .f32 r = (Pl.axisOf (Pl.lv xs)).hi ∧ BmAt w' B i xs ys ∧ Chg i.all w w' := by
  have H : Hid (BmAt w B i xs ys) := h
  have g0 : w.cell? ⟨i.mb, 0, none⟩ = some (.pointer (some ⟨i.mx, 0, none⟩)) := cell_of h.hb 0
  have hz : ((xs.length : Int) == 0) = false := beq_eq_false_iff_ne.2 (by omega)
  have hne : xs ≠ [] := by
    intro e
    have hl := h.len
    have hq : xs.length = 0 := by rw [e]; rfl
    omega
  have hf : fits32 (Pl.maxL xs) = true := (fits_min hx hne).2
  have HE : Hid ((Pl.axisOf (Pl.lv xs)).hi = to32 (Pl.maxL xs) ∧ fits32 (Pl.maxL xs) = true) := ⟨(lo_eq xs hne).2, hf⟩
  clear h hx hy hne hf
  go_enter Try.func82, Try.ntmps82
  go_wp2_with fail
  refine (smlen_any w B i.mx i.vx xs H.out.sx).mono ?_
  rintro e w1 ⟨rfl, x1⟩
  have H1 : Hid (BmAt w1 B i xs ys ∧ Ext w w1) := ⟨H.out.ext x1, x1⟩
  have g1 : w1.cell? ⟨i.mb, 0, none⟩ = some (.pointer (some ⟨i.mx, 0, none⟩)) := cell_of H1.out.1.hb 0
  clear x1 g0
  go_wp2_with fail
  refine (smmax_some w1 B i.mx i.vx xs H1.out.1.sx (by have := H.out.len; omega)).mono ?_
  rintro e w2 ⟨r, rfl, hr, s2, c2⟩
  have h2 := H1.out.1.after i.mx (.inl rfl) c2 ⟨fun _ => s2, fun e => absurd e H1.out.1.ap.2.2.1⟩
  have H2 : Hid (BmAt w2 B i xs ys ∧ Chg i.all w w2 ∧ V .f64 r = Pl.maxL xs) := ⟨h2.1, (Chg.of_ext H1.out.2).trans h2.2, hr⟩
  have hc := fun wx => run_to32 (P := Try.prog) wx 80 35 r (by rw [Try.underlying80]; rfl) Try.underlying35 (by rw [H2.out.2.2]; exact HE.out.2)
  clear h2 s2 c2 hr g1
  go_wp2
  go_ret2
  refine ⟨_, rfl, by rw [V_to32 _ _ _ (by rw [H2.out.2.2]; exact HE.out.2), H2.out.2.2, HE.out.1], H2.out.1.ext ((Ext.refl _).drewN _), H2.out.2.1.drewN _⟩
set_option maxHeartbeats 1000000 in
theorem bmcorner_3 (w : World) (B : Nat) (i : BM) (xs ys : List Datum) (h : BmAt w B i xs ys) (hn : 0 < xs.length) (hx : Pl.Rat xs) (hy : Pl.Rat ys) : Calls Try.prog 82 #[.pointer (some ⟨i.mb, 0, none⟩), .int .i64 3] w fun e w' => ∃ r, e = .returned (.tuple #[.float .f32 r, .int .i64 0]) ∧ V .f32 r = (Pl.axisOf (Pl.lv ys)).hi ∧ BmAt w' B i xs ys ∧ Chg i.all w w' := by
  have H : Hid (BmAt w B i xs ys) := h
  have g0 : w.cell? ⟨i.mb, 0, none⟩ = some (.pointer (some ⟨i.mx, 0, none⟩)) := cell_of h.hb 0
  have hz : ((xs.length : Int) == 0) = false := beq_eq_false_iff_ne.2 (by omega)
  have hne : ys ≠ [] := by
    intro e
    have hl := h.len
    have hq : ys.length = 0 := by rw [e]; rfl
    omega
  have hf : fits32 (Pl.maxL ys) = true := (fits_min hy hne).2
  have HE : Hid ((Pl.axisOf (Pl.lv ys)).hi = to32 (Pl.maxL ys) ∧ fits32 (Pl.maxL ys) = true) := ⟨(lo_eq ys hne).2, hf⟩
  clear h hx hy hne hf
  go_enter Try.func82, Try.ntmps82
  go_wp2_with fail
  refine (smlen_any w B i.mx i.vx xs H.out.sx).mono ?_
  rintro e w1 ⟨rfl, x1⟩
  have H1 : Hid (BmAt w1 B i xs ys ∧ Ext w w1) := ⟨H.out.ext x1, x1⟩
  have g1 : w1.cell? ⟨i.mb, 1, none⟩ = some (.pointer (some ⟨i.my, 0, none⟩)) := cell_of H1.out.1.hb 1
  clear x1 g0
  go_wp2_with fail
  refine (smmax_some w1 B i.my i.vy ys H1.out.1.sy (by have := H.out.len; omega)).mono ?_
  rintro e w2 ⟨r, rfl, hr, s2, c2⟩
  have h2 := H1.out.1.after i.my (.inr rfl) c2 ⟨fun e => absurd e.symm H1.out.1.ap.2.2.1, fun _ => s2⟩
  have H2 : Hid (BmAt w2 B i xs ys ∧ Chg i.all w w2 ∧ V .f64 r = Pl.maxL ys) := ⟨h2.1, (Chg.of_ext H1.out.2).trans h2.2, hr⟩
  have hc := fun wx => run_to32 (P := Try.prog) wx 80 35 r (by rw [Try.underlying80]; rfl) Try.underlying35 (by rw [H2.out.2.2]; exact HE.out.2)
  clear h2 s2 c2 hr g1
  go_wp2
  go_ret2
  refine ⟨_, rfl, by rw [V_to32 _ _ _ (by rw [H2.out.2.2]; exact HE.out.2), H2.out.2.2, HE.out.1], H2.out.1.ext ((Ext.refl _).drewN _), H2.out.2.1.drewN _⟩
set_option maxHeartbeats 1000000 in
theorem bmcorner_out (w : World) (B : Nat) (i : BM) (xs ys : List Datum) (k : Int) (h : BmAt w B i xs ys) (hn : 0 < xs.length) (h0 : k ≠ 0) (h1 : k ≠ 1) (h2 : k ≠ 2) (h3 : k ≠ 3) : Calls Try.prog 82 #[.pointer (some ⟨i.mb, 0, none⟩), .int .i64 k] w fun e w' => e = .returned (.tuple #[.float .f32 0, .int .i64 3]) ∧ Ext w w' := by
  have g0 : w.cell? ⟨i.mb, 0, none⟩ = some (.pointer (some ⟨i.mx, 0, none⟩)) := cell_of h.hb 0
  have hz : ((xs.length : Int) == 0) = false := beq_eq_false_iff_ne.2 (by omega)
  have k0 : (k == 0) = false := beq_false_of_ne h0
  have k1 : (k == 1) = false := beq_false_of_ne h1
  have k2 : (k == 2) = false := beq_false_of_ne h2
  have k3 : (k == 3) = false := beq_false_of_ne h3
  have HS := h.sx
  clear h h0 h1 h2 h3
  go_enter Try.func82, Try.ntmps82
  go_wp2_with fail
  refine (smlen_any w B i.mx i.vx xs HS).mono ?_
  rintro e w1 ⟨rfl, x1⟩
  go_wp2
  go_ret2
  exact ⟨rfl, x1⟩
/-- Corner, whatever k. -/
theorem bmcorner_any (w : World) (B : Nat) (i : BM) (xs ys : List Datum) (k : Int) (h : BmAt w B i xs ys) (hx : Pl.Rat xs) (hy : Pl.Rat ys) : Calls Try.prog 82 #[.pointer (some ⟨i.mb, 0, none⟩), .int .i64 k] w fun e w' => ∃ r, e = .returned (.tuple #[.float .f32 r, .int .i64 (corner (Pl.axisOf (Pl.lv xs)) (Pl.axisOf (Pl.lv ys)) xs.isEmpty k).2]) ∧ V .f32 r = (corner (Pl.axisOf (Pl.lv xs)) (Pl.axisOf (Pl.lv ys)) xs.isEmpty k).1 ∧ BmAt w' B i xs ys ∧ Chg i.all w w' := by
  unfold corner
  cases hxs : xs with
  | nil =>
    subst hxs
    exact (bmcorner_none w B i ys k h).mono fun e w' ⟨he, hx'⟩ => ⟨0, he, rfl, h.ext hx', Chg.of_ext hx'⟩
  | cons x r =>
    rw [← hxs]
    have hn : 0 < xs.length := by rw [hxs]; simp
    have he : xs.isEmpty = false := by rw [hxs]; rfl
    rw [he]
    simp only [Bool.false_eq_true, if_false]
    by_cases h0 : k = 0
    · subst h0; exact bmcorner_0 w B i xs ys h hn hx hy
    rw [if_neg h0]
    by_cases h1 : k = 1
    · subst h1; exact bmcorner_1 w B i xs ys h hn hx hy
    rw [if_neg h1]
    by_cases h2 : k = 2
    · subst h2; exact bmcorner_2 w B i xs ys h hn hx hy
    rw [if_neg h2]
    by_cases h3 : k = 3
    · subst h3; exact bmcorner_3 w B i xs ys h hn hx hy
    rw [if_neg h3]
    exact (bmcorner_out w B i xs ys k h hn h0 h1 h2 h3).mono fun e w' ⟨he, hx'⟩ => ⟨0, he, rfl, h.ext hx', Chg.of_ext hx'⟩
set_option maxHeartbeats 1000000 in
theorem four_any (w : World) (B : Nat) (i : BM) (xs ys : List Datum) (h : BmAt w B i xs ys) (hn : 0 < xs.length) (hx : Pl.Rat xs) (hy : Pl.Rat ys) : Calls Try.prog 90 #[.pointer (some ⟨i.mb, 0, none⟩)] w fun e w' => ∃ a b c d, e = .returned (.tuple #[.float .f32 a, .float .f32 b, .float .f32 c, .float .f32 d]) ∧ V .f32 a = (Pl.axisOf (Pl.lv xs)).lo ∧ V .f32 b = (Pl.axisOf (Pl.lv ys)).lo ∧ V .f32 c = (Pl.axisOf (Pl.lv xs)).hi ∧ V .f32 d = (Pl.axisOf (Pl.lv ys)).hi ∧ BmAt w' B i xs ys ∧ Chg i.all w w' := by
  have H : Hid (BmAt w B i xs ys ∧ Pl.Rat xs ∧ Pl.Rat ys) := ⟨h, hx, hy⟩
  clear h hx hy
  go_enter Try.func90, Try.ntmps90
  go_wp2_with fail
  refine (bmcorner_0 w B i xs ys H.out.1 hn H.out.2.1 H.out.2.2).mono ?_
  rintro e w1 ⟨a, rfl, ha, b1, c1⟩
  have H1 : Hid (BmAt w1 B i xs ys ∧ Chg i.all w w1 ∧ V .f32 a = (Pl.axisOf (Pl.lv xs)).lo) := ⟨b1, c1, ha⟩
  clear ha b1 c1
  go_wp2_with fail
  refine (bmcorner_1 w1 B i xs ys H1.out.1 hn H.out.2.1 H.out.2.2).mono ?_
  rintro e w2 ⟨b, rfl, hb, b2, c2⟩
  have H2 : Hid (BmAt w2 B i xs ys ∧ Chg i.all w w2 ∧ V .f32 b = (Pl.axisOf (Pl.lv ys)).lo) := ⟨b2, H1.out.2.1.trans c2, hb⟩
  clear hb b2 c2
  go_wp2_with fail
  refine (bmcorner_2 w2 B i xs ys H2.out.1 hn H.out.2.1 H.out.2.2).mono ?_
  rintro e w3 ⟨c, rfl, hc, b3, c3⟩
  have H3 : Hid (BmAt w3 B i xs ys ∧ Chg i.all w w3 ∧ V .f32 c = (Pl.axisOf (Pl.lv xs)).hi) := ⟨b3, H2.out.2.1.trans c3, hc⟩
  clear hc b3 c3
  go_wp2_with fail
  refine (bmcorner_3 w3 B i xs ys H3.out.1 hn H.out.2.1 H.out.2.2).mono ?_
  rintro e w4 ⟨d, rfl, hd, b4, c4⟩
  have H4 : Hid (BmAt w4 B i xs ys ∧ Chg i.all w w4 ∧ V .f32 d = (Pl.axisOf (Pl.lv ys)).hi) := ⟨b4, H3.out.2.1.trans c4, hd⟩
  clear hd b4 c4
  go_wp2
  apply bodyPost_ret
  focus (simp [results, Try.results90, go_sem]; rfl)
  focus rfl
  exact ⟨a, b, c, d, rfl, H1.out.2.2, H2.out.2.2, H3.out.2.2, H4.out.2.2, H4.out.1, H4.out.2.1⟩
end Go.Proofs.Qxb6500343a

