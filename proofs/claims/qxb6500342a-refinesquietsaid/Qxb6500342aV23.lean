/-
  Walks 23: Owed: Get.
-/
import Derived.Test.Qxb6500342aGh
import Derived.Test.Qxb6500342aV17
import Derived.Test.Qxb6500342aPeel
namespace Go.Proofs.Qxb6500342a
open Go.RowKit
open Go.Proofs
open Pl (Hd)
open Tx (st)
set_option linter.unusedSimpArgs false
set_option linter.unusedVariables false
attribute [local go_sem] alloc_drewN setCell_drewN shape?_drewN

theorem heap_a4_1 (w : World) (a b c d : Obj) : ((((w.alloc a).alloc b).alloc c).alloc d).heap[w.heap.size + 1]? = some b := heap_alloc_lt (heap_alloc_lt (heap_alloc2 w a b))
theorem heap_a4_2 (w : World) (a b c d : Obj) : ((((w.alloc a).alloc b).alloc c).alloc d).heap[w.heap.size + 2]? = some c := by
  refine heap_alloc_lt ?_
  have := heap_alloc_new ((w.alloc a).alloc b) c
  rwa [World.size_alloc, World.size_alloc] at this
set_option maxRecDepth 100000 in
set_option maxHeartbeats 2000000 in
theorem owed_getneg (w : World) (g : Nat) (C : Array Value) (u : Nat) (H : Nat → Hd) (h : Hd) (img : ByteArray) (o : Stp) (hg : GhAt w g C u H h img) (hu : u < 256) (hk : o.k = 5) (ha : in64 o.a) (hb : in64 o.b) (hgd : ∀ i, i < 8 → u.testBit i = true → Pl.good (H i) = true) (hneg : o.a < 0) :
    Calls Try.prog 43 #[.pointer (some ⟨g, 0, none⟩), opV o] w fun e w' => e = .returned (anV ((⟨⟨2, 0, Tx.showH (Pl.zeroH)⟩, u, H⟩ : Out)).a) ∧ (∃ C', GhAt w' g C' ((⟨⟨2, 0, Tx.showH (Pl.zeroH)⟩, u, H⟩ : Out)).u ((⟨⟨2, 0, Tx.showH (Pl.zeroH)⟩, u, H⟩ : Out)).H h img) ∧ Chg [g] w w' := by
  obtain ⟨k, oa, ob, oc, os, ot⟩ := o
  simp only at *
  subst hk
  unfold opV anV
  have hbl := lt_of_heap hg.heap
  have hbl1 : g < w.heap.size + 1 := by omega
  have hbl2 : g < w.heap.size + 2 := by omega
  have hbl3 : g < w.heap.size + 3 := by omega
  have hbl1' : g < w.heap.size + 1 + 1 := by omega
  have hbl2' : g < w.heap.size + 1 + 1 + 1 := by omega
  have HG : Hid (GhAt w g C u H h img) := hg
  have gf : ∀ i, w.frozen? ⟨g, i, none⟩ = false := fun i => frozen_of hg.heap i
  have k0 : w.cell? ⟨g, 48, none⟩ = some (.int .i64 h.k) := (cell_of hg.heap _).trans hg.dk.k
  have k1 : w.cell? ⟨g, 49, none⟩ = some (.int .i64 h.d) := (cell_of hg.heap _).trans hg.dk.d
  have k2 : w.cell? ⟨g, 50, none⟩ = some (.int .i64 h.l) := (cell_of hg.heap _).trans hg.dk.l
  have k3 : w.cell? ⟨g, 51, none⟩ = some (.int .i64 h.f) := (cell_of hg.heap _).trans hg.dk.f
  have k4 : w.cell? ⟨g, 52, none⟩ = some (.int .i64 h.s) := (cell_of hg.heap _).trans hg.dk.s
  have HA : Hid (in64 oa ∧ in64 ob ∧ ∀ i, i < 8 → u.testBit i = true → Pl.good (H i) = true) := ⟨ha, hb, hgd⟩
  clear hg ha hb hgd
  go_enter Try.func43, Try.ntmps43
  go_wp2
  go_loop [5, 6, 7] (fun n f i => OwR u n f i) (fun _ _ i => (intOf i + 1).toNat)
  case atStart => exact ⟨8, by omega, rfl, by rw [(cF_8 u hu).1]; rfl, by rw [(cF_8 u hu).2]⟩
  case round =>
    obtain ⟨m, hm, rfl, rfl, rfl⟩ := hrel
    by_cases hm0 : 0 < m
    · obtain ⟨m, rfl⟩ : ∃ m', m = m' + 1 := ⟨m - 1, by omega⟩
      have gu := (HG.out.rd (n := m) (by omega)).u
      have em : (((m + 1 : Nat) : Int) - 1) = (m : Int) := by omega
      rw [em]
      have hc := cF_le u (m + 1)
      have hm8 : (m : Int) < 8 := by omega
      have hd : decide (0 ≤ (m : Int)) = true := decide_eq_true (by omega)
      cases hb : u.testBit m
      · have HT : Hid (cF u m = cF u (m + 1) ∧ lF u m = (m : Int)) := cF_off u m hu (by omega) hb
        rw [hb] at gu
        clear hb
        generalize cF u (m + 1) = c at *
        generalize lF u (m + 1) = l at *
        go_wp2
        go_round
        case rel =>
          have hrel' : OwR u (.int .i64 (c : Int)) (.int .i64 (m : Int)) (.int .i64 ((m : Int) - 1)) := ⟨m, by omega, rfl, by rw [HT.out.1], by rw [HT.out.2]⟩
          first | exact hrel' | (refine ⟨trivial, ?_⟩; (repeat apply Exists.intro); exact ⟨hrel', rfl⟩)
        case measure => first | (simp [intOf]; done) | (simp [intOf]; omega)
      · have HT : Hid (cF u m = cF u (m + 1) + 1 ∧ lF u m = lF u (m + 1)) := cF_on u m hu (by omega) hb
        rw [hb] at gu
        clear hb
        generalize cF u (m + 1) = c at *
        generalize lF u (m + 1) = l at *
        go_wp2
        go_round
        case rel =>
          have hrel' : OwR u (.int .i64 ((c : Int) + 1)) (.int .i64 l) (.int .i64 ((m : Int) - 1)) := ⟨m, by omega, rfl, by rw [HT.out.1]; go_num, by rw [HT.out.2]⟩
          first | exact hrel' | (refine ⟨trivial, ?_⟩; (repeat apply Exists.intro); exact ⟨hrel', rfl⟩)
        case measure => first | (simp [intOf]; done) | (simp [intOf]; omega)
    · have hm00 : m = 0 := by omega
      subst hm00
      obtain ⟨ec, el⟩ := cF_end u hu
      rw [ec]
      have hcl := Bd.cnt_le u
      have HF : Hid (lF u 0 = if Bd.low u < 8 then (Bd.low u : Int) else -1) := el
      clear ec el
      have t0 : decide (oa < 0) = true := decide_eq_true hneg
      generalize Bd.cnt u = c at *
      generalize lF u 0 = F at *
      clear HF
      go_wp2_with fail
      refine (showh_any Pl.zeroH hd64_zero _).mono ?_
      rintro e w1 ⟨rfl, x1⟩
      generalize hS : Tx.showH Pl.zeroH = S at *
      have HS : Hid (Tx.showH (Pl.zeroH) = S) := hS
      clear hS
      have zr : w1.heap[w.heap.size + 1]? = some (.cells anC 42) := x1.heap (heap_a4_1 w _ _ _ _)
      have za : w1.heap[w.heap.size + 2]? = some (.cells #[.int .i64 2, .int .i64 0, .int .i64 0, .string ⟨#[]⟩] 42) := x1.heap (heap_a4_2 w _ _ _ _)
      obtain ⟨zc, zf⟩ := res_cells zr
      have z0 := zc 0
      have z1 := zc 1
      have z2 := zc 2
      have z3 := zc 3
      obtain ⟨ac, af⟩ := res_cells za
      have a0 := ac 0
      have a1 := ac 1
      have a2 := ac 2
      have a3 := ac 3
      have X1 : Hid (Ext w w1) := ((((((Ext.refl w).alloc _).alloc _).alloc _).alloc _)).trans x1
      have HR : Hid (w1.heap[w.heap.size + 1]? = some (.cells anC 42)) := zr
      clear zc ac x1 zr za
      go_wp2
      have hne : w.heap.size + 1 ≠ w.heap.size + 2 := by omega
      have zr2 : (w1.setCell ⟨w.heap.size + 2, 3, none⟩ (.string (st S))).heap[w.heap.size + 1]? = some (.cells anC 42) := by rw [heap_set_ne hne]; exact HR.out
      obtain ⟨r0, r1, r2, r3⟩ := lay4 zr2 (.int .i64 2) (.int .i64 0) (.int .i64 0) (.string (st S))
      apply bodyPost_ret
      focus (simp [results, Try.results43, go_sem, r0, r1, r2, r3]; rfl)
      focus rfl
      rw [HS.out]
      have c1 : Chg [] w (w1.setCell ⟨w.heap.size + 2, 3, none⟩ (.string (st S))) := (Chg.of_ext X1.out).setCell (.inr (by simp)) _
      have c2 := (chg_set4 c1 (.inr (show w.heap.size ≤ w.heap.size + 1 by omega)) (.int .i64 2) (.int .i64 0) (.int .i64 0) (.string (st S))).ext
      exact ⟨rfl, ⟨C, HG.out.ext c2⟩, Chg.of_ext c2⟩
set_option maxRecDepth 100000 in
set_option maxHeartbeats 2000000 in
theorem owed_getbig (w : World) (g : Nat) (C : Array Value) (u : Nat) (H : Nat → Hd) (h : Hd) (img : ByteArray) (o : Stp) (hg : GhAt w g C u H h img) (hu : u < 256) (hk : o.k = 5) (ha : in64 o.a) (hb : in64 o.b) (hgd : ∀ i, i < 8 → u.testBit i = true → Pl.good (H i) = true) (hbig : 8 ≤ o.a) :
    Calls Try.prog 43 #[.pointer (some ⟨g, 0, none⟩), opV o] w fun e w' => e = .returned (anV ((⟨⟨2, 0, Tx.showH (Pl.zeroH)⟩, u, H⟩ : Out)).a) ∧ (∃ C', GhAt w' g C' ((⟨⟨2, 0, Tx.showH (Pl.zeroH)⟩, u, H⟩ : Out)).u ((⟨⟨2, 0, Tx.showH (Pl.zeroH)⟩, u, H⟩ : Out)).H h img) ∧ Chg [g] w w' := by
  obtain ⟨k, oa, ob, oc, os, ot⟩ := o
  simp only at *
  subst hk
  unfold opV anV
  have hbl := lt_of_heap hg.heap
  have hbl1 : g < w.heap.size + 1 := by omega
  have hbl2 : g < w.heap.size + 2 := by omega
  have hbl3 : g < w.heap.size + 3 := by omega
  have hbl1' : g < w.heap.size + 1 + 1 := by omega
  have hbl2' : g < w.heap.size + 1 + 1 + 1 := by omega
  have HG : Hid (GhAt w g C u H h img) := hg
  have gf : ∀ i, w.frozen? ⟨g, i, none⟩ = false := fun i => frozen_of hg.heap i
  have k0 : w.cell? ⟨g, 48, none⟩ = some (.int .i64 h.k) := (cell_of hg.heap _).trans hg.dk.k
  have k1 : w.cell? ⟨g, 49, none⟩ = some (.int .i64 h.d) := (cell_of hg.heap _).trans hg.dk.d
  have k2 : w.cell? ⟨g, 50, none⟩ = some (.int .i64 h.l) := (cell_of hg.heap _).trans hg.dk.l
  have k3 : w.cell? ⟨g, 51, none⟩ = some (.int .i64 h.f) := (cell_of hg.heap _).trans hg.dk.f
  have k4 : w.cell? ⟨g, 52, none⟩ = some (.int .i64 h.s) := (cell_of hg.heap _).trans hg.dk.s
  have HA : Hid (in64 oa ∧ in64 ob ∧ ∀ i, i < 8 → u.testBit i = true → Pl.good (H i) = true) := ⟨ha, hb, hgd⟩
  clear hg ha hb hgd
  go_enter Try.func43, Try.ntmps43
  go_wp2
  go_loop [5, 6, 7] (fun n f i => OwR u n f i) (fun _ _ i => (intOf i + 1).toNat)
  case atStart => exact ⟨8, by omega, rfl, by rw [(cF_8 u hu).1]; rfl, by rw [(cF_8 u hu).2]⟩
  case round =>
    obtain ⟨m, hm, rfl, rfl, rfl⟩ := hrel
    by_cases hm0 : 0 < m
    · obtain ⟨m, rfl⟩ : ∃ m', m = m' + 1 := ⟨m - 1, by omega⟩
      have gu := (HG.out.rd (n := m) (by omega)).u
      have em : (((m + 1 : Nat) : Int) - 1) = (m : Int) := by omega
      rw [em]
      have hc := cF_le u (m + 1)
      have hm8 : (m : Int) < 8 := by omega
      have hd : decide (0 ≤ (m : Int)) = true := decide_eq_true (by omega)
      cases hb : u.testBit m
      · have HT : Hid (cF u m = cF u (m + 1) ∧ lF u m = (m : Int)) := cF_off u m hu (by omega) hb
        rw [hb] at gu
        clear hb
        generalize cF u (m + 1) = c at *
        generalize lF u (m + 1) = l at *
        go_wp2
        go_round
        case rel =>
          have hrel' : OwR u (.int .i64 (c : Int)) (.int .i64 (m : Int)) (.int .i64 ((m : Int) - 1)) := ⟨m, by omega, rfl, by rw [HT.out.1], by rw [HT.out.2]⟩
          first | exact hrel' | (refine ⟨trivial, ?_⟩; (repeat apply Exists.intro); exact ⟨hrel', rfl⟩)
        case measure => first | (simp [intOf]; done) | (simp [intOf]; omega)
      · have HT : Hid (cF u m = cF u (m + 1) + 1 ∧ lF u m = lF u (m + 1)) := cF_on u m hu (by omega) hb
        rw [hb] at gu
        clear hb
        generalize cF u (m + 1) = c at *
        generalize lF u (m + 1) = l at *
        go_wp2
        go_round
        case rel =>
          have hrel' : OwR u (.int .i64 ((c : Int) + 1)) (.int .i64 l) (.int .i64 ((m : Int) - 1)) := ⟨m, by omega, rfl, by rw [HT.out.1]; go_num, by rw [HT.out.2]⟩
          first | exact hrel' | (refine ⟨trivial, ?_⟩; (repeat apply Exists.intro); exact ⟨hrel', rfl⟩)
        case measure => first | (simp [intOf]; done) | (simp [intOf]; omega)
    · have hm00 : m = 0 := by omega
      subst hm00
      obtain ⟨ec, el⟩ := cF_end u hu
      rw [ec]
      have hcl := Bd.cnt_le u
      have HF : Hid (lF u 0 = if Bd.low u < 8 then (Bd.low u : Int) else -1) := el
      clear ec el
      have t0 : decide (oa < 0) = false := decide_eq_false (by omega)
      have t1 : decide (8 ≤ oa) = true := decide_eq_true hbig
      generalize Bd.cnt u = c at *
      generalize lF u 0 = F at *
      clear HF
      go_wp2_with fail
      refine (showh_any Pl.zeroH hd64_zero _).mono ?_
      rintro e w1 ⟨rfl, x1⟩
      generalize hS : Tx.showH Pl.zeroH = S at *
      have HS : Hid (Tx.showH (Pl.zeroH) = S) := hS
      clear hS
      have zr : w1.heap[w.heap.size + 1]? = some (.cells anC 42) := x1.heap (heap_a4_1 w _ _ _ _)
      have za : w1.heap[w.heap.size + 2]? = some (.cells #[.int .i64 2, .int .i64 0, .int .i64 0, .string ⟨#[]⟩] 42) := x1.heap (heap_a4_2 w _ _ _ _)
      obtain ⟨zc, zf⟩ := res_cells zr
      have z0 := zc 0
      have z1 := zc 1
      have z2 := zc 2
      have z3 := zc 3
      obtain ⟨ac, af⟩ := res_cells za
      have a0 := ac 0
      have a1 := ac 1
      have a2 := ac 2
      have a3 := ac 3
      have X1 : Hid (Ext w w1) := ((((((Ext.refl w).alloc _).alloc _).alloc _).alloc _)).trans x1
      have HR : Hid (w1.heap[w.heap.size + 1]? = some (.cells anC 42)) := zr
      clear zc ac x1 zr za
      go_wp2
      have hne : w.heap.size + 1 ≠ w.heap.size + 2 := by omega
      have zr2 : (w1.setCell ⟨w.heap.size + 2, 3, none⟩ (.string (st S))).heap[w.heap.size + 1]? = some (.cells anC 42) := by rw [heap_set_ne hne]; exact HR.out
      obtain ⟨r0, r1, r2, r3⟩ := lay4 zr2 (.int .i64 2) (.int .i64 0) (.int .i64 0) (.string (st S))
      apply bodyPost_ret
      focus (simp [results, Try.results43, go_sem, r0, r1, r2, r3]; rfl)
      focus rfl
      rw [HS.out]
      have c1 : Chg [] w (w1.setCell ⟨w.heap.size + 2, 3, none⟩ (.string (st S))) := (Chg.of_ext X1.out).setCell (.inr (by simp)) _
      have c2 := (chg_set4 c1 (.inr (show w.heap.size ≤ w.heap.size + 1 by omega)) (.int .i64 2) (.int .i64 0) (.int .i64 0) (.string (st S))).ext
      exact ⟨rfl, ⟨C, HG.out.ext c2⟩, Chg.of_ext c2⟩
set_option maxRecDepth 100000 in
set_option maxHeartbeats 2000000 in
theorem owed_getoff (w : World) (g : Nat) (C : Array Value) (u : Nat) (H : Nat → Hd) (h : Hd) (img : ByteArray) (o : Stp) (hg : GhAt w g C u H h img) (hu : u < 256) (hk : o.k = 5) (ha : in64 o.a) (hb : in64 o.b) (hgd : ∀ i, i < 8 → u.testBit i = true → Pl.good (H i) = true) (n : Nat) (hn : n < 8) (hoa : o.a = n) (hbit : u.testBit n = false) :
    Calls Try.prog 43 #[.pointer (some ⟨g, 0, none⟩), opV o] w fun e w' => e = .returned (anV ((⟨⟨8, 0, Tx.showH (Pl.zeroH)⟩, u, H⟩ : Out)).a) ∧ (∃ C', GhAt w' g C' ((⟨⟨8, 0, Tx.showH (Pl.zeroH)⟩, u, H⟩ : Out)).u ((⟨⟨8, 0, Tx.showH (Pl.zeroH)⟩, u, H⟩ : Out)).H h img) ∧ Chg [g] w w' := by
  obtain ⟨k, oa, ob, oc, os, ot⟩ := o
  simp only at *
  subst hk
  unfold opV anV
  have hbl := lt_of_heap hg.heap
  have hbl1 : g < w.heap.size + 1 := by omega
  have hbl2 : g < w.heap.size + 2 := by omega
  have hbl3 : g < w.heap.size + 3 := by omega
  have hbl1' : g < w.heap.size + 1 + 1 := by omega
  have hbl2' : g < w.heap.size + 1 + 1 + 1 := by omega
  have HG : Hid (GhAt w g C u H h img) := hg
  have gf : ∀ i, w.frozen? ⟨g, i, none⟩ = false := fun i => frozen_of hg.heap i
  have k0 : w.cell? ⟨g, 48, none⟩ = some (.int .i64 h.k) := (cell_of hg.heap _).trans hg.dk.k
  have k1 : w.cell? ⟨g, 49, none⟩ = some (.int .i64 h.d) := (cell_of hg.heap _).trans hg.dk.d
  have k2 : w.cell? ⟨g, 50, none⟩ = some (.int .i64 h.l) := (cell_of hg.heap _).trans hg.dk.l
  have k3 : w.cell? ⟨g, 51, none⟩ = some (.int .i64 h.f) := (cell_of hg.heap _).trans hg.dk.f
  have k4 : w.cell? ⟨g, 52, none⟩ = some (.int .i64 h.s) := (cell_of hg.heap _).trans hg.dk.s
  have HA : Hid (in64 oa ∧ in64 ob ∧ ∀ i, i < 8 → u.testBit i = true → Pl.good (H i) = true) := ⟨ha, hb, hgd⟩
  clear hg ha hb hgd
  go_enter Try.func43, Try.ntmps43
  go_wp2
  go_loop [5, 6, 7] (fun n f i => OwR u n f i) (fun _ _ i => (intOf i + 1).toNat)
  case atStart => exact ⟨8, by omega, rfl, by rw [(cF_8 u hu).1]; rfl, by rw [(cF_8 u hu).2]⟩
  case round =>
    obtain ⟨m, hm, rfl, rfl, rfl⟩ := hrel
    by_cases hm0 : 0 < m
    · obtain ⟨m, rfl⟩ : ∃ m', m = m' + 1 := ⟨m - 1, by omega⟩
      have gu := (HG.out.rd (n := m) (by omega)).u
      have em : (((m + 1 : Nat) : Int) - 1) = (m : Int) := by omega
      rw [em]
      have hc := cF_le u (m + 1)
      have hm8 : (m : Int) < 8 := by omega
      have hd : decide (0 ≤ (m : Int)) = true := decide_eq_true (by omega)
      cases hb : u.testBit m
      · have HT : Hid (cF u m = cF u (m + 1) ∧ lF u m = (m : Int)) := cF_off u m hu (by omega) hb
        rw [hb] at gu
        clear hb
        generalize cF u (m + 1) = c at *
        generalize lF u (m + 1) = l at *
        go_wp2
        go_round
        case rel =>
          have hrel' : OwR u (.int .i64 (c : Int)) (.int .i64 (m : Int)) (.int .i64 ((m : Int) - 1)) := ⟨m, by omega, rfl, by rw [HT.out.1], by rw [HT.out.2]⟩
          first | exact hrel' | (refine ⟨trivial, ?_⟩; (repeat apply Exists.intro); exact ⟨hrel', rfl⟩)
        case measure => first | (simp [intOf]; done) | (simp [intOf]; omega)
      · have HT : Hid (cF u m = cF u (m + 1) + 1 ∧ lF u m = lF u (m + 1)) := cF_on u m hu (by omega) hb
        rw [hb] at gu
        clear hb
        generalize cF u (m + 1) = c at *
        generalize lF u (m + 1) = l at *
        go_wp2
        go_round
        case rel =>
          have hrel' : OwR u (.int .i64 ((c : Int) + 1)) (.int .i64 l) (.int .i64 ((m : Int) - 1)) := ⟨m, by omega, rfl, by rw [HT.out.1]; go_num, by rw [HT.out.2]⟩
          first | exact hrel' | (refine ⟨trivial, ?_⟩; (repeat apply Exists.intro); exact ⟨hrel', rfl⟩)
        case measure => first | (simp [intOf]; done) | (simp [intOf]; omega)
    · have hm00 : m = 0 := by omega
      subst hm00
      obtain ⟨ec, el⟩ := cF_end u hu
      rw [ec]
      have hcl := Bd.cnt_le u
      have HF : Hid (lF u 0 = if Bd.low u < 8 then (Bd.low u : Int) else -1) := el
      clear ec el
      subst hoa
      have t0 : decide ((n : Int) < 0) = false := decide_eq_false (by omega)
      have t1 : decide (8 ≤ (n : Int)) = false := decide_eq_false (by omega)
      have hn8 : (n : Int) < 8 := by omega
      obtain ⟨q0, q1, q2, q3, q4, q5⟩ := HG.out.rd hn
      rw [hbit] at q0
      generalize Bd.cnt u = c at *
      generalize lF u 0 = F at *
      clear HF
      go_wp2_with fail
      go_region
      go_wp2_with fail
      refine (showh_any Pl.zeroH hd64_zero _).mono ?_
      rintro e w1 ⟨rfl, x1⟩
      generalize hS : Tx.showH Pl.zeroH = S at *
      have HS : Hid (Tx.showH (Pl.zeroH) = S) := hS
      clear hS
      have zr : w1.heap[w.heap.size + 1]? = some (.cells anC 42) := x1.heap (heap_a4_1 w _ _ _ _)
      have za : w1.heap[w.heap.size + 2]? = some (.cells #[.int .i64 8, .int .i64 0, .int .i64 0, .string ⟨#[]⟩] 42) := x1.heap (heap_a4_2 w _ _ _ _)
      obtain ⟨zc, zf⟩ := res_cells zr
      have z0 := zc 0
      have z1 := zc 1
      have z2 := zc 2
      have z3 := zc 3
      obtain ⟨ac, af⟩ := res_cells za
      have a0 := ac 0
      have a1 := ac 1
      have a2 := ac 2
      have a3 := ac 3
      have X1 : Hid (Ext w w1) := ((((((Ext.refl w).alloc _).alloc _).alloc _).alloc _).drew).trans x1
      have HR : Hid (w1.heap[w.heap.size + 1]? = some (.cells anC 42)) := zr
      clear zc ac x1 zr za
      go_wp2
      have hne : w.heap.size + 1 ≠ w.heap.size + 2 := by omega
      have zr2 : (w1.setCell ⟨w.heap.size + 2, 3, none⟩ (.string (st S))).heap[w.heap.size + 1]? = some (.cells anC 42) := by rw [heap_set_ne hne]; exact HR.out
      obtain ⟨r0, r1, r2, r3⟩ := lay4 zr2 (.int .i64 8) (.int .i64 0) (.int .i64 0) (.string (st S))
      apply bodyPost_ret
      focus (simp [results, Try.results43, go_sem, r0, r1, r2, r3]; rfl)
      focus rfl
      rw [HS.out]
      have c1 : Chg [] w (w1.setCell ⟨w.heap.size + 2, 3, none⟩ (.string (st S))) := (Chg.of_ext X1.out).setCell (.inr (by simp)) _
      have c2 := (chg_set4 c1 (.inr (show w.heap.size ≤ w.heap.size + 1 by omega)) (.int .i64 8) (.int .i64 0) (.int .i64 0) (.string (st S))).ext
      exact ⟨rfl, ⟨C, HG.out.ext c2⟩, Chg.of_ext c2⟩
set_option maxRecDepth 100000 in
set_option maxHeartbeats 2000000 in
theorem owed_geton (w : World) (g : Nat) (C : Array Value) (u : Nat) (H : Nat → Hd) (h : Hd) (img : ByteArray) (o : Stp) (hg : GhAt w g C u H h img) (hu : u < 256) (hk : o.k = 5) (ha : in64 o.a) (hb : in64 o.b) (hgd : ∀ i, i < 8 → u.testBit i = true → Pl.good (H i) = true) (n : Nat) (hn : n < 8) (hoa : o.a = n) (hbit : u.testBit n = true) :
    Calls Try.prog 43 #[.pointer (some ⟨g, 0, none⟩), opV o] w fun e w' => e = .returned (anV ((⟨⟨0, 0, Tx.showH (H n)⟩, u, H⟩ : Out)).a) ∧ (∃ C', GhAt w' g C' ((⟨⟨0, 0, Tx.showH (H n)⟩, u, H⟩ : Out)).u ((⟨⟨0, 0, Tx.showH (H n)⟩, u, H⟩ : Out)).H h img) ∧ Chg [g] w w' := by
  obtain ⟨k, oa, ob, oc, os, ot⟩ := o
  simp only at *
  subst hk
  unfold opV anV
  have hbl := lt_of_heap hg.heap
  have hbl1 : g < w.heap.size + 1 := by omega
  have hbl2 : g < w.heap.size + 2 := by omega
  have hbl3 : g < w.heap.size + 3 := by omega
  have hbl1' : g < w.heap.size + 1 + 1 := by omega
  have hbl2' : g < w.heap.size + 1 + 1 + 1 := by omega
  have HG : Hid (GhAt w g C u H h img) := hg
  have gf : ∀ i, w.frozen? ⟨g, i, none⟩ = false := fun i => frozen_of hg.heap i
  have k0 : w.cell? ⟨g, 48, none⟩ = some (.int .i64 h.k) := (cell_of hg.heap _).trans hg.dk.k
  have k1 : w.cell? ⟨g, 49, none⟩ = some (.int .i64 h.d) := (cell_of hg.heap _).trans hg.dk.d
  have k2 : w.cell? ⟨g, 50, none⟩ = some (.int .i64 h.l) := (cell_of hg.heap _).trans hg.dk.l
  have k3 : w.cell? ⟨g, 51, none⟩ = some (.int .i64 h.f) := (cell_of hg.heap _).trans hg.dk.f
  have k4 : w.cell? ⟨g, 52, none⟩ = some (.int .i64 h.s) := (cell_of hg.heap _).trans hg.dk.s
  have HA : Hid (in64 oa ∧ in64 ob ∧ ∀ i, i < 8 → u.testBit i = true → Pl.good (H i) = true) := ⟨ha, hb, hgd⟩
  clear hg ha hb hgd
  go_enter Try.func43, Try.ntmps43
  go_wp2
  go_loop [5, 6, 7] (fun n f i => OwR u n f i) (fun _ _ i => (intOf i + 1).toNat)
  case atStart => exact ⟨8, by omega, rfl, by rw [(cF_8 u hu).1]; rfl, by rw [(cF_8 u hu).2]⟩
  case round =>
    obtain ⟨m, hm, rfl, rfl, rfl⟩ := hrel
    by_cases hm0 : 0 < m
    · obtain ⟨m, rfl⟩ : ∃ m', m = m' + 1 := ⟨m - 1, by omega⟩
      have gu := (HG.out.rd (n := m) (by omega)).u
      have em : (((m + 1 : Nat) : Int) - 1) = (m : Int) := by omega
      rw [em]
      have hc := cF_le u (m + 1)
      have hm8 : (m : Int) < 8 := by omega
      have hd : decide (0 ≤ (m : Int)) = true := decide_eq_true (by omega)
      cases hb : u.testBit m
      · have HT : Hid (cF u m = cF u (m + 1) ∧ lF u m = (m : Int)) := cF_off u m hu (by omega) hb
        rw [hb] at gu
        clear hb
        generalize cF u (m + 1) = c at *
        generalize lF u (m + 1) = l at *
        go_wp2
        go_round
        case rel =>
          have hrel' : OwR u (.int .i64 (c : Int)) (.int .i64 (m : Int)) (.int .i64 ((m : Int) - 1)) := ⟨m, by omega, rfl, by rw [HT.out.1], by rw [HT.out.2]⟩
          first | exact hrel' | (refine ⟨trivial, ?_⟩; (repeat apply Exists.intro); exact ⟨hrel', rfl⟩)
        case measure => first | (simp [intOf]; done) | (simp [intOf]; omega)
      · have HT : Hid (cF u m = cF u (m + 1) + 1 ∧ lF u m = lF u (m + 1)) := cF_on u m hu (by omega) hb
        rw [hb] at gu
        clear hb
        generalize cF u (m + 1) = c at *
        generalize lF u (m + 1) = l at *
        go_wp2
        go_round
        case rel =>
          have hrel' : OwR u (.int .i64 ((c : Int) + 1)) (.int .i64 l) (.int .i64 ((m : Int) - 1)) := ⟨m, by omega, rfl, by rw [HT.out.1]; go_num, by rw [HT.out.2]⟩
          first | exact hrel' | (refine ⟨trivial, ?_⟩; (repeat apply Exists.intro); exact ⟨hrel', rfl⟩)
        case measure => first | (simp [intOf]; done) | (simp [intOf]; omega)
    · have hm00 : m = 0 := by omega
      subst hm00
      obtain ⟨ec, el⟩ := cF_end u hu
      rw [ec]
      have hcl := Bd.cnt_le u
      have HF : Hid (lF u 0 = if Bd.low u < 8 then (Bd.low u : Int) else -1) := el
      clear ec el
      subst hoa
      have t0 : decide ((n : Int) < 0) = false := decide_eq_false (by omega)
      have t1 : decide (8 ≤ (n : Int)) = false := decide_eq_false (by omega)
      have hn8 : (n : Int) < 8 := by omega
      obtain ⟨q0, q1, q2, q3, q4, q5⟩ := HG.out.rd hn
      rw [hbit] at q0
      generalize Bd.cnt u = c at *
      generalize lF u 0 = F at *
      clear HF
      go_wp2_with fail
      go_region
      go_wp2_with fail
      go_region
      go_wp2_with fail
      refine (showh_any (H n) (hd64_good (HA.out.2.2 n hn hbit)) _).mono ?_
      rintro e w1 ⟨rfl, x1⟩
      generalize hS : Tx.showH (H n) = S at *
      have HS : Hid (Tx.showH (H n) = S) := hS
      clear hS
      have zr : w1.heap[w.heap.size + 1]? = some (.cells anC 42) := x1.heap (heap_a4_1 w _ _ _ _)
      have za : w1.heap[w.heap.size + 2]? = some (.cells #[.int .i64 0, .int .i64 0, .int .i64 0, .string ⟨#[]⟩] 42) := x1.heap (heap_a4_2 w _ _ _ _)
      obtain ⟨zc, zf⟩ := res_cells zr
      have z0 := zc 0
      have z1 := zc 1
      have z2 := zc 2
      have z3 := zc 3
      obtain ⟨ac, af⟩ := res_cells za
      have a0 := ac 0
      have a1 := ac 1
      have a2 := ac 2
      have a3 := ac 3
      have X1 : Hid (Ext w w1) := ((((((Ext.refl w).alloc _).alloc _).alloc _).alloc _).drew.drew).trans x1
      have HR : Hid (w1.heap[w.heap.size + 1]? = some (.cells anC 42)) := zr
      clear zc ac x1 zr za
      go_wp2
      have hne : w.heap.size + 1 ≠ w.heap.size + 2 := by omega
      have zr2 : (w1.setCell ⟨w.heap.size + 2, 3, none⟩ (.string (st S))).heap[w.heap.size + 1]? = some (.cells anC 42) := by rw [heap_set_ne hne]; exact HR.out
      obtain ⟨r0, r1, r2, r3⟩ := lay4 zr2 (.int .i64 0) (.int .i64 0) (.int .i64 0) (.string (st S))
      apply bodyPost_ret
      focus (simp [results, Try.results43, go_sem, r0, r1, r2, r3]; rfl)
      focus rfl
      rw [HS.out]
      have c1 : Chg [] w (w1.setCell ⟨w.heap.size + 2, 3, none⟩ (.string (st S))) := (Chg.of_ext X1.out).setCell (.inr (by simp)) _
      have c2 := (chg_set4 c1 (.inr (show w.heap.size ≤ w.heap.size + 1 by omega)) (.int .i64 0) (.int .i64 0) (.int .i64 0) (.string (st S))).ext
      exact ⟨rfl, ⟨C, HG.out.ext c2⟩, Chg.of_ext c2⟩
end Go.Proofs.Qxb6500342a
