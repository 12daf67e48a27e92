/-
  Walks 25: Owed: Bump.
-/
import Derived.Test.Qxb6500342aGh
import Derived.Test.Qxb6500342aV17
import Derived.Test.Qxb6500342aPeel
namespace Go.Proofs.Qxb6500342a
open Go.RowKit
open Go.Proofs
open Pl (Hd)
open Tx (st)
set_option linter.unusedSimpArgs false
set_option linter.unusedVariables false
attribute [local go_sem] alloc_drewN setCell_drewN shape?_drewN

set_option maxRecDepth 100000 in
set_option maxHeartbeats 2000000 in
theorem owed_bumpon (w : World) (g : Nat) (C : Array Value) (u : Nat) (H : Nat → Hd) (h : Hd) (img : ByteArray) (o : Stp) (hg : GhAt w g C u H h img) (hu : u < 256) (hk : o.k = 7) (ha : in64 o.a) (hb : in64 o.b) (hgd : ∀ i, i < 8 → u.testBit i = true → Pl.good (H i) = true) (n : Nat) (hn : n < 8) (hoa : o.a = n) (hbit : u.testBit n = true) :
    Calls Try.prog 43 #[.pointer (some ⟨g, 0, none⟩), opV o] w fun e w' => e = .returned (anV ((⟨⟨0, 0, []⟩, u, upd H n (Pl.bumpH (H n) o.b)⟩ : Out)).a) ∧ (∃ C', GhAt w' g C' ((⟨⟨0, 0, []⟩, u, upd H n (Pl.bumpH (H n) o.b)⟩ : Out)).u ((⟨⟨0, 0, []⟩, u, upd H n (Pl.bumpH (H n) o.b)⟩ : Out)).H h img) ∧ Chg [g] w w' := by
  obtain ⟨k, oa, ob, oc, os, ot⟩ := o
  simp only at *
  subst hk
  unfold opV anV
  have hbl := lt_of_heap hg.heap
  have hbl1 : g < w.heap.size + 1 := by omega
  have hbl2 : g < w.heap.size + 2 := by omega
  have hbl3 : g < w.heap.size + 3 := by omega
  have hbl1' : g < w.heap.size + 1 + 1 := by omega
  have hbl2' : g < w.heap.size + 1 + 1 + 1 := by omega
  have HG : Hid (GhAt w g C u H h img) := hg
  have gf : ∀ i, w.frozen? ⟨g, i, none⟩ = false := fun i => frozen_of hg.heap i
  have k0 : w.cell? ⟨g, 48, none⟩ = some (.int .i64 h.k) := (cell_of hg.heap _).trans hg.dk.k
  have k1 : w.cell? ⟨g, 49, none⟩ = some (.int .i64 h.d) := (cell_of hg.heap _).trans hg.dk.d
  have k2 : w.cell? ⟨g, 50, none⟩ = some (.int .i64 h.l) := (cell_of hg.heap _).trans hg.dk.l
  have k3 : w.cell? ⟨g, 51, none⟩ = some (.int .i64 h.f) := (cell_of hg.heap _).trans hg.dk.f
  have k4 : w.cell? ⟨g, 52, none⟩ = some (.int .i64 h.s) := (cell_of hg.heap _).trans hg.dk.s
  have HA : Hid (in64 oa ∧ in64 ob ∧ ∀ i, i < 8 → u.testBit i = true → Pl.good (H i) = true) := ⟨ha, hb, hgd⟩
  clear hg ha hb hgd
  go_enter Try.func43, Try.ntmps43
  go_wp2
  go_loop [5, 6, 7] (fun n f i => OwR u n f i) (fun _ _ i => (intOf i + 1).toNat)
  case atStart => exact ⟨8, by omega, rfl, by rw [(cF_8 u hu).1]; rfl, by rw [(cF_8 u hu).2]⟩
  case round =>
    obtain ⟨m, hm, rfl, rfl, rfl⟩ := hrel
    by_cases hm0 : 0 < m
    · obtain ⟨m, rfl⟩ : ∃ m', m = m' + 1 := ⟨m - 1, by omega⟩
      have gu := (HG.out.rd (n := m) (by omega)).u
      have em : (((m + 1 : Nat) : Int) - 1) = (m : Int) := by omega
      rw [em]
      have hc := cF_le u (m + 1)
      have hm8 : (m : Int) < 8 := by omega
      have hd : decide (0 ≤ (m : Int)) = true := decide_eq_true (by omega)
      cases hb : u.testBit m
      · have HT : Hid (cF u m = cF u (m + 1) ∧ lF u m = (m : Int)) := cF_off u m hu (by omega) hb
        rw [hb] at gu
        clear hb
        generalize cF u (m + 1) = c at *
        generalize lF u (m + 1) = l at *
        go_wp2
        go_round
        case rel =>
          have hrel' : OwR u (.int .i64 (c : Int)) (.int .i64 (m : Int)) (.int .i64 ((m : Int) - 1)) := ⟨m, by omega, rfl, by rw [HT.out.1], by rw [HT.out.2]⟩
          first | exact hrel' | (refine ⟨trivial, ?_⟩; (repeat apply Exists.intro); exact ⟨hrel', rfl⟩)
        case measure => first | (simp [intOf]; done) | (simp [intOf]; omega)
      · have HT : Hid (cF u m = cF u (m + 1) + 1 ∧ lF u m = lF u (m + 1)) := cF_on u m hu (by omega) hb
        rw [hb] at gu
        clear hb
        generalize cF u (m + 1) = c at *
        generalize lF u (m + 1) = l at *
        go_wp2
        go_round
        case rel =>
          have hrel' : OwR u (.int .i64 ((c : Int) + 1)) (.int .i64 l) (.int .i64 ((m : Int) - 1)) := ⟨m, by omega, rfl, by rw [HT.out.1]; go_num, by rw [HT.out.2]⟩
          first | exact hrel' | (refine ⟨trivial, ?_⟩; (repeat apply Exists.intro); exact ⟨hrel', rfl⟩)
        case measure => first | (simp [intOf]; done) | (simp [intOf]; omega)
    · have hm00 : m = 0 := by omega
      subst hm00
      obtain ⟨ec, el⟩ := cF_end u hu
      rw [ec]
      have hcl := Bd.cnt_le u
      have HF : Hid (lF u 0 = if Bd.low u < 8 then (Bd.low u : Int) else -1) := el
      clear ec el
      subst hoa
      have t0 : decide ((n : Int) < 0) = false := decide_eq_false (by omega)
      have t1 : decide (8 ≤ (n : Int)) = false := decide_eq_false (by omega)
      have hn8 : (n : Int) < 8 := by omega
      obtain ⟨q0, q1, q2, q3, q4, q5⟩ := HG.out.rd hn
      rw [hbit] at q0
      generalize Bd.cnt u = c at *
      generalize lF u 0 = F at *
      clear HF
      go_wp2_with fail
      go_region
      go_wp2_with fail
      obtain ⟨W0, hW0⟩ : ∃ W0, W0 = ((((w.alloc (.cells #[.int .i64 7, .int .i64 n, .int .i64 ob, .int .i64 oc, .string os, .string ot] 38)).alloc (.cells anC 42)).alloc (.cells anC 42)).alloc (.cells #[.int .i64 0, .int .i64 0, .int .i64 0, .int .i64 0, .int .i64 0] 27)).drew := ⟨_, rfl⟩
      have e0 : Ext w W0 := by rw [hW0]; exact (((((Ext.refl w).alloc _).alloc _).alloc _).alloc _).drew
      have b0 : W0.heap[w.heap.size]? = some (.cells #[.int .i64 7, .int .i64 n, .int .i64 ob, .int .i64 oc, .string os, .string ot] 38) := by
        rw [hW0]; exact heap_alloc_lt (heap_alloc_lt (heap_alloc_lt (heap_alloc_new w _)))
      have b1 : W0.heap[w.heap.size + 1]? = some (.cells anC 42) := by rw [hW0]; exact heap_alloc_lt (heap_alloc_lt (heap_alloc2 w _ _))
      have b2 : W0.heap[w.heap.size + 2]? = some (.cells anC 42) := by
        rw [hW0]
        refine heap_alloc_lt ?_
        have := heap_alloc_new ((w.alloc (.cells #[.int .i64 7, .int .i64 n, .int .i64 ob, .int .i64 oc, .string os, .string ot] 38)).alloc (.cells anC 42)) (.cells anC 42)
        rwa [World.size_alloc, World.size_alloc] at this
      have HW : Hid (Ext w W0 ∧ W0.heap[w.heap.size]? = some (.cells #[.int .i64 7, .int .i64 n, .int .i64 ob, .int .i64 oc, .string os, .string ot] 38) ∧ W0.heap[w.heap.size + 1]? = some (.cells anC 42) ∧ W0.heap[w.heap.size + 2]? = some (.cells anC 42)) := ⟨e0, b0, b1, b2⟩
      have y1 : ∀ w', Ext W0 w' → w'.cell? ⟨w.heap.size, 1, none⟩ = some (.int .i64 n) := fun w' hx => cell_of (hx.heap b0) 1
      have y2 : ∀ w', Ext W0 w' → w'.cell? ⟨w.heap.size, 2, none⟩ = some (.int .i64 ob) := fun w' hx => cell_of (hx.heap b0) 2
      have v1 : ∀ w', Ext W0 w' → w'.cell? ⟨g, 8 + n * 5, none⟩ = some (.int .i64 (H n).k) := fun w' hx => ((HG.out.ext (e0.trans hx)).rd hn).k
      have v2 : ∀ w', Ext W0 w' → w'.cell? ⟨g, 8 + n * 5 + 1, none⟩ = some (.int .i64 (H n).d) := fun w' hx => ((HG.out.ext (e0.trans hx)).rd hn).d
      have v3 : ∀ w', Ext W0 w' → w'.cell? ⟨g, 8 + n * 5 + 2, none⟩ = some (.int .i64 (H n).l) := fun w' hx => ((HG.out.ext (e0.trans hx)).rd hn).l
      have v4 : ∀ w', Ext W0 w' → w'.cell? ⟨g, 8 + n * 5 + 3, none⟩ = some (.int .i64 (H n).f) := fun w' hx => ((HG.out.ext (e0.trans hx)).rd hn).f
      have v5 : ∀ w', Ext W0 w' → w'.cell? ⟨g, 8 + n * 5 + 4, none⟩ = some (.int .i64 (H n).s) := fun w' hx => ((HG.out.ext (e0.trans hx)).rd hn).s
      rw [← hW0]
      clear hW0 b0 b1 b2 e0
      refine Peel.region 16 2 1 [0, 1, 2, 3, 4, 5, 6, 7, 8, 9, 10, 11, 13, 14] (Ext W0) (by kernel_rfl) (by kernel_rfl) (Ext.refl W0).drew ?_
      simp only [Peel.pick, List.filterMap_cons, List.filterMap_nil, List.getElem?_cons_zero, List.getElem?_cons_succ]
      repeat (first
        | (refine Peel.q_move _ (by first | exact .inl rfl | exact .inr rfl) rfl ?_; simp only [Act.put, List.setIfInBounds_toArray, List.set, Act.eval, List.getD_toArray, List.getD_cons_zero, List.getD_cons_succ])
        | (apply Peel.q_value; rfl; (intro w' hw'; simp [go_sem, hw', y1, y2, v1, v2, v3, v4, v5, hn8]; rfl); simp only [Act.put, List.setIfInBounds_toArray, List.set]))
      refine Peel.any_one (i := 12) (by kernel_rfl) ?_
      refine Peel.x_call rfl (f := 61) (args := #[hdV (H n), .int .i64 ob]) rfl (by simp [go_sem, hdV]) ?_
      refine (bumped_any (H n) (HA.out.2.2 n hn hbit) ob HA.out.2.1 _).mono ?_
      rintro e w1 ⟨rfl, x1⟩
      refine ⟨_, rfl, ((Ext.refl W0).drew).trans x1, ?_⟩
      simp only [Act.put, List.setIfInBounds_toArray, List.set]
      refine Peel.any_one (i := 15) (by kernel_rfl) ?_
      refine Peel.x_value rfl rfl (w' := w1) (v := .pointer (some ⟨g, 8 + n * 5, none⟩)) (by simp [go_sem, hn8]; try rfl) (((Ext.refl W0).drew).trans x1) ?_
      simp only [Act.put, List.setIfInBounds_toArray, List.set]
      refine Peel.any_end (by kernel_rfl) rfl (by kernel_rfl) ?_
      simp only [List.drop]
      have b1 : w1.heap[w.heap.size + 1]? = some (.cells anC 42) := (((Ext.refl W0).drew).trans x1).heap HW.out.2.2.1
      have b2 : w1.heap[w.heap.size + 2]? = some (.cells anC 42) := (((Ext.refl W0).drew).trans x1).heap HW.out.2.2.2
      have X1 : Hid (Ext w w1 ∧ w1.heap[w.heap.size + 1]? = some (.cells anC 42)) := ⟨HW.out.1.trans (((Ext.refl W0).drew).trans x1), b1⟩
      have kd : w1.cell? ⟨w.heap.size, 0, none⟩ = some (.int .i64 7) := cell_of ((((Ext.refl W0).drew).trans x1).heap HW.out.2.1) 0
      have g1 := HG.out.ext X1.out.1
      obtain ⟨s0, s1, s2, s3, s4, s5⟩ := g1.rd hn
      have sf : ∀ i, w1.frozen? ⟨g, i, none⟩ = false := fun i => frozen_of g1.heap i
      obtain ⟨zc, zf⟩ := res_cells b1
      have z0 := zc 0
      have z1 := zc 1
      have z2 := zc 2
      have z3 := zc 3
      obtain ⟨ac, af⟩ := res_cells b2
      have a0 := ac 0
      have a1 := ac 1
      have a2 := ac 2
      have a3 := ac 3
      clear zc ac b1 b2 g1 y1 y2 v1 v2 v3 v4 v5 x1
      have HB : Hid (Pl.bumpH (H n) ob = Pl.bumpH (H n) ob) := rfl
      generalize hX : Pl.bumpH (H n) ob = X at *
      have HX : Hid (Pl.bumpH (H n) ob = X) := hX
      clear hX HB
      unfold hdV
      have hg1 : g ≠ w.heap.size := by omega
      have hg2 : g ≠ w.heap.size + 1 := by omega
      have hg3 : g ≠ w.heap.size + 2 := by omega
      have hg1' : w.heap.size ≠ g := by omega
      have hg2' : w.heap.size + 1 ≠ g := by omega
      have hg3' : w.heap.size + 2 ≠ g := by omega
      go_wp2
      have zr : (((((w1.setCell ⟨g, 8 + n * 5, none⟩ (.int .i64 X.k)).setCell ⟨g, 8 + n * 5 + 1, none⟩ (.int .i64 X.d)).setCell ⟨g, 8 + n * 5 + 2, none⟩ (.int .i64 X.l)).setCell ⟨g, 8 + n * 5 + 3, none⟩ (.int .i64 X.f)).setCell ⟨g, 8 + n * 5 + 4, none⟩ (.int .i64 X.s)).heap[w.heap.size + 1]? = some (.cells anC 42) := by rw [heap_set5_ne hg2' X]; exact X1.out.2
      obtain ⟨r0, r1, r2, r3⟩ := lay4 zr (.int .i64 0) (.int .i64 0) (.int .i64 0) (.string ⟨#[]⟩)
      apply bodyPost_ret
      focus (simp [results, Try.results43, go_sem, r0, r1, r2, r3]; rfl)
      focus rfl
      rw [HX.out]
      have g1 := HG.out.ext X1.out.1
      have hh := (heap_set4 hg2 (.int .i64 0) (.int .i64 0) (.int .i64 0) (.string ⟨#[]⟩)).trans (heap_set5 g1.heap (8 + n * 5) X)
      have c2 := chg_set4 (chg_set5 (b := g) (p := 8 + n * 5) (Chg.of_ext X1.out.1 : Chg [g] w w1) (.inl (by simp)) X) (.inr (show w.heap.size ≤ w.heap.size + 1 by omega)) (.int .i64 0) (.int .i64 0) (.int .i64 0) (.string ⟨#[]⟩)
      exact ⟨rfl, ⟨_, g1.hd hn X hh⟩, c2⟩
end Go.Proofs.Qxb6500342a
