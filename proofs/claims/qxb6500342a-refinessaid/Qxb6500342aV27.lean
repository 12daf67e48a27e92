/-
  Walks 27: Kept over Owed's five kinds.
-/
import Derived.Test.Qxb6500342aV26
namespace Go.Proofs.Qxb6500342a
open Go.RowKit
open Go.Proofs
open Pl (Hd)
open Tx (st)
set_option linter.unusedSimpArgs false
set_option linter.unusedVariables false
attribute [local go_sem] alloc_drewN setCell_drewN shape?_drewN

set_option maxRecDepth 100000 in
set_option maxHeartbeats 2000000 in
theorem kept_five (w : World) (xp : Value) (g : Nat) (C : Array Value) (u : Nat) (H : Nat → Hd) (h : Hd) (img : ByteArray) (o : Stp) (hg : GhAt w g C u H h img) (hu : u < 256) (ha : in64 o.a) (hb : in64 o.b) (hgd : ∀ i, i < 8 → u.testBit i = true → Pl.good (H i) = true) (hk : five o.k) :
    Calls Try.prog 30 #[xp, .pointer (some ⟨g, 0, none⟩), opV o, anV (step u H h img o).a] w fun e w' => e = .returned (.bool true) ∧ (∃ C', GhAt w' g C' (step u H h img o).u (step u H h img o).H h img) ∧ Chg [g] w w' := by
  have HO : Hid (∀ w1, Ext w w1 → Calls Try.prog 43 #[.pointer (some ⟨g, 0, none⟩), opV o] w1 fun e w' => e = .returned (anV (step u H h img o).a) ∧ (∃ C', GhAt w' g C' (step u H h img o).u (step u H h img o).H h img) ∧ Chg [g] w1 w') :=
    fun w1 hx => owed_any w1 g C u H h img o (hg.ext hx) hu ha hb hgd hk
  have hgl := lt_of_heap hg.heap
  clear hg hgd ha hb
  generalize step u H h img o = S at *
  obtain ⟨⟨ae, an, ax⟩, su, sH⟩ := S
  simp only at HO ⊢
  obtain ⟨k, oa, ob, oc, os, ot⟩ := o
  simp only at hk
  unfold opV anV at *
  rcases hk with rfl | rfl | rfl | rfl | rfl
  · go_enter Try.func30, Try.ntmps30
    go_wp2_with fail
    obtain ⟨W0, hW0⟩ : ∃ W0, W0 = (w.alloc (.cells #[.int .i64 4, .int .i64 oa, .int .i64 ob, .int .i64 oc, .string os, .string ot] 38)).alloc (.cells #[.int .i64 ae, .int .i64 an, .int .i64 0, .string (st ax)] 42) := ⟨_, rfl⟩
    have e0 : Ext w W0 := by rw [hW0]; exact ((Ext.refl w).alloc _).alloc _
    have b0 : W0.heap[w.heap.size]? = some (.cells #[.int .i64 4, .int .i64 oa, .int .i64 ob, .int .i64 oc, .string os, .string ot] 38) := by
      rw [hW0]; exact heap_alloc_lt (heap_alloc_new w _)
    have b1 : W0.heap[w.heap.size + 1]? = some (.cells #[.int .i64 ae, .int .i64 an, .int .i64 0, .string (st ax)] 42) := by rw [hW0]; exact heap_alloc2 w _ _
    rw [← hW0]
    have y0 : ∀ w', Chg [g] W0 w' → w'.cell? ⟨w.heap.size, 0, none⟩ = some (.int .i64 4) := fun w' hx => cell_of (hx.heap b0 (by simp; omega)) 0
    have y1 : ∀ w', Chg [g] W0 w' → w'.cell? ⟨w.heap.size, 1, none⟩ = some (.int .i64 oa) := fun w' hx => cell_of (hx.heap b0 (by simp; omega)) 1
    have y2 : ∀ w', Chg [g] W0 w' → w'.cell? ⟨w.heap.size, 2, none⟩ = some (.int .i64 ob) := fun w' hx => cell_of (hx.heap b0 (by simp; omega)) 2
    have y3 : ∀ w', Chg [g] W0 w' → w'.cell? ⟨w.heap.size, 3, none⟩ = some (.int .i64 oc) := fun w' hx => cell_of (hx.heap b0 (by simp; omega)) 3
    have y4 : ∀ w', Chg [g] W0 w' → w'.cell? ⟨w.heap.size, 4, none⟩ = some (.string os) := fun w' hx => cell_of (hx.heap b0 (by simp; omega)) 4
    have y5 : ∀ w', Chg [g] W0 w' → w'.cell? ⟨w.heap.size, 5, none⟩ = some (.string ot) := fun w' hx => cell_of (hx.heap b0 (by simp; omega)) 5
    have v0 : ∀ w', Chg [g] W0 w' → w'.cell? ⟨w.heap.size + 1, 0, none⟩ = some (.int .i64 ae) := fun w' hx => cell_of (hx.heap b1 (by simp; omega)) 0
    have v1 : ∀ w', Chg [g] W0 w' → w'.cell? ⟨w.heap.size + 1, 1, none⟩ = some (.int .i64 an) := fun w' hx => cell_of (hx.heap b1 (by simp; omega)) 1
    have v2 : ∀ w', Chg [g] W0 w' → w'.cell? ⟨w.heap.size + 1, 2, none⟩ = some (.int .i64 0) := fun w' hx => cell_of (hx.heap b1 (by simp; omega)) 2
    have v3 : ∀ w', Chg [g] W0 w' → w'.cell? ⟨w.heap.size + 1, 3, none⟩ = some (.string (st ax)) := fun w' hx => cell_of (hx.heap b1 (by simp; omega)) 3
    have E0 : Hid (Ext w W0) := e0
    clear hW0 b0 b1 e0
    refine Peel.region 5 2 1 [0, 1, 2] (Chg [g] W0) (by kernel_rfl) (by kernel_rfl) (Chg.refl [g] W0).drew ?_
    simp only [Peel.pick, List.filterMap_cons, List.filterMap_nil, List.getElem?_cons_zero, List.getElem?_cons_succ]
    repeat (first
      | (refine Peel.q_move _ (by first | exact .inl rfl | exact .inr rfl) rfl ?_; simp only [Act.put, List.setIfInBounds_toArray, List.set, Act.eval, List.getD_toArray, List.getD_cons_zero, List.getD_cons_succ])
      | (apply Peel.q_value; rfl; (intro w' hw'; simp [go_sem, hw', y0, y1, y2, y3, y4, y5, v0, v1, v2, v3]; rfl); simp only [Act.put, List.setIfInBounds_toArray, List.set]))
    refine Peel.any_one (i := 3) (by kernel_rfl) ?_
    refine Peel.x_call rfl (f := 43) (args := #[.pointer (some ⟨g, 0, none⟩), .agg #[.int .i64 4, .int .i64 oa, .int .i64 ob, .int .i64 oc, .string os, .string ot]]) rfl (by simp [go_sem]) ?_
    refine (HO.out _ (E0.out.drew)).mono ?_
    rintro e w1 ⟨rfl, hC1, c1⟩
    have d1 : Chg [g] W0 w1 := ((Chg.refl [g] W0).drew).trans c1
    refine ⟨_, rfl, d1, ?_⟩
    simp only [Act.put, List.setIfInBounds_toArray, List.set]
    refine Peel.any_one (i := 4) (by kernel_rfl) ?_
    refine Peel.x_value rfl rfl (w' := w1) (v := .bool true) (by simp [go_sem]; try rfl) d1 ?_
    simp only [Act.put, List.setIfInBounds_toArray, List.set]
    refine Peel.any_end (by kernel_rfl) rfl (by kernel_rfl) ?_
    simp only [List.drop]
    go_wp2
    go_ret
    exact ⟨rfl, hC1, (Chg.of_ext E0.out).trans d1⟩
  · go_enter Try.func30, Try.ntmps30
    go_wp2_with fail
    obtain ⟨W0, hW0⟩ : ∃ W0, W0 = (w.alloc (.cells #[.int .i64 5, .int .i64 oa, .int .i64 ob, .int .i64 oc, .string os, .string ot] 38)).alloc (.cells #[.int .i64 ae, .int .i64 an, .int .i64 0, .string (st ax)] 42) := ⟨_, rfl⟩
    have e0 : Ext w W0 := by rw [hW0]; exact ((Ext.refl w).alloc _).alloc _
    have b0 : W0.heap[w.heap.size]? = some (.cells #[.int .i64 5, .int .i64 oa, .int .i64 ob, .int .i64 oc, .string os, .string ot] 38) := by
      rw [hW0]; exact heap_alloc_lt (heap_alloc_new w _)
    have b1 : W0.heap[w.heap.size + 1]? = some (.cells #[.int .i64 ae, .int .i64 an, .int .i64 0, .string (st ax)] 42) := by rw [hW0]; exact heap_alloc2 w _ _
    rw [← hW0]
    have y0 : ∀ w', Chg [g] W0 w' → w'.cell? ⟨w.heap.size, 0, none⟩ = some (.int .i64 5) := fun w' hx => cell_of (hx.heap b0 (by simp; omega)) 0
    have y1 : ∀ w', Chg [g] W0 w' → w'.cell? ⟨w.heap.size, 1, none⟩ = some (.int .i64 oa) := fun w' hx => cell_of (hx.heap b0 (by simp; omega)) 1
    have y2 : ∀ w', Chg [g] W0 w' → w'.cell? ⟨w.heap.size, 2, none⟩ = some (.int .i64 ob) := fun w' hx => cell_of (hx.heap b0 (by simp; omega)) 2
    have y3 : ∀ w', Chg [g] W0 w' → w'.cell? ⟨w.heap.size, 3, none⟩ = some (.int .i64 oc) := fun w' hx => cell_of (hx.heap b0 (by simp; omega)) 3
    have y4 : ∀ w', Chg [g] W0 w' → w'.cell? ⟨w.heap.size, 4, none⟩ = some (.string os) := fun w' hx => cell_of (hx.heap b0 (by simp; omega)) 4
    have y5 : ∀ w', Chg [g] W0 w' → w'.cell? ⟨w.heap.size, 5, none⟩ = some (.string ot) := fun w' hx => cell_of (hx.heap b0 (by simp; omega)) 5
    have v0 : ∀ w', Chg [g] W0 w' → w'.cell? ⟨w.heap.size + 1, 0, none⟩ = some (.int .i64 ae) := fun w' hx => cell_of (hx.heap b1 (by simp; omega)) 0
    have v1 : ∀ w', Chg [g] W0 w' → w'.cell? ⟨w.heap.size + 1, 1, none⟩ = some (.int .i64 an) := fun w' hx => cell_of (hx.heap b1 (by simp; omega)) 1
    have v2 : ∀ w', Chg [g] W0 w' → w'.cell? ⟨w.heap.size + 1, 2, none⟩ = some (.int .i64 0) := fun w' hx => cell_of (hx.heap b1 (by simp; omega)) 2
    have v3 : ∀ w', Chg [g] W0 w' → w'.cell? ⟨w.heap.size + 1, 3, none⟩ = some (.string (st ax)) := fun w' hx => cell_of (hx.heap b1 (by simp; omega)) 3
    have E0 : Hid (Ext w W0) := e0
    clear hW0 b0 b1 e0
    refine Peel.region 5 2 1 [0, 1, 2] (Chg [g] W0) (by kernel_rfl) (by kernel_rfl) (Chg.refl [g] W0).drew ?_
    simp only [Peel.pick, List.filterMap_cons, List.filterMap_nil, List.getElem?_cons_zero, List.getElem?_cons_succ]
    repeat (first
      | (refine Peel.q_move _ (by first | exact .inl rfl | exact .inr rfl) rfl ?_; simp only [Act.put, List.setIfInBounds_toArray, List.set, Act.eval, List.getD_toArray, List.getD_cons_zero, List.getD_cons_succ])
      | (apply Peel.q_value; rfl; (intro w' hw'; simp [go_sem, hw', y0, y1, y2, y3, y4, y5, v0, v1, v2, v3]; rfl); simp only [Act.put, List.setIfInBounds_toArray, List.set]))
    refine Peel.any_one (i := 3) (by kernel_rfl) ?_
    refine Peel.x_call rfl (f := 43) (args := #[.pointer (some ⟨g, 0, none⟩), .agg #[.int .i64 5, .int .i64 oa, .int .i64 ob, .int .i64 oc, .string os, .string ot]]) rfl (by simp [go_sem]) ?_
    refine (HO.out _ (E0.out.drew)).mono ?_
    rintro e w1 ⟨rfl, hC1, c1⟩
    have d1 : Chg [g] W0 w1 := ((Chg.refl [g] W0).drew).trans c1
    refine ⟨_, rfl, d1, ?_⟩
    simp only [Act.put, List.setIfInBounds_toArray, List.set]
    refine Peel.any_one (i := 4) (by kernel_rfl) ?_
    refine Peel.x_value rfl rfl (w' := w1) (v := .bool true) (by simp [go_sem]; try rfl) d1 ?_
    simp only [Act.put, List.setIfInBounds_toArray, List.set]
    refine Peel.any_end (by kernel_rfl) rfl (by kernel_rfl) ?_
    simp only [List.drop]
    go_wp2
    go_ret
    exact ⟨rfl, hC1, (Chg.of_ext E0.out).trans d1⟩
  · go_enter Try.func30, Try.ntmps30
    go_wp2_with fail
    obtain ⟨W0, hW0⟩ : ∃ W0, W0 = (w.alloc (.cells #[.int .i64 6, .int .i64 oa, .int .i64 ob, .int .i64 oc, .string os, .string ot] 38)).alloc (.cells #[.int .i64 ae, .int .i64 an, .int .i64 0, .string (st ax)] 42) := ⟨_, rfl⟩
    have e0 : Ext w W0 := by rw [hW0]; exact ((Ext.refl w).alloc _).alloc _
    have b0 : W0.heap[w.heap.size]? = some (.cells #[.int .i64 6, .int .i64 oa, .int .i64 ob, .int .i64 oc, .string os, .string ot] 38) := by
      rw [hW0]; exact heap_alloc_lt (heap_alloc_new w _)
    have b1 : W0.heap[w.heap.size + 1]? = some (.cells #[.int .i64 ae, .int .i64 an, .int .i64 0, .string (st ax)] 42) := by rw [hW0]; exact heap_alloc2 w _ _
    rw [← hW0]
    have y0 : ∀ w', Chg [g] W0 w' → w'.cell? ⟨w.heap.size, 0, none⟩ = some (.int .i64 6) := fun w' hx => cell_of (hx.heap b0 (by simp; omega)) 0
    have y1 : ∀ w', Chg [g] W0 w' → w'.cell? ⟨w.heap.size, 1, none⟩ = some (.int .i64 oa) := fun w' hx => cell_of (hx.heap b0 (by simp; omega)) 1
    have y2 : ∀ w', Chg [g] W0 w' → w'.cell? ⟨w.heap.size, 2, none⟩ = some (.int .i64 ob) := fun w' hx => cell_of (hx.heap b0 (by simp; omega)) 2
    have y3 : ∀ w', Chg [g] W0 w' → w'.cell? ⟨w.heap.size, 3, none⟩ = some (.int .i64 oc) := fun w' hx => cell_of (hx.heap b0 (by simp; omega)) 3
    have y4 : ∀ w', Chg [g] W0 w' → w'.cell? ⟨w.heap.size, 4, none⟩ = some (.string os) := fun w' hx => cell_of (hx.heap b0 (by simp; omega)) 4
    have y5 : ∀ w', Chg [g] W0 w' → w'.cell? ⟨w.heap.size, 5, none⟩ = some (.string ot) := fun w' hx => cell_of (hx.heap b0 (by simp; omega)) 5
    have v0 : ∀ w', Chg [g] W0 w' → w'.cell? ⟨w.heap.size + 1, 0, none⟩ = some (.int .i64 ae) := fun w' hx => cell_of (hx.heap b1 (by simp; omega)) 0
    have v1 : ∀ w', Chg [g] W0 w' → w'.cell? ⟨w.heap.size + 1, 1, none⟩ = some (.int .i64 an) := fun w' hx => cell_of (hx.heap b1 (by simp; omega)) 1
    have v2 : ∀ w', Chg [g] W0 w' → w'.cell? ⟨w.heap.size + 1, 2, none⟩ = some (.int .i64 0) := fun w' hx => cell_of (hx.heap b1 (by simp; omega)) 2
    have v3 : ∀ w', Chg [g] W0 w' → w'.cell? ⟨w.heap.size + 1, 3, none⟩ = some (.string (st ax)) := fun w' hx => cell_of (hx.heap b1 (by simp; omega)) 3
    have E0 : Hid (Ext w W0) := e0
    clear hW0 b0 b1 e0
    refine Peel.region 5 2 1 [0, 1, 2] (Chg [g] W0) (by kernel_rfl) (by kernel_rfl) (Chg.refl [g] W0).drew ?_
    simp only [Peel.pick, List.filterMap_cons, List.filterMap_nil, List.getElem?_cons_zero, List.getElem?_cons_succ]
    repeat (first
      | (refine Peel.q_move _ (by first | exact .inl rfl | exact .inr rfl) rfl ?_; simp only [Act.put, List.setIfInBounds_toArray, List.set, Act.eval, List.getD_toArray, List.getD_cons_zero, List.getD_cons_succ])
      | (apply Peel.q_value; rfl; (intro w' hw'; simp [go_sem, hw', y0, y1, y2, y3, y4, y5, v0, v1, v2, v3]; rfl); simp only [Act.put, List.setIfInBounds_toArray, List.set]))
    refine Peel.any_one (i := 3) (by kernel_rfl) ?_
    refine Peel.x_call rfl (f := 43) (args := #[.pointer (some ⟨g, 0, none⟩), .agg #[.int .i64 6, .int .i64 oa, .int .i64 ob, .int .i64 oc, .string os, .string ot]]) rfl (by simp [go_sem]) ?_
    refine (HO.out _ (E0.out.drew)).mono ?_
    rintro e w1 ⟨rfl, hC1, c1⟩
    have d1 : Chg [g] W0 w1 := ((Chg.refl [g] W0).drew).trans c1
    refine ⟨_, rfl, d1, ?_⟩
    simp only [Act.put, List.setIfInBounds_toArray, List.set]
    refine Peel.any_one (i := 4) (by kernel_rfl) ?_
    refine Peel.x_value rfl rfl (w' := w1) (v := .bool true) (by simp [go_sem]; try rfl) d1 ?_
    simp only [Act.put, List.setIfInBounds_toArray, List.set]
    refine Peel.any_end (by kernel_rfl) rfl (by kernel_rfl) ?_
    simp only [List.drop]
    go_wp2
    go_ret
    exact ⟨rfl, hC1, (Chg.of_ext E0.out).trans d1⟩
  · go_enter Try.func30, Try.ntmps30
    go_wp2_with fail
    obtain ⟨W0, hW0⟩ : ∃ W0, W0 = (w.alloc (.cells #[.int .i64 7, .int .i64 oa, .int .i64 ob, .int .i64 oc, .string os, .string ot] 38)).alloc (.cells #[.int .i64 ae, .int .i64 an, .int .i64 0, .string (st ax)] 42) := ⟨_, rfl⟩
    have e0 : Ext w W0 := by rw [hW0]; exact ((Ext.refl w).alloc _).alloc _
    have b0 : W0.heap[w.heap.size]? = some (.cells #[.int .i64 7, .int .i64 oa, .int .i64 ob, .int .i64 oc, .string os, .string ot] 38) := by
      rw [hW0]; exact heap_alloc_lt (heap_alloc_new w _)
    have b1 : W0.heap[w.heap.size + 1]? = some (.cells #[.int .i64 ae, .int .i64 an, .int .i64 0, .string (st ax)] 42) := by rw [hW0]; exact heap_alloc2 w _ _
    rw [← hW0]
    have y0 : ∀ w', Chg [g] W0 w' → w'.cell? ⟨w.heap.size, 0, none⟩ = some (.int .i64 7) := fun w' hx => cell_of (hx.heap b0 (by simp; omega)) 0
    have y1 : ∀ w', Chg [g] W0 w' → w'.cell? ⟨w.heap.size, 1, none⟩ = some (.int .i64 oa) := fun w' hx => cell_of (hx.heap b0 (by simp; omega)) 1
    have y2 : ∀ w', Chg [g] W0 w' → w'.cell? ⟨w.heap.size, 2, none⟩ = some (.int .i64 ob) := fun w' hx => cell_of (hx.heap b0 (by simp; omega)) 2
    have y3 : ∀ w', Chg [g] W0 w' → w'.cell? ⟨w.heap.size, 3, none⟩ = some (.int .i64 oc) := fun w' hx => cell_of (hx.heap b0 (by simp; omega)) 3
    have y4 : ∀ w', Chg [g] W0 w' → w'.cell? ⟨w.heap.size, 4, none⟩ = some (.string os) := fun w' hx => cell_of (hx.heap b0 (by simp; omega)) 4
    have y5 : ∀ w', Chg [g] W0 w' → w'.cell? ⟨w.heap.size, 5, none⟩ = some (.string ot) := fun w' hx => cell_of (hx.heap b0 (by simp; omega)) 5
    have v0 : ∀ w', Chg [g] W0 w' → w'.cell? ⟨w.heap.size + 1, 0, none⟩ = some (.int .i64 ae) := fun w' hx => cell_of (hx.heap b1 (by simp; omega)) 0
    have v1 : ∀ w', Chg [g] W0 w' → w'.cell? ⟨w.heap.size + 1, 1, none⟩ = some (.int .i64 an) := fun w' hx => cell_of (hx.heap b1 (by simp; omega)) 1
    have v2 : ∀ w', Chg [g] W0 w' → w'.cell? ⟨w.heap.size + 1, 2, none⟩ = some (.int .i64 0) := fun w' hx => cell_of (hx.heap b1 (by simp; omega)) 2
    have v3 : ∀ w', Chg [g] W0 w' → w'.cell? ⟨w.heap.size + 1, 3, none⟩ = some (.string (st ax)) := fun w' hx => cell_of (hx.heap b1 (by simp; omega)) 3
    have E0 : Hid (Ext w W0) := e0
    clear hW0 b0 b1 e0
    refine Peel.region 5 2 1 [0, 1, 2] (Chg [g] W0) (by kernel_rfl) (by kernel_rfl) (Chg.refl [g] W0).drew ?_
    simp only [Peel.pick, List.filterMap_cons, List.filterMap_nil, List.getElem?_cons_zero, List.getElem?_cons_succ]
    repeat (first
      | (refine Peel.q_move _ (by first | exact .inl rfl | exact .inr rfl) rfl ?_; simp only [Act.put, List.setIfInBounds_toArray, List.set, Act.eval, List.getD_toArray, List.getD_cons_zero, List.getD_cons_succ])
      | (apply Peel.q_value; rfl; (intro w' hw'; simp [go_sem, hw', y0, y1, y2, y3, y4, y5, v0, v1, v2, v3]; rfl); simp only [Act.put, List.setIfInBounds_toArray, List.set]))
    refine Peel.any_one (i := 3) (by kernel_rfl) ?_
    refine Peel.x_call rfl (f := 43) (args := #[.pointer (some ⟨g, 0, none⟩), .agg #[.int .i64 7, .int .i64 oa, .int .i64 ob, .int .i64 oc, .string os, .string ot]]) rfl (by simp [go_sem]) ?_
    refine (HO.out _ (E0.out.drew)).mono ?_
    rintro e w1 ⟨rfl, hC1, c1⟩
    have d1 : Chg [g] W0 w1 := ((Chg.refl [g] W0).drew).trans c1
    refine ⟨_, rfl, d1, ?_⟩
    simp only [Act.put, List.setIfInBounds_toArray, List.set]
    refine Peel.any_one (i := 4) (by kernel_rfl) ?_
    refine Peel.x_value rfl rfl (w' := w1) (v := .bool true) (by simp [go_sem]; try rfl) d1 ?_
    simp only [Act.put, List.setIfInBounds_toArray, List.set]
    refine Peel.any_end (by kernel_rfl) rfl (by kernel_rfl) ?_
    simp only [List.drop]
    go_wp2
    go_ret
    exact ⟨rfl, hC1, (Chg.of_ext E0.out).trans d1⟩
  · go_enter Try.func30, Try.ntmps30
    go_wp2_with fail
    obtain ⟨W0, hW0⟩ : ∃ W0, W0 = (w.alloc (.cells #[.int .i64 8, .int .i64 oa, .int .i64 ob, .int .i64 oc, .string os, .string ot] 38)).alloc (.cells #[.int .i64 ae, .int .i64 an, .int .i64 0, .string (st ax)] 42) := ⟨_, rfl⟩
    have e0 : Ext w W0 := by rw [hW0]; exact ((Ext.refl w).alloc _).alloc _
    have b0 : W0.heap[w.heap.size]? = some (.cells #[.int .i64 8, .int .i64 oa, .int .i64 ob, .int .i64 oc, .string os, .string ot] 38) := by
      rw [hW0]; exact heap_alloc_lt (heap_alloc_new w _)
    have b1 : W0.heap[w.heap.size + 1]? = some (.cells #[.int .i64 ae, .int .i64 an, .int .i64 0, .string (st ax)] 42) := by rw [hW0]; exact heap_alloc2 w _ _
    rw [← hW0]
    have y0 : ∀ w', Chg [g] W0 w' → w'.cell? ⟨w.heap.size, 0, none⟩ = some (.int .i64 8) := fun w' hx => cell_of (hx.heap b0 (by simp; omega)) 0
    have y1 : ∀ w', Chg [g] W0 w' → w'.cell? ⟨w.heap.size, 1, none⟩ = some (.int .i64 oa) := fun w' hx => cell_of (hx.heap b0 (by simp; omega)) 1
    have y2 : ∀ w', Chg [g] W0 w' → w'.cell? ⟨w.heap.size, 2, none⟩ = some (.int .i64 ob) := fun w' hx => cell_of (hx.heap b0 (by simp; omega)) 2
    have y3 : ∀ w', Chg [g] W0 w' → w'.cell? ⟨w.heap.size, 3, none⟩ = some (.int .i64 oc) := fun w' hx => cell_of (hx.heap b0 (by simp; omega)) 3
    have y4 : ∀ w', Chg [g] W0 w' → w'.cell? ⟨w.heap.size, 4, none⟩ = some (.string os) := fun w' hx => cell_of (hx.heap b0 (by simp; omega)) 4
    have y5 : ∀ w', Chg [g] W0 w' → w'.cell? ⟨w.heap.size, 5, none⟩ = some (.string ot) := fun w' hx => cell_of (hx.heap b0 (by simp; omega)) 5
    have v0 : ∀ w', Chg [g] W0 w' → w'.cell? ⟨w.heap.size + 1, 0, none⟩ = some (.int .i64 ae) := fun w' hx => cell_of (hx.heap b1 (by simp; omega)) 0
    have v1 : ∀ w', Chg [g] W0 w' → w'.cell? ⟨w.heap.size + 1, 1, none⟩ = some (.int .i64 an) := fun w' hx => cell_of (hx.heap b1 (by simp; omega)) 1
    have v2 : ∀ w', Chg [g] W0 w' → w'.cell? ⟨w.heap.size + 1, 2, none⟩ = some (.int .i64 0) := fun w' hx => cell_of (hx.heap b1 (by simp; omega)) 2
    have v3 : ∀ w', Chg [g] W0 w' → w'.cell? ⟨w.heap.size + 1, 3, none⟩ = some (.string (st ax)) := fun w' hx => cell_of (hx.heap b1 (by simp; omega)) 3
    have E0 : Hid (Ext w W0) := e0
    clear hW0 b0 b1 e0
    refine Peel.region 5 2 1 [0, 1, 2] (Chg [g] W0) (by kernel_rfl) (by kernel_rfl) (Chg.refl [g] W0).drew ?_
    simp only [Peel.pick, List.filterMap_cons, List.filterMap_nil, List.getElem?_cons_zero, List.getElem?_cons_succ]
    repeat (first
      | (refine Peel.q_move _ (by first | exact .inl rfl | exact .inr rfl) rfl ?_; simp only [Act.put, List.setIfInBounds_toArray, List.set, Act.eval, List.getD_toArray, List.getD_cons_zero, List.getD_cons_succ])
      | (apply Peel.q_value; rfl; (intro w' hw'; simp [go_sem, hw', y0, y1, y2, y3, y4, y5, v0, v1, v2, v3]; rfl); simp only [Act.put, List.setIfInBounds_toArray, List.set]))
    refine Peel.any_one (i := 3) (by kernel_rfl) ?_
    refine Peel.x_call rfl (f := 43) (args := #[.pointer (some ⟨g, 0, none⟩), .agg #[.int .i64 8, .int .i64 oa, .int .i64 ob, .int .i64 oc, .string os, .string ot]]) rfl (by simp [go_sem]) ?_
    refine (HO.out _ (E0.out.drew)).mono ?_
    rintro e w1 ⟨rfl, hC1, c1⟩
    have d1 : Chg [g] W0 w1 := ((Chg.refl [g] W0).drew).trans c1
    refine ⟨_, rfl, d1, ?_⟩
    simp only [Act.put, List.setIfInBounds_toArray, List.set]
    refine Peel.any_one (i := 4) (by kernel_rfl) ?_
    refine Peel.x_value rfl rfl (w' := w1) (v := .bool true) (by simp [go_sem]; try rfl) d1 ?_
    simp only [Act.put, List.setIfInBounds_toArray, List.set]
    refine Peel.any_end (by kernel_rfl) rfl (by kernel_rfl) ?_
    simp only [List.drop]
    go_wp2
    go_ret
    exact ⟨rfl, hC1, (Chg.of_ext E0.out).trans d1⟩
end Go.Proofs.Qxb6500342a
