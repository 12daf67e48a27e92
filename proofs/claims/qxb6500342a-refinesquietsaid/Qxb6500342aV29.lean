/-
  Walks 29: Kept.
-/
import Derived.Test.Qxb6500342aV27
import Derived.Test.Qxb6500342aV28
import Derived.Test.Qxb6500342aV21
namespace Go.Proofs.Qxb6500342a
open Go.RowKit
open Go.Proofs
open Pl (Hd)
open Tx (st)
set_option linter.unusedSimpArgs false
set_option linter.unusedVariables false
attribute [local go_sem] alloc_drewN setCell_drewN shape?_drewN

theorem loaded_any (w : World) (q : SId) (g : Nat) (C : Array Value) (u : Nat) (H : Nat → Hd) (h : Hd) (img : ByteArray) (s : ByteArray) (hg : GhAt w g C u H h img) (hu : u < 256) (hst : StAt w q (sImp u H s).u (sImp u H s).H) (hgq : g ∉ q.all) (hs : s.size ≤ 9223372036854775807) :
    Calls Try.prog 44 #[.pointer (some ⟨q.s, 0, none⟩), .pointer (some ⟨g, 0, none⟩), .string s, anV (sImp u H s).a] w fun e w' => e = .returned (.bool true) ∧ (∃ C', GhAt w' g C' (sImp u H s).u (sImp u H s).H h img) ∧ Chg [g] w w' := by
  by_cases hz : Im.judge s.size (Bf s) = 0
  · simp only [sImp, hz, if_true] at hst ⊢
    exact loaded_ok w q g C u H h img s 0 [] hg hu hst hgq hs hz
  · simp only [sImp, if_neg hz]
    refine (loaded_err w _ _ s 0 [] hs hz).mono ?_
    rintro e w1 ⟨rfl, x1⟩
    exact ⟨rfl, ⟨C, hg.ext x1⟩, Chg.of_ext x1⟩
set_option maxRecDepth 100000 in
set_option maxHeartbeats 2000000 in
theorem kept_export (w : World) (q : SId) (g : Nat) (C : Array Value) (u : Nat) (H : Nat → Hd) (h : Hd) (img : ByteArray) (o : Stp) (hg : GhAt w g C u H h img) (hu : u < 256) (hst : StAt w q ((⟨⟨0, 0, Im.exTo u H 8⟩, u, H⟩ : Out)).u ((⟨⟨0, 0, Im.exTo u H 8⟩, u, H⟩ : Out)).H) (hgq : g ∉ q.all) (hos : o.s.size ≤ 9223372036854775807) (him : img.size ≤ 64) (hgd : ∀ i, i < 8 → u.testBit i = true → Pl.good (H i) = true) (hk : o.k = 9) :
    Calls Try.prog 30 #[.pointer (some ⟨q.s, 0, none⟩), .pointer (some ⟨g, 0, none⟩), opV o, anV ((⟨⟨0, 0, Im.exTo u H 8⟩, u, H⟩ : Out)).a] w fun e w' => e = .returned (.bool true) ∧ (∃ C', GhAt w' g C' ((⟨⟨0, 0, Im.exTo u H 8⟩, u, H⟩ : Out)).u ((⟨⟨0, 0, Im.exTo u H 8⟩, u, H⟩ : Out)).H h img) ∧ Chg [g] w w' := by
  have hgl := lt_of_heap hg.heap
  obtain ⟨k, oa, ob, oc, os, ot⟩ := o
  simp only at hk hst hos ⊢
  subst hk
  have HO : Hid (∀ w1, Ext w w1 → Calls Try.prog 45 #[.pointer (some ⟨g, 0, none⟩)] w1 fun e w' => e = .returned (.string (st (Im.exTo u H 8))) ∧ Ext w1 w') := fun w1 hx => exported_any _ g C u H h img (hg.ext hx)
  have HG : Hid (GhAt w g C u H h img) := hg
  clear hg hst hgd
  generalize Im.exTo u H 8 = T at *
  unfold opV anV
  go_enter Try.func30, Try.ntmps30
  go_wp2_with fail
  obtain ⟨W0, hW0⟩ : ∃ W0, W0 = (w.alloc (.cells #[.int .i64 9, .int .i64 oa, .int .i64 ob, .int .i64 oc, .string os, .string ot] 38)).alloc (.cells #[.int .i64 0, .int .i64 0, .int .i64 0, .string (st T)] 42) := ⟨_, rfl⟩
  have e0 : Ext w W0 := by rw [hW0]; exact ((Ext.refl w).alloc _).alloc _
  have b1 : W0.heap[w.heap.size + 1]? = some (.cells #[.int .i64 0, .int .i64 0, .int .i64 0, .string (st T)] 42) := by rw [hW0]; exact heap_alloc2 w _ _
  rw [← hW0]
  have v0 : ∀ w', Chg [g] W0 w' → w'.cell? ⟨w.heap.size + 1, 0, none⟩ = some (.int .i64 0) := fun w' hx => cell_of (hx.heap b1 (by simp; omega)) 0
  have v1 : ∀ w', Chg [g] W0 w' → w'.cell? ⟨w.heap.size + 1, 1, none⟩ = some (.int .i64 0) := fun w' hx => cell_of (hx.heap b1 (by simp; omega)) 1
  have v2 : ∀ w', Chg [g] W0 w' → w'.cell? ⟨w.heap.size + 1, 2, none⟩ = some (.int .i64 0) := fun w' hx => cell_of (hx.heap b1 (by simp; omega)) 2
  have v3 : ∀ w', Chg [g] W0 w' → w'.cell? ⟨w.heap.size + 1, 3, none⟩ = some (.string (st T)) := fun w' hx => cell_of (hx.heap b1 (by simp; omega)) 3
  have E0 : Hid (Ext w W0) := e0
  clear hW0 b1 e0
  refine Peel.region 5 2 1 [0, 1, 2] (Chg [g] W0) (by kernel_rfl) (by kernel_rfl) (Chg.refl [g] W0).drew ?_
  simp only [Peel.pick, List.filterMap_cons, List.filterMap_nil, List.getElem?_cons_zero, List.getElem?_cons_succ]
  repeat (first
    | (refine Peel.q_move _ (by first | exact .inl rfl | exact .inr rfl) rfl ?_; simp only [Act.put, List.setIfInBounds_toArray, List.set, Act.eval, List.getD_toArray, List.getD_cons_zero, List.getD_cons_succ])
    | (apply Peel.q_value; rfl; (intro w' hw'; simp [go_sem, hw', v0, v1, v2, v3]; rfl); simp only [Act.put, List.setIfInBounds_toArray, List.set]))
  refine Peel.any_one (i := 3) (by kernel_rfl) ?_
  refine Peel.x_call rfl (f := 45) (args := #[.pointer (some ⟨g, 0, none⟩)]) rfl (by simp [go_sem]) ?_
  refine (HO.out _ (E0.out.drew)).mono ?_
  rintro e w1 ⟨rfl, x1⟩
  have d1 : Chg [g] W0 w1 := ((Chg.refl [g] W0).drew).then x1
  refine ⟨_, rfl, d1, ?_⟩
  simp only [Act.put, List.setIfInBounds_toArray, List.set]
  refine Peel.any_one (i := 4) (by kernel_rfl) ?_
  refine Peel.x_value rfl rfl (w' := w1) (v := .bool true) (by simp [go_sem]; try rfl) d1 ?_
  simp only [Act.put, List.setIfInBounds_toArray, List.set]
  refine Peel.any_end (by kernel_rfl) rfl (by kernel_rfl) ?_
  simp only [List.drop]
  go_wp2
  go_ret
  exact ⟨rfl, ⟨C, HG.out.ext (E0.out.drew.trans x1)⟩, Chg.of_ext (E0.out.drew.trans x1)⟩
set_option maxRecDepth 100000 in
set_option maxHeartbeats 2000000 in
theorem kept_show (w : World) (q : SId) (g : Nat) (C : Array Value) (u : Nat) (H : Nat → Hd) (h : Hd) (img : ByteArray) (o : Stp) (hg : GhAt w g C u H h img) (hu : u < 256) (hst : StAt w q ((⟨⟨0, 0, Tx.showTo u H 8⟩, u, H⟩ : Out)).u ((⟨⟨0, 0, Tx.showTo u H 8⟩, u, H⟩ : Out)).H) (hgq : g ∉ q.all) (hos : o.s.size ≤ 9223372036854775807) (him : img.size ≤ 64) (hgd : ∀ i, i < 8 → u.testBit i = true → Pl.good (H i) = true) (hk : o.k = 14) :
    Calls Try.prog 30 #[.pointer (some ⟨q.s, 0, none⟩), .pointer (some ⟨g, 0, none⟩), opV o, anV ((⟨⟨0, 0, Tx.showTo u H 8⟩, u, H⟩ : Out)).a] w fun e w' => e = .returned (.bool true) ∧ (∃ C', GhAt w' g C' ((⟨⟨0, 0, Tx.showTo u H 8⟩, u, H⟩ : Out)).u ((⟨⟨0, 0, Tx.showTo u H 8⟩, u, H⟩ : Out)).H h img) ∧ Chg [g] w w' := by
  have hgl := lt_of_heap hg.heap
  obtain ⟨k, oa, ob, oc, os, ot⟩ := o
  simp only at hk hst hos ⊢
  subst hk
  have HO : Hid (∀ w1, Ext w w1 → Calls Try.prog 46 #[.pointer (some ⟨g, 0, none⟩)] w1 fun e w' => e = .returned (.string (st (Tx.showTo u H 8))) ∧ Ext w1 w') := fun w1 hx => spelt_any _ g C u H h img (hg.ext hx) hgd
  have HG : Hid (GhAt w g C u H h img) := hg
  clear hg hst hgd
  generalize Tx.showTo u H 8 = T at *
  unfold opV anV
  go_enter Try.func30, Try.ntmps30
  go_wp2_with fail
  obtain ⟨W0, hW0⟩ : ∃ W0, W0 = (w.alloc (.cells #[.int .i64 14, .int .i64 oa, .int .i64 ob, .int .i64 oc, .string os, .string ot] 38)).alloc (.cells #[.int .i64 0, .int .i64 0, .int .i64 0, .string (st T)] 42) := ⟨_, rfl⟩
  have e0 : Ext w W0 := by rw [hW0]; exact ((Ext.refl w).alloc _).alloc _
  have b1 : W0.heap[w.heap.size + 1]? = some (.cells #[.int .i64 0, .int .i64 0, .int .i64 0, .string (st T)] 42) := by rw [hW0]; exact heap_alloc2 w _ _
  rw [← hW0]
  have v0 : ∀ w', Chg [g] W0 w' → w'.cell? ⟨w.heap.size + 1, 0, none⟩ = some (.int .i64 0) := fun w' hx => cell_of (hx.heap b1 (by simp; omega)) 0
  have v1 : ∀ w', Chg [g] W0 w' → w'.cell? ⟨w.heap.size + 1, 1, none⟩ = some (.int .i64 0) := fun w' hx => cell_of (hx.heap b1 (by simp; omega)) 1
  have v2 : ∀ w', Chg [g] W0 w' → w'.cell? ⟨w.heap.size + 1, 2, none⟩ = some (.int .i64 0) := fun w' hx => cell_of (hx.heap b1 (by simp; omega)) 2
  have v3 : ∀ w', Chg [g] W0 w' → w'.cell? ⟨w.heap.size + 1, 3, none⟩ = some (.string (st T)) := fun w' hx => cell_of (hx.heap b1 (by simp; omega)) 3
  have E0 : Hid (Ext w W0) := e0
  clear hW0 b1 e0
  refine Peel.region 5 2 1 [0, 1, 2] (Chg [g] W0) (by kernel_rfl) (by kernel_rfl) (Chg.refl [g] W0).drew ?_
  simp only [Peel.pick, List.filterMap_cons, List.filterMap_nil, List.getElem?_cons_zero, List.getElem?_cons_succ]
  repeat (first
    | (refine Peel.q_move _ (by first | exact .inl rfl | exact .inr rfl) rfl ?_; simp only [Act.put, List.setIfInBounds_toArray, List.set, Act.eval, List.getD_toArray, List.getD_cons_zero, List.getD_cons_succ])
    | (apply Peel.q_value; rfl; (intro w' hw'; simp [go_sem, hw', v0, v1, v2, v3]; rfl); simp only [Act.put, List.setIfInBounds_toArray, List.set]))
  refine Peel.any_one (i := 3) (by kernel_rfl) ?_
  refine Peel.x_call rfl (f := 46) (args := #[.pointer (some ⟨g, 0, none⟩)]) rfl (by simp [go_sem]) ?_
  refine (HO.out _ (E0.out.drew)).mono ?_
  rintro e w1 ⟨rfl, x1⟩
  have d1 : Chg [g] W0 w1 := ((Chg.refl [g] W0).drew).then x1
  refine ⟨_, rfl, d1, ?_⟩
  simp only [Act.put, List.setIfInBounds_toArray, List.set]
  refine Peel.any_one (i := 4) (by kernel_rfl) ?_
  refine Peel.x_value rfl rfl (w' := w1) (v := .bool true) (by simp [go_sem]; try rfl) d1 ?_
  simp only [Act.put, List.setIfInBounds_toArray, List.set]
  refine Peel.any_end (by kernel_rfl) rfl (by kernel_rfl) ?_
  simp only [List.drop]
  go_wp2
  go_ret
  exact ⟨rfl, ⟨C, HG.out.ext (E0.out.drew.trans x1)⟩, Chg.of_ext (E0.out.drew.trans x1)⟩
set_option maxRecDepth 100000 in
set_option maxHeartbeats 2000000 in
theorem kept_again (w : World) (q : SId) (g : Nat) (C : Array Value) (u : Nat) (H : Nat → Hd) (h : Hd) (img : ByteArray) (o : Stp) (hg : GhAt w g C u H h img) (hu : u < 256) (hst : StAt w q (sImp u H img).u (sImp u H img).H) (hgq : g ∉ q.all) (hos : o.s.size ≤ 9223372036854775807) (him : img.size ≤ 64) (hgd : ∀ i, i < 8 → u.testBit i = true → Pl.good (H i) = true) (hk : o.k = 11) :
    Calls Try.prog 30 #[.pointer (some ⟨q.s, 0, none⟩), .pointer (some ⟨g, 0, none⟩), opV o, anV (sImp u H img).a] w fun e w' => e = .returned (.bool true) ∧ (∃ C', GhAt w' g C' (sImp u H img).u (sImp u H img).H h img) ∧ Chg [g] w w' := by
  have hgl := lt_of_heap hg.heap
  obtain ⟨k, oa, ob, oc, os, ot⟩ := o
  simp only at hk hst hos ⊢
  subst hk
  have HO : Hid (∀ w1, Ext w w1 → Calls Try.prog 44 #[.pointer (some ⟨q.s, 0, none⟩), .pointer (some ⟨g, 0, none⟩), .string img, anV (sImp u H img).a] w1 fun e w' => e = .returned (.bool true) ∧ (∃ C', GhAt w' g C' (sImp u H img).u (sImp u H img).H h img) ∧ Chg [g] w1 w') :=
    fun w1 hx => loaded_any w1 q g C u H h img img (hg.ext hx) hu (hst.ext hx) hgq (by omega)
  have HG : Hid (GhAt w g C u H h img) := hg
  clear hg hst hgd
  generalize sImp u H img = S at *
  obtain ⟨⟨ae, an, ax⟩, su, sH⟩ := S
  unfold opV
  unfold anV at *
  simp only at HO ⊢
  go_enter Try.func30, Try.ntmps30
  go_wp2_with fail
  obtain ⟨W0, hW0⟩ : ∃ W0, W0 = (w.alloc (.cells #[.int .i64 11, .int .i64 oa, .int .i64 ob, .int .i64 oc, .string os, .string ot] 38)).alloc (.cells #[.int .i64 ae, .int .i64 an, .int .i64 0, .string (st ax)] 42) := ⟨_, rfl⟩
  have e0 : Ext w W0 := by rw [hW0]; exact ((Ext.refl w).alloc _).alloc _
  have b1 : W0.heap[w.heap.size + 1]? = some (.cells #[.int .i64 ae, .int .i64 an, .int .i64 0, .string (st ax)] 42) := by rw [hW0]; exact heap_alloc2 w _ _
  rw [← hW0]
  have v0 : ∀ w', Chg [g] W0 w' → w'.cell? ⟨w.heap.size + 1, 0, none⟩ = some (.int .i64 ae) := fun w' hx => cell_of (hx.heap b1 (by simp; omega)) 0
  have v1 : ∀ w', Chg [g] W0 w' → w'.cell? ⟨w.heap.size + 1, 1, none⟩ = some (.int .i64 an) := fun w' hx => cell_of (hx.heap b1 (by simp; omega)) 1
  have v2 : ∀ w', Chg [g] W0 w' → w'.cell? ⟨w.heap.size + 1, 2, none⟩ = some (.int .i64 0) := fun w' hx => cell_of (hx.heap b1 (by simp; omega)) 2
  have v3 : ∀ w', Chg [g] W0 w' → w'.cell? ⟨w.heap.size + 1, 3, none⟩ = some (.string (st ax)) := fun w' hx => cell_of (hx.heap b1 (by simp; omega)) 3
  have E0 : Hid (Ext w W0) := e0
  have gi : ∀ w', Ext W0 w' → w'.cell? ⟨g, 53, none⟩ = some (.string img) := fun w' hx => (cell_of (hx.heap (e0.heap HG.out.heap)) _).trans HG.out.dk.i
  clear hW0 b1 e0
  have v0' : ∀ w', Ext W0 w' → w'.cell? ⟨w.heap.size + 1, 0, none⟩ = some (.int .i64 ae) := fun w' hx => v0 w' (Chg.of_ext hx)
  have v1' : ∀ w', Ext W0 w' → w'.cell? ⟨w.heap.size + 1, 1, none⟩ = some (.int .i64 an) := fun w' hx => v1 w' (Chg.of_ext hx)
  have v2' : ∀ w', Ext W0 w' → w'.cell? ⟨w.heap.size + 1, 2, none⟩ = some (.int .i64 0) := fun w' hx => v2 w' (Chg.of_ext hx)
  have v3' : ∀ w', Ext W0 w' → w'.cell? ⟨w.heap.size + 1, 3, none⟩ = some (.string (st ax)) := fun w' hx => v3 w' (Chg.of_ext hx)
  clear v0 v1 v2 v3
  refine Peel.region 8 0 2 [0, 1, 2, 3, 4, 5, 6, 7] (Ext W0) (by kernel_rfl) (by kernel_rfl) (Ext.refl W0).drew ?_
  simp only [Peel.pick, List.filterMap_cons, List.filterMap_nil, List.getElem?_cons_zero, List.getElem?_cons_succ]
  repeat (first
    | (refine Peel.q_move _ (by first | exact .inl rfl | exact .inr rfl) rfl ?_; simp only [Act.put, List.setIfInBounds_toArray, List.set, Act.eval, List.getD_toArray, List.getD_cons_zero, List.getD_cons_succ])
    | (apply Peel.q_value; rfl; (intro w' hw'; simp [go_sem, hw', gi, v0', v1', v2', v3']; rfl); simp only [Act.put, List.setIfInBounds_toArray, List.set]))
  refine Peel.any_end (C := Ext W0) (by kernel_rfl) rfl (by kernel_rfl) ?_
  simp only [List.drop]
  go_wp2_with fail
  refine (HO.out _ (E0.out.drew)).mono ?_
  rintro e w1 ⟨rfl, hC1, c1⟩
  go_wp2
  go_ret
  exact ⟨rfl, hC1, (Chg.of_ext E0.out.drew).trans c1⟩
set_option maxRecDepth 100000 in
set_option maxHeartbeats 2000000 in
theorem kept_imp (w : World) (q : SId) (g : Nat) (C : Array Value) (u : Nat) (H : Nat → Hd) (h : Hd) (img : ByteArray) (o : Stp) (hg : GhAt w g C u H h img) (hu : u < 256) (hst : StAt w q (sImp u H o.s).u (sImp u H o.s).H) (hgq : g ∉ q.all) (hos : o.s.size ≤ 9223372036854775807) (him : img.size ≤ 64) (hgd : ∀ i, i < 8 → u.testBit i = true → Pl.good (H i) = true) (hk : o.k = 10) :
    Calls Try.prog 30 #[.pointer (some ⟨q.s, 0, none⟩), .pointer (some ⟨g, 0, none⟩), opV o, anV (sImp u H o.s).a] w fun e w' => e = .returned (.bool true) ∧ (∃ C', GhAt w' g C' (sImp u H o.s).u (sImp u H o.s).H h img) ∧ Chg [g] w w' := by
  have hgl := lt_of_heap hg.heap
  obtain ⟨k, oa, ob, oc, os, ot⟩ := o
  simp only at hk hst hos ⊢
  subst hk
  have HO : Hid (∀ w1, Ext w w1 → Calls Try.prog 44 #[.pointer (some ⟨q.s, 0, none⟩), .pointer (some ⟨g, 0, none⟩), .string os, anV (sImp u H os).a] w1 fun e w' => e = .returned (.bool true) ∧ (∃ C', GhAt w' g C' (sImp u H os).u (sImp u H os).H h img) ∧ Chg [g] w1 w') :=
    fun w1 hx => loaded_any w1 q g C u H h img os (hg.ext hx) hu (hst.ext hx) hgq hos
  clear hg hst hgd
  generalize sImp u H os = S at *
  obtain ⟨⟨ae, an, ax⟩, su, sH⟩ := S
  unfold opV
  unfold anV at *
  simp only at HO ⊢
  go_enter Try.func30, Try.ntmps30
  go_wp2_with fail
  refine (HO.out _ (((Ext.refl w).alloc _).alloc _)).mono ?_
  rintro e w1 ⟨rfl, hC1, c1⟩
  go_wp2
  go_ret
  exact ⟨rfl, hC1, (Chg.of_ext (((Ext.refl w).alloc _).alloc _)).trans c1⟩
set_option maxRecDepth 100000 in
set_option maxHeartbeats 2000000 in
theorem kept_check (w : World) (q : SId) (g : Nat) (C : Array Value) (u : Nat) (H : Nat → Hd) (h : Hd) (img : ByteArray) (o : Stp) (hg : GhAt w g C u H h img) (hu : u < 256) (hst : StAt w q ((⟨⟨0, 1, []⟩, u, H⟩ : Out)).u ((⟨⟨0, 1, []⟩, u, H⟩ : Out)).H) (hgq : g ∉ q.all) (hos : o.s.size ≤ 9223372036854775807) (him : img.size ≤ 64) (hgd : ∀ i, i < 8 → u.testBit i = true → Pl.good (H i) = true) (hk : o.k = 15) :
    Calls Try.prog 30 #[.pointer (some ⟨q.s, 0, none⟩), .pointer (some ⟨g, 0, none⟩), opV o, anV ((⟨⟨0, 1, []⟩, u, H⟩ : Out)).a] w fun e w' => e = .returned (.bool true) ∧ (∃ C', GhAt w' g C' ((⟨⟨0, 1, []⟩, u, H⟩ : Out)).u ((⟨⟨0, 1, []⟩, u, H⟩ : Out)).H h img) ∧ Chg [g] w w' := by
  have hgl := lt_of_heap hg.heap
  obtain ⟨k, oa, ob, oc, os, ot⟩ := o
  simp only at hk hst hos ⊢
  subst hk
  have HG : Hid (GhAt w g C u H h img) := hg
  clear hg hst hgd
  unfold opV anV
  go_enter Try.func30, Try.ntmps30
  go_wp2
  go_ret
  exact ⟨rfl, ⟨C, HG.out.ext (((Ext.refl w).alloc _).alloc _)⟩, Chg.of_ext (((Ext.refl w).alloc _).alloc _)⟩
set_option maxHeartbeats 1000000 in
theorem kept_else (w : World) (xp : Value) (g : Nat) (C : Array Value) (u : Nat) (H : Nat → Hd) (h : Hd) (img : ByteArray) (o : Stp) (hg : GhAt w g C u H h img) (h4 : o.k ≠ 4) (h5 : o.k ≠ 5) (h6 : o.k ≠ 6) (h7 : o.k ≠ 7) (h8 : o.k ≠ 8) (h9 : o.k ≠ 9) (h10 : o.k ≠ 10) (h11 : o.k ≠ 11) (h14 : o.k ≠ 14) (h15 : o.k ≠ 15) (a : An) :
    Calls Try.prog 30 #[xp, .pointer (some ⟨g, 0, none⟩), opV o, anV a] w fun e w' => e = .returned (.bool true) ∧ (∃ C', GhAt w' g C' u H h img) ∧ Chg [g] w w' := by
  obtain ⟨k, oa, ob, oc, os, ot⟩ := o
  simp only at h4 h5 h6 h7 h8 h9 h10 h11 h14 h15
  unfold opV anV
  have e4 : (k == 4) = false := beq_false_of_ne h4
  have e5 : (k == 5) = false := beq_false_of_ne h5
  have e6 : (k == 6) = false := beq_false_of_ne h6
  have e7 : (k == 7) = false := beq_false_of_ne h7
  have e8 : (k == 8) = false := beq_false_of_ne h8
  have e9 : (k == 9) = false := beq_false_of_ne h9
  have e10 : (k == 10) = false := beq_false_of_ne h10
  have e11 : (k == 11) = false := beq_false_of_ne h11
  have e14 : (k == 14) = false := beq_false_of_ne h14
  have e15 : (k == 15) = false := beq_false_of_ne h15
  have HG : Hid (GhAt w g C u H h img) := hg
  clear hg h4 h5 h6 h7 h8 h9 h10 h11 h14 h15
  go_enter Try.func30, Try.ntmps30
  go_wp2
  go_ret
  exact ⟨rfl, ⟨C, HG.out.ext (((Ext.refl w).alloc _).alloc _)⟩, Chg.of_ext (((Ext.refl w).alloc _).alloc _)⟩
theorem kept_any (w : World) (q : SId) (g : Nat) (C : Array Value) (u : Nat) (H : Nat → Hd) (h : Hd) (img : ByteArray) (o : Stp) (hg : GhAt w g C u H h img) (hu : u < 256) (hst : StAt w q (step u H h img o).u (step u H h img o).H) (hgq : g ∉ q.all) (hos : o.s.size ≤ 9223372036854775807) (him : img.size ≤ 64) (ha : in64 o.a) (hb : in64 o.b) (hgd : ∀ i, i < 8 → u.testBit i = true → Pl.good (H i) = true) :
    Calls Try.prog 30 #[.pointer (some ⟨q.s, 0, none⟩), .pointer (some ⟨g, 0, none⟩), opV o, anV (step u H h img o).a] w fun e w' => e = .returned (.bool true) ∧ (∃ C', GhAt w' g C' (step u H h img o).u (step u H h img o).H h img) ∧ Chg [g] w w' := by
  by_cases h5 : five o.k
  · exact kept_five w _ g C u H h img o hg hu ha hb hgd h5
  have n4 : o.k ≠ 4 := fun e => h5 (.inl e)
  have n5 : o.k ≠ 5 := fun e => h5 (.inr (.inl e))
  have n6 : o.k ≠ 6 := fun e => h5 (.inr (.inr (.inl e)))
  have n7 : o.k ≠ 7 := fun e => h5 (.inr (.inr (.inr (.inl e))))
  have n8 : o.k ≠ 8 := fun e => h5 (.inr (.inr (.inr (.inr e))))
  unfold step at hst ⊢
  rw [if_neg n4, if_neg n5, if_neg n6, if_neg n7, if_neg n8] at hst ⊢
  by_cases n9 : o.k = 9
  · rw [if_pos n9] at hst ⊢; exact kept_export w q g C u H h img o hg hu hst hgq hos him hgd n9
  rw [if_neg n9] at hst ⊢
  by_cases n10 : o.k = 10
  · rw [if_pos n10] at hst ⊢; exact kept_imp w q g C u H h img o hg hu hst hgq hos him hgd n10
  rw [if_neg n10] at hst ⊢
  by_cases n11 : o.k = 11
  · rw [if_pos n11] at hst ⊢; exact kept_again w q g C u H h img o hg hu hst hgq hos him hgd n11
  rw [if_neg n11] at hst ⊢
  by_cases n14 : o.k = 14
  · rw [if_pos n14] at hst ⊢; exact kept_show w q g C u H h img o hg hu hst hgq hos him hgd n14
  rw [if_neg n14] at hst ⊢
  by_cases n15 : o.k = 15
  · rw [if_pos n15] at hst ⊢; exact kept_check w q g C u H h img o hg hu hst hgq hos him hgd n15
  rw [if_neg n15]
  exact kept_else w _ g C u H h img o hg n4 n5 n6 n7 n8 n9 n10 n11 n14 n15 _
end Go.Proofs.Qxb6500342a
