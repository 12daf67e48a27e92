/-
  Walks 7: the store: put.
-/
import Derived.Test.Qxb6500342aV6
namespace Go.Proofs.Qxb6500342a
open Go.RowKit
open Go.Proofs
open Pl (Hd)
set_option linter.unusedSimpArgs false
set_option linter.unusedVariables false
attribute [local go_sem] alloc_drewN setCell_drewN shape?_drewN

def upd (H : Nat → Hd) (i : Nat) (h : Hd) : Nat → Hd := fun j => if j = i then h else H j
theorem wordsC_put (u : Nat) (H : Nat → Hd) (n : Nat) (h : Hd) (hn : n < 8) (hu : u < 256) : (wordsC u H).setIfInBounds n (.int .u64 (Pl.packI h)) = wordsC (u ||| 2 ^ n) (upd H n h) := by
  apply Array.ext_getElem?
  intro j
  rw [Array.getElem?_setIfInBounds, wordsC_size]
  by_cases hj : j < 8
  · rw [wordsC_get _ _ _ hj, wordsC_get _ _ _ hj]
    by_cases hnj : n = j
    · subst hnj
      simp [wd, Bd.add_bit, upd, hn]
    · have : ¬ j = n := fun e => hnj e.symm
      simp [wd, Bd.add_bit, upd, hnj, this]
  · rw [if_neg (by omega)]
    rw [Array.getElem?_eq_none (by rw [wordsC_size]; omega), Array.getElem?_eq_none (by rw [wordsC_size]; omega)]
theorem StAt.put {w w' : World} {q : SId} {u : Nat} {H : Nat → Hd} {n : Nat} {h : Hd} (hst : StAt w q u H) (hn : n < 8) (hg : Pl.good h = true)
    (h1 : w'.heap[q.s]? = w.heap[q.s]?) (h2 : w'.heap[q.L]? = some (.cells ((wordsC u H).setIfInBounds n (.int .u64 (Pl.packI h))) 28)) (h3 : BoardAt w' q.b (u ||| 2 ^ n)) : StAt w' q (u ||| 2 ^ n) (upd H n h) := by
  refine ⟨h1.trans hst.hs, by rw [h2, wordsC_put u H n h hn hst.lt], h3, Bd.add_lt u n hst.lt hn, ?_, hst.nd⟩
  intro i hi hb
  unfold upd
  split
  · exact hg
  · rename_i hne
    rw [Bd.add_bit] at hb
    exact hst.good i hi (by simpa [hne] using hb)

set_option maxHeartbeats 1000000 in
theorem put_bad (w : World) (q : SId) (u : Nat) (H : Nat → Hd) (h : Hd) (hst : StAt w q u H) (hg : Pl.good h = false) : Calls Try.prog 34 #[.pointer (some ⟨q.s, 0, none⟩), hdV h] w fun e w' => e = .returned (.tuple #[.int .i64 0, .int .i64 6]) ∧ Ext w w' := by
  have HG : Hid (Pl.good h = false) := hg
  clear hg
  unfold hdV
  go_enter Try.func34, Try.ntmps34
  go_wp2_with fail
  refine (goodh_any h _).mono ?_
  rintro e w1 ⟨rfl, x1⟩
  rw [HG.out]
  go_wp2
  go_ret2
  exact ⟨rfl, ((Ext.refl _).alloc _).trans x1⟩
set_option maxHeartbeats 1000000 in
theorem put_full (w : World) (q : SId) (u : Nat) (H : Nat → Hd) (h : Hd) (hst : StAt w q u H) (hg : Pl.good h = true) (hl : Bd.low u = 8) : Calls Try.prog 34 #[.pointer (some ⟨q.s, 0, none⟩), hdV h] w fun e w' => e = .returned (.tuple #[.int .i64 0, .int .i64 7]) ∧ StAt w' q u H ∧ Chg q.all w w' := by
  have HG : Hid (Pl.good h = true ∧ Bd.low u = 8 ∧ StAt w q u H) := ⟨hg, hl, hst⟩
  clear hg hl hst
  unfold hdV
  go_enter Try.func34, Try.ntmps34
  go_wp2_with fail
  refine (goodh_any h _).mono ?_
  rintro e w1 ⟨rfl, x1⟩
  rw [HG.out.1]
  have x01 := ((Ext.refl w).alloc _).trans x1
  go_wp2_with fail
  refine (free_any w1 q u H (HG.out.2.2.ext x01)).mono ?_
  rintro e w2 ⟨rfl, s2, c2⟩
  rw [HG.out.2.1]
  go_wp2
  go_ret2
  exact ⟨rfl, s2, ((Chg.of_ext x01).trans (c2.mono (by simp [SId.all])))⟩
set_option maxHeartbeats 2000000 in
theorem put_ok (w : World) (q : SId) (u : Nat) (H : Nat → Hd) (h : Hd) (hst : StAt w q u H) (hg : Pl.good h = true) (hl : Bd.low u < 8) : Calls Try.prog 34 #[.pointer (some ⟨q.s, 0, none⟩), hdV h] w fun e w' => e = .returned (.tuple #[.int .i64 (Bd.low u), .int .i64 0]) ∧ StAt w' q (u ||| 2 ^ Bd.low u) (upd H (Bd.low u) h) ∧ Chg q.all w w' := by
  obtain ⟨n1, n2, n3⟩ := hst.ne
  have hbw := lt_of_heap hst.hb
  have HG : Hid (Pl.good h = true ∧ StAt w q u H) := ⟨hg, hst⟩
  have hne : w.heap.size ≠ q.b := by omega
  generalize hm : Bd.low u = m at *
  have HM : Hid (Bd.low u = m) := hm
  have hm0 : (m : Int) < 8 := by omega
  clear hg hst hm hbw
  have W0 : ∀ (A : World), A = w.alloc (.cells #[.int .i64 h.k, .int .i64 h.d, .int .i64 h.l, .int .i64 h.f, .int .i64 h.s] 27) → Ext w A ∧ A.heap[w.heap.size]? = some (.cells #[.int .i64 h.k, .int .i64 h.d, .int .i64 h.l, .int .i64 h.f, .int .i64 h.s] 27) := by
    rintro A rfl; exact ⟨(Ext.refl _).alloc _, heap_alloc_new _ _⟩
  have HW0 : Hid (∀ (A : World), A = w.alloc (.cells #[.int .i64 h.k, .int .i64 h.d, .int .i64 h.l, .int .i64 h.f, .int .i64 h.s] 27) → Ext w A ∧ A.heap[w.heap.size]? = some (.cells #[.int .i64 h.k, .int .i64 h.d, .int .i64 h.l, .int .i64 h.f, .int .i64 h.s] 27)) := W0
  clear W0
  unfold hdV
  go_enter Try.func34, Try.ntmps34
  go_wp2_with fail
  refine (goodh_any h _).mono ?_
  rintro e w1 ⟨rfl, x1⟩
  rw [HG.out.1]
  have a0 := (HW0.out _ rfl).1.trans x1
  have a1 := x1.heap (HW0.out _ rfl).2
  clear x1
  go_wp2_with fail
  refine (free_any w1 q u H (HG.out.2.ext a0)).mono ?_
  rintro e w2 ⟨rfl, s2, c2⟩
  rw [HM.out]
  have b0 := (Chg.of_ext (S := [q.b]) a0).trans c2
  have b1 := c2.heap a1 (by simpa using hne)
  have S2 : Hid (StAt w2 q u H) := s2
  have g0 : ∀ w', Ext w2 w' → w'.cell? ⟨q.s, 0, none⟩ = some (.slice (some ⟨q.L, 0, none⟩) 8 8) := fun w' hx => cell_of (hx.heap s2.hs) 0
  have k0 : ∀ w', Ext w2 w' → w'.cell? ⟨w.heap.size, 0, none⟩ = some (.int .i64 h.k) := fun w' hx => cell_of (hx.heap b1) 0
  have k1 : ∀ w', Ext w2 w' → w'.cell? ⟨w.heap.size, 1, none⟩ = some (.int .i64 h.d) := fun w' hx => cell_of (hx.heap b1) 1
  have k2 : ∀ w', Ext w2 w' → w'.cell? ⟨w.heap.size, 2, none⟩ = some (.int .i64 h.l) := fun w' hx => cell_of (hx.heap b1) 2
  have k3 : ∀ w', Ext w2 w' → w'.cell? ⟨w.heap.size, 3, none⟩ = some (.int .i64 h.f) := fun w' hx => cell_of (hx.heap b1) 3
  have k4 : ∀ w', Ext w2 w' → w'.cell? ⟨w.heap.size, 4, none⟩ = some (.int .i64 h.s) := fun w' hx => cell_of (hx.heap b1) 4
  have hx2 := Ext.refl w2
  clear s2 a0 a1 c2 b1
  go_wp2
  refine Calm.region 8 1 (fun o => o.dst == some 20) (Ext w2) (by kernel_rfl) (by kernel_rfl) hx2.drew ?_
  simp only [List.take, List.drop]
  repeat (first
    | (refine Calm.walk_move _ (by first | exact .inl rfl | exact .inr rfl) rfl rfl ?_; simp only [Act.put, List.setIfInBounds_toArray, List.set, Act.eval, List.getD_toArray, List.getD_cons_zero, List.getD_cons_succ])
    | (refine Calm.walk_call (f := 22) (args := #[hdV h]) (fun v => v = .int .u64 (Pl.packI h)) rfl rfl (fun _ _ => by simp [go_sem, hdV]) (fun w' hw' => (pack_any h w').mono fun e w2 ⟨he, hx⟩ => ⟨_, he, hw'.trans hx, rfl⟩) ?_; rintro v rfl; simp only [Act.put, List.setIfInBounds_toArray, List.set])
    | (apply Calm.walk_value; rfl; rfl; (intro w' hw'; simp [go_sem, hw', g0, k0, k1, k2, k3, k4, hm0]; rfl); simp only [Act.put, List.setIfInBounds_toArray, List.set]))
  show ∀ w', _
  intro w3 hx3
  have s3 := S2.out.ext hx3
  have S3 : Hid (StAt w3 q u H) := s3
  have l0 : w3.cell? ⟨q.L, m, none⟩ = some (.int .u64 (wd u H m)) := (cell_of s3.hL m).trans (wordsC_get u H m hl)
  have lf : w3.frozen? ⟨q.L, m, none⟩ = false := frozen_of s3.hL m
  have l1 : w3.cell? ⟨q.s, 1, none⟩ = some (.pointer (some ⟨q.b, 0, none⟩)) := cell_of s3.hs 1
  clear s3 g0 k0 k1 k2 k3 k4 hx2
  go_wp2_with fail
  have cL : Chg [q.L] w3 (w3.setCell ⟨q.L, m, none⟩ (.int .u64 (Pl.packI h))) := (Chg.refl _ _).setCell (by simp) _
  refine (wadd_in _ q.b u m (S3.out.hb.chg cL (by simp; exact Ne.symm n3)) (by have := S3.out.lt; omega) (by omega)).mono ?_
  rintro e w4 ⟨rfl, hb4, c4⟩
  have HB4 : Hid (BoardAt w4 q.b (u ||| 2 ^ m) ∧ Chg [q.b] (w3.setCell ⟨q.L, m, none⟩ (.int .u64 (Pl.packI h))) w4) := ⟨hb4, c4⟩
  have CL : Hid (Chg [q.L] w3 (w3.setCell ⟨q.L, m, none⟩ (.int .u64 (Pl.packI h)))) := cL
  clear hb4 c4 cL
  go_wp2
  go_ret2
  have hh : w4.heap[q.L]? = some (.cells ((wordsC u H).setIfInBounds m (.int .u64 (Pl.packI h))) 28) := HB4.out.2.heap (heap_set S3.out.hL m _) (by simpa using n3)
  have hs4 : w4.heap[q.s]? = w3.heap[q.s]? := (HB4.out.2.heap (CL.out.heap S3.out.hs (by simpa using n1)) (by simpa using n2)).trans S3.out.hs.symm
  refine ⟨rfl, StAt.put S3.out hl HG.out.1 hs4 hh HB4.out.1, ?_⟩
  refine Chg.trans ?_ (HB4.out.2.mono (by simp [SId.all]))
  refine Chg.trans ?_ (CL.out.mono (by simp [SId.all]))
  exact (b0.mono (by simp [SId.all])).then hx3
end Go.Proofs.Qxb6500342a
