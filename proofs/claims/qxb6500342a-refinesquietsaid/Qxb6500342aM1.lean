/-
  The model: small functions.
-/
import Derived.Test.Qxb6500342aV31
namespace Go.Proofs.Qxb6500342a
open Go.RowKit
open Go.Proofs
open Pl (Hd)
open Tx (st)
set_option linter.unusedSimpArgs false
set_option linter.unusedVariables false
attribute [local go_sem] alloc_drewN setCell_drewN shape?_drewN

theorem tm_def (n W : Int) (h : 0 < W) : ∃ q, n = W * q + n.tmod W ∧ -W < n.tmod W ∧ n.tmod W < W :=
  ⟨n.tdiv W, (Int.mul_tdiv_add_tmod n W).symm, Int.lt_tmod_of_pos n h, Int.tmod_lt_of_pos n h⟩
set_option maxHeartbeats 1000000 in
theorem wrap16 (n : Int) (hn : in64 n) (w : World) : Calls Try.prog 32 #[.int .i64 n, .int .i64 (-32768), .int .i64 32767] w fun e w' => e = .returned (.int .i64 (Pl.sx16 n)) ∧ Ext w w' := by
  obtain ⟨q1, e1, b1, b2⟩ := tm_def n 65536 (by omega)
  generalize hT : n.tmod 65536 = T at *
  obtain ⟨q2, e2, b3, b4⟩ := tm_def (T + 32768) 65536 (by omega)
  have e3 : wrap64 (T + 32768) = (T + 32768) := IntWalk.wrap64_in _ (by omega)
  have HE : Hid (((T + 32768) : Int) = 65536 * q2 + (T + 32768).tmod 65536 ∧ n = 65536 * q1 + T) := ⟨e2, e1⟩
  clear e1 e2
  go_enter Try.func32, Try.ntmps32
  go_wp2
  go_region
  generalize (T + 32768).tmod 65536 = r at *
  by_cases h : r < 0
  · have d : decide (r < 0) = true := decide_eq_true h
    have e5 : wrap64 (r + 65536) = r + 65536 := IntWalk.wrap64_in _ (by omega)
    go_wp2
    go_ret
    refine ⟨ret_int ?_, (Ext.refl _).drew⟩
    have := HE.out
    (try rw [IntWalk.wrap64_in _ (by omega)])
    (try unfold Pl.sx16); (try unfold Pl.sx8)
    omega
  · have d : decide (r < 0) = false := decide_eq_false h
    go_wp2
    go_ret
    refine ⟨ret_int ?_, (Ext.refl _).drew⟩
    have := HE.out
    (try rw [IntWalk.wrap64_in _ (by omega)])
    (try unfold Pl.sx16); (try unfold Pl.sx8)
    omega

set_option maxHeartbeats 1000000 in
theorem wrap8 (n : Int) (hn : in64 n) (w : World) : Calls Try.prog 32 #[.int .i64 n, .int .i64 (-128), .int .i64 127] w fun e w' => e = .returned (.int .i64 (Pl.sx8 n)) ∧ Ext w w' := by
  obtain ⟨q1, e1, b1, b2⟩ := tm_def n 256 (by omega)
  generalize hT : n.tmod 256 = T at *
  obtain ⟨q2, e2, b3, b4⟩ := tm_def (T + 128) 256 (by omega)
  have e3 : wrap64 (T + 128) = (T + 128) := IntWalk.wrap64_in _ (by omega)
  have HE : Hid (((T + 128) : Int) = 256 * q2 + (T + 128).tmod 256 ∧ n = 256 * q1 + T) := ⟨e2, e1⟩
  clear e1 e2
  go_enter Try.func32, Try.ntmps32
  go_wp2
  go_region
  generalize (T + 128).tmod 256 = r at *
  by_cases h : r < 0
  · have d : decide (r < 0) = true := decide_eq_true h
    have e5 : wrap64 (r + 256) = r + 256 := IntWalk.wrap64_in _ (by omega)
    go_wp2
    go_ret
    refine ⟨ret_int ?_, (Ext.refl _).drew⟩
    have := HE.out
    (try rw [IntWalk.wrap64_in _ (by omega)])
    (try unfold Pl.sx16); (try unfold Pl.sx8)
    omega
  · have d : decide (r < 0) = false := decide_eq_false h
    go_wp2
    go_ret
    refine ⟨ret_int ?_, (Ext.refl _).drew⟩
    have := HE.out
    (try rw [IntWalk.wrap64_in _ (by omega)])
    (try unfold Pl.sx16); (try unfold Pl.sx8)
    omega

set_option maxHeartbeats 1000000 in
theorem wrapU8 (n : Int) (hn : in64 n) (w : World) : Calls Try.prog 32 #[.int .i64 n, .int .i64 (0), .int .i64 255] w fun e w' => e = .returned (.int .i64 (n % 256)) ∧ Ext w w' := by
  obtain ⟨q1, e1, b1, b2⟩ := tm_def n 256 (by omega)
  generalize hT : n.tmod 256 = T at *
  obtain ⟨q2, e2, b3, b4⟩ := tm_def T 256 (by omega)
  have e3 : wrap64 T = T := IntWalk.wrap64_in _ (by omega)
  have HE : Hid ((T : Int) = 256 * q2 + T.tmod 256 ∧ n = 256 * q1 + T) := ⟨e2, e1⟩
  clear e1 e2
  go_enter Try.func32, Try.ntmps32
  go_wp2
  go_region
  generalize T.tmod 256 = r at *
  by_cases h : r < 0
  · have d : decide (r < 0) = true := decide_eq_true h
    have e5 : wrap64 (r + 256) = r + 256 := IntWalk.wrap64_in _ (by omega)
    go_wp2
    go_ret
    refine ⟨ret_int ?_, (Ext.refl _).drew⟩
    have := HE.out
    (try rw [IntWalk.wrap64_in _ (by omega)])
    (try unfold Pl.sx16); (try unfold Pl.sx8)
    omega
  · have d : decide (r < 0) = false := decide_eq_false h
    go_wp2
    go_ret
    refine ⟨ret_int ?_, (Ext.refl _).drew⟩
    have := HE.out
    (try rw [IntWalk.wrap64_in _ (by omega)])
    (try unfold Pl.sx16); (try unfold Pl.sx8)
    omega

set_option maxHeartbeats 1000000 in
theorem wrapU16 (n : Int) (hn : in64 n) (w : World) : Calls Try.prog 32 #[.int .i64 n, .int .i64 (0), .int .i64 65535] w fun e w' => e = .returned (.int .i64 (n % 65536)) ∧ Ext w w' := by
  obtain ⟨q1, e1, b1, b2⟩ := tm_def n 65536 (by omega)
  generalize hT : n.tmod 65536 = T at *
  obtain ⟨q2, e2, b3, b4⟩ := tm_def T 65536 (by omega)
  have e3 : wrap64 T = T := IntWalk.wrap64_in _ (by omega)
  have HE : Hid ((T : Int) = 65536 * q2 + T.tmod 65536 ∧ n = 65536 * q1 + T) := ⟨e2, e1⟩
  clear e1 e2
  go_enter Try.func32, Try.ntmps32
  go_wp2
  go_region
  generalize T.tmod 65536 = r at *
  by_cases h : r < 0
  · have d : decide (r < 0) = true := decide_eq_true h
    have e5 : wrap64 (r + 65536) = r + 65536 := IntWalk.wrap64_in _ (by omega)
    go_wp2
    go_ret
    refine ⟨ret_int ?_, (Ext.refl _).drew⟩
    have := HE.out
    (try rw [IntWalk.wrap64_in _ (by omega)])
    (try unfold Pl.sx16); (try unfold Pl.sx8)
    omega
  · have d : decide (r < 0) = false := decide_eq_false h
    go_wp2
    go_ret
    refine ⟨ret_int ?_, (Ext.refl _).drew⟩
    have := HE.out
    (try rw [IntWalk.wrap64_in _ (by omega)])
    (try unfold Pl.sx16); (try unfold Pl.sx8)
    omega

theorem clamp16 (n : Int) (hn : 0 ≤ n ∧ n ≤ 65536) (w : World) : Calls Try.prog 18 #[.int .i64 n, .int .i64 0, .int .i64 65535] w fun e w' => e = .returned (.int .i64 (if n ≤ 65535 then n else 65535)) ∧ Ext w w' := by
  have h0 : decide (n < 0) = false := decide_eq_false (by omega)
  by_cases h : n ≤ 65535
  · have h1 : decide (65535 < n) = false := decide_eq_false (by omega)
    rw [if_pos h]
    go_enter Try.func18, Try.ntmps18
    go_wp2
    go_ret
    exact ⟨rfl, Ext.refl _⟩
  · have h1 : decide (65535 < n) = true := decide_eq_true (by omega)
    rw [if_neg h]
    go_enter Try.func18, Try.ntmps18
    go_wp2
    go_ret
    exact ⟨rfl, Ext.refl _⟩
def mZ : Array Value := #[.bool false, .bool false, .bool false, .bool false, .bool false, .bool false, .bool false, .bool false, .int .i64 0, .int .i64 0, .int .i64 0, .int .i64 0, .int .i64 0, .int .i64 0, .int .i64 0, .int .i64 0, .int .i64 0, .int .i64 0, .int .i64 0, .int .i64 0, .int .i64 0, .int .i64 0, .int .i64 0, .int .i64 0, .int .i64 0, .int .i64 0, .int .i64 0, .int .i64 0, .int .i64 0, .int .i64 0, .int .i64 0, .int .i64 0, .int .i64 0, .int .i64 0, .int .i64 0, .int .i64 0, .int .i64 0, .int .i64 0, .int .i64 0, .int .i64 0, .int .i64 0, .int .i64 0, .int .i64 0, .int .i64 0, .int .i64 0, .int .i64 0, .int .i64 0, .int .i64 0]
set_option maxHeartbeats 1000000 in
theorem mnew_any (w : World) : Calls Try.prog 47 #[] w fun e w' => e = .returned (.pointer (some ⟨w.heap.size, 0, none⟩)) ∧ w' = w.alloc (.cells mZ 96) := by
  go_enter Try.func47, Try.ntmps47
  go_wp2
  go_ret
  exact ⟨rfl, rfl⟩
set_option maxHeartbeats 1000000 in
theorem mpack_any (h : Hd) (hg : Pl.good h = true) (w : World) :
    Calls Try.prog 23 #[hdV h] w fun e w' => e = .returned (.int .u64 (Pl.packI h)) ∧ Ext w w' := by
  have G := (Pl.good_iff h).1 hg
  obtain ⟨k, d, l, f, s⟩ := h
  unfold hdV
  simp only at G ⊢
  have hx0 : ∀ w', Ext (w.alloc (.cells #[.int .i64 k, .int .i64 d, .int .i64 l, .int .i64 f, .int .i64 s] 27)) w' → w'.heap[w.heap.size]? = some (.cells #[.int .i64 k, .int .i64 d, .int .i64 l, .int .i64 f, .int .i64 s] 27) := fun w' hx => hx.heap (heap_alloc_new w _)
  go_enter Try.func23, Try.ntmps23
  go_wp2_with fail
  refine (wrapU8 k (by unfold in64; omega) _).mono ?_
  rintro e w1 ⟨rfl, x1⟩
  have c1 : w1.cell? ⟨w.heap.size, 1, none⟩ = some (.int .i64 d) := cell_of (hx0 w1 x1) 1
  go_wp2_with fail
  refine (wrapU16 d (by unfold in64; omega) _).mono ?_
  rintro e w2 ⟨rfl, x2⟩
  have x12 := x1.trans x2
  have c2 : w2.cell? ⟨w.heap.size, 2, none⟩ = some (.int .i64 l) := cell_of (hx0 w2 x12) 2
  have c3 : w2.cell? ⟨w.heap.size, 3, none⟩ = some (.int .i64 f) := cell_of (hx0 w2 x12) 3
  have c4 : w2.cell? ⟨w.heap.size, 4, none⟩ = some (.int .i64 s) := cell_of (hx0 w2 x12) 4
  have HP : Hid (Pl.packI ⟨k, d, l, f, s⟩ = k % 256 + d % 65536 * 256 + l * 16777216 + f * 1099511627776 + s * 35184372088832) := by
    show _ = _
    unfold Pl.packI
    simp only
    omega
  have b1 : 0 ≤ k % 256 ∧ k % 256 < 256 := by omega
  have b2 : 0 ≤ d % 65536 ∧ d % 65536 < 65536 := by omega
  clear hx0 hg c1
  generalize k % 256 = K at *
  generalize d % 65536 = D at *
  have r1 : wrap64 (D * 256) = D * 256 := IntWalk.wrap64_in _ (by omega)
  have r2 : wrap64 (K + D * 256) = K + D * 256 := IntWalk.wrap64_in _ (by omega)
  have r3 : wrap64 (l * 16777216) = l * 16777216 := IntWalk.wrap64_in _ (by omega)
  have r4 : wrap64 (K + D * 256 + l * 16777216) = K + D * 256 + l * 16777216 := IntWalk.wrap64_in _ (by omega)
  have r5 : wrap64 (f * 1099511627776) = f * 1099511627776 := IntWalk.wrap64_in _ (by omega)
  have r6 : wrap64 (K + D * 256 + l * 16777216 + f * 1099511627776) = K + D * 256 + l * 16777216 + f * 1099511627776 := IntWalk.wrap64_in _ (by omega)
  have r7 : wrap64 (s * 35184372088832) = s * 35184372088832 := IntWalk.wrap64_in _ (by omega)
  have r8 : wrap64 (K + D * 256 + l * 16777216 + f * 1099511627776 + s * 35184372088832) = K + D * 256 + l * 16777216 + f * 1099511627776 + s * 35184372088832 := IntWalk.wrap64_in _ (by omega)
  go_wp2
  go_ret
  refine ⟨ret_int ?_, ((Ext.refl _).alloc _).trans x12⟩
  rw [HP.out]
set_option maxHeartbeats 1000000 in
theorem munpack_any (x : Int) (h0 : 0 ≤ x) (h1 : x < 72057594037927936) (w : World) :
    Calls Try.prog 25 #[.int .u64 x] w fun e w' => e = .returned (hdV (Pl.unpackI x)) ∧ Ext w w' := by
  go_enter Try.func25, Try.ntmps25
  go_wp2_with fail
  refine (wrap8 (x % 256) (by unfold in64; omega) _).mono ?_
  rintro e w1 ⟨rfl, x1⟩
  have q1 := x1.heap (heap_alloc2 w _ _)
  have q0 := x1.heap (heap_alloc_lt (heap_alloc_new w _))
  have sz := x1.size
  have xa := (((Ext.refl w).alloc _).alloc _).trans x1
  rw [World.size_alloc, World.size_alloc] at sz
  have hx56 : x % 72057594037927936 = x := by omega
  have a0 : w1.cell? ⟨w.heap.size + 1, 0, none⟩ = some (.int .i64 0) := cell_of q1 0
  have a1 : w1.cell? ⟨w.heap.size + 1, 1, none⟩ = some (.int .i64 0) := cell_of q1 1
  have a2 : w1.cell? ⟨w.heap.size + 1, 2, none⟩ = some (.int .i64 0) := cell_of q1 2
  have a3 : w1.cell? ⟨w.heap.size + 1, 3, none⟩ = some (.int .i64 0) := cell_of q1 3
  have a4 : w1.cell? ⟨w.heap.size + 1, 4, none⟩ = some (.int .i64 0) := cell_of q1 4
  have af := frozen_of q1
  go_wp2_with fail
  refine (wrap16 (x / 256 % 65536) (by unfold in64; omega) _).mono ?_
  rintro e w2 ⟨rfl, x2⟩
  have p1 := x2.heap (heap_set q1 0 _)
  have p0 : w2.heap[w.heap.size]? = some (.cells #[.int .i64 0, .int .i64 0, .int .i64 0, .int .i64 0, .int .i64 0] 27) := x2.heap (by rw [heap_set_ne (by omega)]; exact q0)
  have sz2 := x2.size
  rw [size_set] at sz2
  have xb := (xa.setCell (p := ⟨w.heap.size + 1, 0, none⟩) (by simp) _).trans x2
  have d0 : w2.cell? ⟨w.heap.size + 1, 0, none⟩ = some (.int .i64 (Pl.sx8 (x % 256))) := cell_of p1 0
  have d1 : w2.cell? ⟨w.heap.size + 1, 1, none⟩ = some (.int .i64 (0)) := cell_of p1 1
  have d2 : w2.cell? ⟨w.heap.size + 1, 2, none⟩ = some (.int .i64 (0)) := cell_of p1 2
  have d3 : w2.cell? ⟨w.heap.size + 1, 3, none⟩ = some (.int .i64 (0)) := cell_of p1 3
  have d4 : w2.cell? ⟨w.heap.size + 1, 4, none⟩ = some (.int .i64 (0)) := cell_of p1 4
  have e0 : w2.cell? ⟨w.heap.size, 0, none⟩ = some (.int .i64 0) := cell_of p0 0
  have e1 : w2.cell? ⟨w.heap.size, 1, none⟩ = some (.int .i64 0) := cell_of p0 1
  have e2 : w2.cell? ⟨w.heap.size, 2, none⟩ = some (.int .i64 0) := cell_of p0 2
  have e3 : w2.cell? ⟨w.heap.size, 3, none⟩ = some (.int .i64 0) := cell_of p0 3
  have e4 : w2.cell? ⟨w.heap.size, 4, none⟩ = some (.int .i64 0) := cell_of p0 4
  have df := frozen_of p1
  have ef := frozen_of p0
  clear a0 a1 a2 a3 a4 af q1 q0 p1 p0 x1 x2 sz xa
  go_wp2
  apply bodyPost_ret
  focus (simp [results, Try.results25, go_sem, d0, d1, d2, d3, d4, e0, e1, e2, e3, e4, df, ef]; rfl)
  focus rfl
  refine ⟨?_, ?_⟩
  · have e : (⟨Pl.sx8 (x % 256), Pl.sx16 (x / 256 % 65536), x / 256 / 65536 % 65536, x / 256 / 65536 / 65536 % 32, x / 256 / 65536 / 65536 / 32⟩ : Hd) = Pl.unpackI x := by
      unfold Pl.unpackI Pl.sx8 Pl.sx16
      rw [Hd.mk.injEq]
      omega
    rw [← e]
    rfl
  · have g1 : w.heap.size ≤ w.heap.size + 1 := by omega
    have g0 : w.heap.size ≤ w.heap.size := by omega
    exact ((((((((xb.setCell g1 _).setCell g1 _).setCell g1 _).setCell g1 _).setCell g0 _).setCell g0 _).setCell g0 _).setCell g0 _).setCell g0 _
end Go.Proofs.Qxb6500342a
