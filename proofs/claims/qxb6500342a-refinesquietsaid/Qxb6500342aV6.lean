/-
  Walks 6: the store: new, free, at.
-/
import Derived.Test.Qxb6500342aV5
namespace Go.Proofs.Qxb6500342a
open Go.RowKit
open Go.Proofs
open Pl (Hd)
set_option linter.unusedSimpArgs false
set_option linter.unusedVariables false
attribute [local go_sem] alloc_drewN setCell_drewN shape?_drewN

/-- Slot i's word. -/
def wd (u : Nat) (H : Nat → Hd) (i : Nat) : Int := if u.testBit i then Pl.packI (H i) else 0
theorem wd_range (u : Nat) (H : Nat → Hd) (i : Nat) : 0 ≤ wd u H i ∧ wd u H i < 72057594037927936 := by
  unfold wd; split
  · exact Pl.pack_range _
  · omega
def wordsC (u : Nat) (H : Nat → Hd) : Array Value := ((List.range 8).map fun i => Value.int .u64 (wd u H i)).toArray
theorem wordsC_get (u : Nat) (H : Nat → Hd) (n : Nat) (hn : n < 8) : (wordsC u H)[n]? = some (.int .u64 (wd u H n)) := by
  simp [wordsC, hn]
theorem wordsC_size (u : Nat) (H : Nat → Hd) : (wordsC u H).size = 8 := by simp [wordsC]
structure SId where
  s : Nat
  L : Nat
  b : Nat
def SId.all (q : SId) : List Nat := [q.s, q.L, q.b]
structure StAt (w : World) (q : SId) (u : Nat) (H : Nat → Hd) : Prop where
  hs : w.heap[q.s]? = some (.cells #[.slice (some ⟨q.L, 0, none⟩) 8 8, .pointer (some ⟨q.b, 0, none⟩)] 70)
  hL : w.heap[q.L]? = some (.cells (wordsC u H) 28)
  hb : BoardAt w q.b u
  lt : u < 256
  good : ∀ i, i < 8 → u.testBit i = true → Pl.good (H i) = true
  nd : q.all.Nodup
theorem StAt.ext {w w' : World} {q : SId} {u : Nat} {H : Nat → Hd} (h : StAt w q u H) (hx : Ext w w') : StAt w' q u H := ⟨hx.heap h.hs, hx.heap h.hL, h.hb.ext hx, h.lt, h.good, h.nd⟩
theorem StAt.chg {S : List Nat} {w w' : World} {q : SId} {u : Nat} {H : Nat → Hd} (h : StAt w q u H) (hx : Chg S w w') (hS : ∀ k, k ∈ q.all → k ∉ S) : StAt w' q u H :=
  ⟨hx.heap h.hs (hS _ (by simp [SId.all])), hx.heap h.hL (hS _ (by simp [SId.all])), h.hb.chg hx (hS _ (by simp [SId.all])), h.lt, h.good, h.nd⟩
theorem StAt.ne {w : World} {q : SId} {u : Nat} {H : Nat → Hd} (h : StAt w q u H) : q.s ≠ q.L ∧ q.s ≠ q.b ∧ q.L ≠ q.b := by have := h.nd; simp [SId.all] at this; omega

theorem mk8 (w : World) : (Instr.makeSlice 68 (.int .i64 8) (.int .i64 8)).run Try.prog w = .ok (.slice (some ⟨w.heap.size, 0, none⟩) 8 8) (w.alloc (.cells (Array.replicate 8 (.int .u64 0)) 28)) := by kernel_rfl
set_option maxHeartbeats 400000 in
theorem pnew_any (w : World) (b : Nat) (hb : BoardAt w b 0) (H : Nat → Hd) : Calls Try.prog 28 #[.pointer (some ⟨b, 0, none⟩)] w fun e w' => ∃ q : SId, q.b = b ∧ w.heap.size ≤ q.s ∧ w.heap.size ≤ q.L ∧ e = .returned (.pointer (some ⟨q.s, 0, none⟩)) ∧ StAt w' q 0 H ∧ Ext w w' := by
  have h8 := mk8
  have HB : Hid (BoardAt w b 0) := hb
  have hlt := lt_of_heap hb
  clear hb
  go_enter Try.func28, Try.ntmps28
  go_wp2
  go_ret
  have hx : Ext w ((w.alloc (.cells (Array.replicate 8 (.int .u64 0)) 28)).alloc (.cells #[.slice (some ⟨w.heap.size, 0, none⟩) 8 8, .pointer (some ⟨b, 0, none⟩)] 70)) := ((Ext.refl _).alloc _).alloc _
  refine ⟨⟨w.heap.size + 1, w.heap.size, b⟩, rfl, by simp, by simp, rfl, ⟨?_, ?_, HB.out.ext hx, by omega, by simp, by simp [SId.all]; omega⟩, hx⟩
  · have := heap_alloc_new (w.alloc (.cells (Array.replicate 8 (.int .u64 0)) 28)) (.cells #[.slice (some ⟨w.heap.size, 0, none⟩) 8 8, .pointer (some ⟨b, 0, none⟩)] 70)
    rw [World.size_alloc] at this
    exact this
  · rw [heap_alloc_lt (heap_alloc_new _ _)]
    have : wordsC 0 H = Array.replicate 8 (.int .u64 0) := by simp [wordsC, wd, List.range, List.range.loop, Array.replicate, List.replicate]
    rw [this]

set_option maxHeartbeats 1000000 in
theorem free_any (w : World) (q : SId) (u : Nat) (H : Nat → Hd) (h : StAt w q u H) : Calls Try.prog 51 #[.pointer (some ⟨q.s, 0, none⟩)] w fun e w' => e = .returned (.int .i64 (Bd.low u)) ∧ StAt w' q u H ∧ Chg [q.b] w w' := by
  obtain ⟨n1, n2, n3⟩ := h.ne
  have hlt := h.lt
  have HH : Hid (StAt w q u H) := h
  have g1 : ∀ w', Chg [q.b] w w' → w'.cell? ⟨q.s, 1, none⟩ = some (.pointer (some ⟨q.b, 0, none⟩)) := fun w' hx => cell_of (hx.heap h.hs (by simpa using n2)) 1
  have hx0 := Chg.refl [q.b] w
  clear h
  go_enter Try.func51, Try.ntmps51
  go_wp2_with fail
  refine (flip_any w q.b u HH.out.hb (by omega)).mono ?_
  rintro e w1 ⟨rfl, hb1, c1⟩
  have HB1 : Hid (BoardAt w1 q.b (18446744073709551615 - u)) := hb1
  clear hb1
  go_wp2_with fail
  refine (lowest_any w1 q.b u HB1.out hlt).mono ?_
  rintro e w2 ⟨rfl, x2⟩
  have c2 := c1.then x2
  go_wp2_with fail
  refine (flip_any w2 q.b (18446744073709551615 - u) (HB1.out.ext x2) (by omega)).mono ?_
  rintro e w3 ⟨rfl, hb3, c3⟩
  have HB3 : Hid (BoardAt w3 q.b u) := by rw [show 18446744073709551615 - (18446744073709551615 - u) = u from by omega] at hb3; exact hb3
  clear hb3
  have c4 := c2.trans c3
  go_wp2
  go_ret
  refine ⟨rfl, ⟨c4.heap HH.out.hs (by simpa using n2), c4.heap HH.out.hL (by simpa using n3), HB3.out, HH.out.lt, HH.out.good, HH.out.nd⟩, c4⟩

/-- What a slot's test answers. -/
def atE (u : Nat) (n : Int) : Int := if n < 0 ∨ 8 ≤ n then 2 else if u.testBit n.toNat then 0 else 8
set_option maxHeartbeats 400000 in
theorem at_any (w : World) (q : SId) (u : Nat) (H : Nat → Hd) (n : Int) (h : StAt w q u H) : Calls Try.prog 53 #[.pointer (some ⟨q.s, 0, none⟩), .int .i64 n] w fun e w' => e = .returned (.int .i64 (atE u n)) ∧ Ext w w' := by
  have HH : Hid (StAt w q u H) := h
  have g1 : w.cell? ⟨q.s, 1, none⟩ = some (.pointer (some ⟨q.b, 0, none⟩)) := cell_of h.hs 1
  have hlt := h.lt
  clear h
  by_cases h0 : n < 0
  · have d0 : decide (n < 0) = true := decide_eq_true h0
    have HE : Hid (atE u n = 2) := by show _ = _; unfold atE; rw [if_pos (.inl h0)]
    go_enter Try.func53, Try.ntmps53
    go_wp2
    go_ret
    exact ⟨ret_int HE.out.symm, Ext.refl _⟩
  · have d0 : decide (n < 0) = false := decide_eq_false h0
    by_cases h8 : 8 ≤ n
    · have d1 : decide (8 ≤ n) = true := decide_eq_true h8
      have HE : Hid (atE u n = 2) := by show _ = _; unfold atE; rw [if_pos (.inr h8)]
      go_enter Try.func53, Try.ntmps53
      go_wp2
      go_ret
      exact ⟨ret_int HE.out.symm, Ext.refl _⟩
    · have d1 : decide (8 ≤ n) = false := decide_eq_false h8
      obtain ⟨m, rfl⟩ := Int.eq_ofNat_of_zero_le (show 0 ≤ n by omega)
      have HE : Hid (atE u (m : Int) = if u.testBit m then 0 else 8) := by show _ = _; unfold atE; rw [if_neg (by omega), Int.toNat_natCast]
      go_enter Try.func53, Try.ntmps53
      go_wp2_with fail
      refine (has_in w q.b u m HH.out.hb (by omega) (by omega)).mono ?_
      rintro e w1 ⟨rfl, x1⟩
      cases hb : u.testBit m
      · rw [hb] at HE
        clear hb
        go_wp2
        go_ret
        exact ⟨ret_int HE.out.symm, x1⟩
      · rw [hb] at HE
        clear hb
        go_wp2
        go_ret
        exact ⟨ret_int HE.out.symm, x1⟩
end Go.Proofs.Qxb6500342a
