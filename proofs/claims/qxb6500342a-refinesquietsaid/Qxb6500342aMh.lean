/-
  The model's store in memory.
-/
import Derived.Test.Qxb6500342aM1
namespace Go.Proofs.Qxb6500342a
open Go.RowKit
open Go.Proofs
open Pl (Hd)
open Tx (st)
set_option linter.unusedSimpArgs false
set_option linter.unusedVariables false
attribute [local go_sem] alloc_drewN setCell_drewN shape?_drewN

theorem GhIn.hd48 {C : Array Value} {u : Nat} {H : Nat → Hd} (hg : GhIn C u H) (hs : 48 ≤ C.size) {n : Nat} (hn : n < 8) (h : Hd) : GhIn (set5 C (8 + n * 5) h) u (upd H n h) := by
  obtain ⟨a0, a1, a2, a3, a4⟩ := set5_in C (8 + n * 5) h (by omega)
  have ho : ∀ j, (j < 8 + n * 5 ∨ 8 + n * 5 + 5 ≤ j) → (set5 C (8 + n * 5) h)[j]? = C[j]? := fun j hj => set5_out _ _ _ hj
  generalize set5 C (8 + n * 5) h = C' at *
  have hne : ∀ i, i ≠ n → upd H n h i = H i := fun i e => by simp [upd, e]
  have heq : upd H n h n = h := by simp [upd]
  refine ⟨fun i hi => ?_, fun i hi => ?_, fun i hi => ?_, fun i hi => ?_, fun i hi => ?_, fun i hi => ?_⟩
  · rw [ho i (by omega)]; exact hg.used i hi
  · by_cases e : i = n
    · subst e; rw [heq]; exact a0
    · rw [ho _ (by omega), hne i e]; exact hg.k i hi
  · by_cases e : i = n
    · subst e; rw [heq]; exact a1
    · rw [ho _ (by omega), hne i e]; exact hg.d i hi
  · by_cases e : i = n
    · subst e; rw [heq]; exact a2
    · rw [ho _ (by omega), hne i e]; exact hg.l i hi
  · by_cases e : i = n
    · subst e; rw [heq]; exact a3
    · rw [ho _ (by omega), hne i e]; exact hg.f i hi
  · by_cases e : i = n
    · subst e; rw [heq]; exact a4
    · rw [ho _ (by omega), hne i e]; exact hg.s i hi
theorem GhIn.use48 {C : Array Value} {u v : Nat} {H : Nat → Hd} (hg : GhIn C u H) (hs : 48 ≤ C.size) {n : Nat} (hn : n < 8) (b : Bool) (hv : ∀ i, i < 8 → v.testBit i = if i = n then b else u.testBit i) : GhIn (C.setIfInBounds n (.bool b)) v H := by
  refine ⟨fun i hi => ?_, fun i hi => ?_, fun i hi => ?_, fun i hi => ?_, fun i hi => ?_, fun i hi => ?_⟩
  · rw [hv i hi]
    by_cases e : i = n
    · subst e; rw [set_eq (by omega), if_pos rfl]
    · rw [set_ne (fun h => e h.symm), if_neg e]; exact hg.used i hi
  · rw [set_ne (by omega)]; exact hg.k i hi
  · rw [set_ne (by omega)]; exact hg.d i hi
  · rw [set_ne (by omega)]; exact hg.l i hi
  · rw [set_ne (by omega)]; exact hg.f i hi
  · rw [set_ne (by omega)]; exact hg.s i hi
/-- The model's store: a block of 48 cells. -/
structure MAt (w : World) (m : Nat) (C : Array Value) (u : Nat) (G : Nat → Hd) : Prop where
  heap : w.heap[m]? = some (.cells C 96)
  size : C.size = 48
  gi : GhIn C u G
theorem MAt.ext {w w' : World} {m : Nat} {C : Array Value} {u : Nat} {G : Nat → Hd} (h : MAt w m C u G) (hx : Ext w w') : MAt w' m C u G := ⟨hx.heap h.heap, h.size, h.gi⟩
theorem MAt.chg {S : List Nat} {w w' : World} {m : Nat} {C : Array Value} {u : Nat} {G : Nat → Hd} (h : MAt w m C u G) (hx : Chg S w w') (hn : m ∉ S) : MAt w' m C u G := ⟨hx.heap h.heap hn, h.size, h.gi⟩
theorem MAt.rd {w : World} {g : Nat} {C : Array Value} {u : Nat} {H : Nat → Hd} (hg : MAt w g C u H) {n : Nat} (hn : n < 8) : GhR w g u H n :=
  ⟨(cell_of hg.heap _).trans (hg.gi.used n hn), (cell_of hg.heap _).trans (hg.gi.k n hn), (cell_of hg.heap _).trans (hg.gi.d n hn), (cell_of hg.heap _).trans (hg.gi.l n hn), (cell_of hg.heap _).trans (hg.gi.f n hn), (cell_of hg.heap _).trans (hg.gi.s n hn)⟩
theorem MAt.hd {w w' : World} {g : Nat} {C : Array Value} {u : Nat} {H : Nat → Hd} (hg : MAt w g C u H) {n : Nat} (hn : n < 8) (x : Hd) (hh : w'.heap[g]? = some (.cells (set5 C (8 + n * 5) x) 96)) : MAt w' g (set5 C (8 + n * 5) x) u (upd H n x) :=
  ⟨hh, by rw [set5_size]; exact hg.size, hg.gi.hd48 (by rw [hg.size]; omega) hn x⟩
theorem MAt.use {w w' : World} {g : Nat} {C : Array Value} {u v : Nat} {H : Nat → Hd} (hg : MAt w g C u H) {n : Nat} (hn : n < 8) (b : Bool) (hv : ∀ i, i < 8 → v.testBit i = if i = n then b else u.testBit i) (hh : w'.heap[g]? = some (.cells (C.setIfInBounds n (.bool b)) 96)) : MAt w' g (C.setIfInBounds n (.bool b)) v H :=
  ⟨hh, by simpa using hg.size, hg.gi.use48 (by rw [hg.size]; omega) hn b hv⟩
theorem mZ_low : (∀ i : Fin 8, mZ[i.val]? = some (.bool false)) ∧ (∀ i : Fin 40, mZ[8 + i.val]? = some (.int .i64 0)) := by
  constructor
  · rintro ⟨i, hi⟩
    match i, hi with
    | 0, _ | 1, _ | 2, _ | 3, _ | 4, _ | 5, _ | 6, _ | 7, _ => rfl
  · rintro ⟨i, hi⟩
    match i, hi with
    | 0, _ | 1, _ | 2, _ | 3, _ | 4, _ | 5, _ | 6, _ | 7, _ | 8, _ | 9, _ | 10, _ | 11, _ | 12, _ | 13, _ | 14, _ | 15, _ | 16, _ | 17, _ | 18, _ | 19, _ | 20, _ | 21, _ | 22, _ | 23, _ | 24, _ | 25, _ | 26, _ | 27, _ | 28, _ | 29, _ | 30, _ | 31, _ | 32, _ | 33, _ | 34, _ | 35, _ | 36, _ | 37, _ | 38, _ | 39, _ => rfl
    | _ + 40, hn => omega
theorem m_fresh {w : World} {m : Nat} (h : w.heap[m]? = some (.cells mZ 96)) : MAt w m mZ 0 (fun _ => Pl.zeroH) := by
  obtain ⟨h1, h2⟩ := mZ_low
  refine ⟨h, rfl, fun i hi => ?_, fun i hi => ?_, fun i hi => ?_, fun i hi => ?_, fun i hi => ?_, fun i hi => ?_⟩
  · rw [Nat.zero_testBit]; exact h1 ⟨i, hi⟩
  · exact h2 ⟨i * 5, by omega⟩
  · rw [Nat.add_assoc]; exact h2 ⟨i * 5 + 1, by omega⟩
  · rw [Nat.add_assoc]; exact h2 ⟨i * 5 + 2, by omega⟩
  · rw [Nat.add_assoc]; exact h2 ⟨i * 5 + 3, by omega⟩
  · rw [Nat.add_assoc]; exact h2 ⟨i * 5 + 4, by omega⟩
theorem remB_bit {u n : Nat} (hu : u < 256) (hn : n < 8) : ∀ i, i < 8 → (remB u n).testBit i = if i = n then false else u.testBit i := by
  have key : ∀ u : Fin 256, ∀ n : Fin 8, ∀ i : Fin 8, (remB u.val n.val).testBit i.val = if i.val = n.val then false else u.val.testBit i.val := by decide +kernel
  exact fun i hi => key ⟨u, hu⟩ ⟨n, hn⟩ ⟨i, hi⟩
theorem addB_bit {u n : Nat} (hu : u < 256) (hn : n < 8) : ∀ i, i < 8 → (u ||| 2 ^ n).testBit i = if i = n then true else u.testBit i := by
  have key : ∀ u : Fin 256, ∀ n : Fin 8, ∀ i : Fin 8, (u.val ||| 2 ^ n.val).testBit i.val = if i.val = n.val then true else u.val.testBit i.val := by decide +kernel
  exact fun i hi => key ⟨u, hu⟩ ⟨n, hn⟩ ⟨i, hi⟩
theorem low_at {u k : Nat} (hu : u < 256) (hk : k < 8) (h : ∀ j, j < k → u.testBit j = true) (h0 : u.testBit k = false) : Bd.low u = k := by
  have key : ∀ u : Fin 256, ∀ k : Fin 8, (∀ j : Fin 8, j.val < k.val → u.val.testBit j.val = true) → u.val.testBit k.val = false → Bd.low u.val = k.val := by decide +kernel
  exact key ⟨u, hu⟩ ⟨k, hk⟩ (fun j hj => h j.val hj) h0
theorem low_full {u : Nat} (hu : u < 256) (h : ∀ j, j < 8 → u.testBit j = true) : ¬ Bd.low u < 8 := by
  have key : ∀ u : Fin 256, (∀ j : Fin 8, u.val.testBit j.val = true) → ¬ Bd.low u.val < 8 := by decide +kernel
  exact key ⟨u, hu⟩ (fun j => h j.val j.isLt)
def cTo (u : Nat) (k : Nat) : Nat := ((List.range k).filter fun i => u.testBit i).length
theorem cTo_on (u k : Nat) (h : u.testBit k = true) : cTo u (k + 1) = cTo u k + 1 := by simp [cTo, List.range_succ, h]
theorem cTo_off (u k : Nat) (h : u.testBit k = false) : cTo u (k + 1) = cTo u k := by simp [cTo, List.range_succ, h]
theorem cTo_le (u k : Nat) : cTo u k ≤ k := by
  unfold cTo
  exact Nat.le_trans (List.length_filter_le _ _) (by simp)
end Go.Proofs.Qxb6500342a
