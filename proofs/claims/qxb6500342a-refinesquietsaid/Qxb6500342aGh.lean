/-
  The ghost's slots, plain: what a store into them leaves.
-/
import Derived.Test.Qxb6500342aV20
namespace Go.Proofs.Qxb6500342a
open Go.RowKit
open Go.Proofs
open Pl (Hd)
open Tx (st)
set_option linter.unusedSimpArgs false
set_option linter.unusedVariables false
attribute [local go_sem] alloc_drewN setCell_drewN shape?_drewN

def cF (u m : Nat) : Nat := ((List.range 8).filter fun i => decide (m ≤ i) && u.testBit i).length
def lF (u m : Nat) : Int := match (List.range 8).find? (fun i => decide (m ≤ i) && !u.testBit i) with
  | some i => (i : Int)
  | none => -1
theorem cF_on256 : ∀ u : Fin 256, ∀ m : Fin 8, u.val.testBit m.val = true → cF u.val m.val = cF u.val (m.val + 1) + 1 ∧ lF u.val m.val = lF u.val (m.val + 1) := by decide +kernel
theorem cF_off256 : ∀ u : Fin 256, ∀ m : Fin 8, u.val.testBit m.val = false → cF u.val m.val = cF u.val (m.val + 1) ∧ lF u.val m.val = (m.val : Int) := by decide +kernel
theorem cF_end256 : ∀ u : Fin 256, cF u.val 0 = Bd.cnt u.val ∧ lF u.val 0 = (if Bd.low u.val < 8 then (Bd.low u.val : Int) else -1) := by decide +kernel
theorem cF_on (u m : Nat) (hu : u < 256) (hm : m < 8) (h : u.testBit m = true) : cF u m = cF u (m + 1) + 1 ∧ lF u m = lF u (m + 1) := cF_on256 ⟨u, hu⟩ ⟨m, hm⟩ h
theorem cF_off (u m : Nat) (hu : u < 256) (hm : m < 8) (h : u.testBit m = false) : cF u m = cF u (m + 1) ∧ lF u m = (m : Int) := cF_off256 ⟨u, hu⟩ ⟨m, hm⟩ h
theorem cF_end (u : Nat) (hu : u < 256) : cF u 0 = Bd.cnt u ∧ lF u 0 = (if Bd.low u < 8 then (Bd.low u : Int) else -1) := cF_end256 ⟨u, hu⟩
theorem cF_le (u m : Nat) : cF u m ≤ 8 := by
  have := List.length_filter_le (fun i => decide (m ≤ i) && u.testBit i) (List.range 8)
  simpa [cF] using this
theorem cF_8 (u : Nat) (hu : u < 256) : cF u 8 = 0 ∧ lF u 8 = -1 := by
  have : ∀ u : Fin 256, cF u.val 8 = 0 ∧ lF u.val 8 = -1 := by decide +kernel
  exact this ⟨u, hu⟩
theorem set_ne {C : Array Value} {i j : Nat} (h : i ≠ j) (v : Value) : (C.setIfInBounds i v)[j]? = C[j]? := Array.getElem?_setIfInBounds_ne h
theorem set_eq {C : Array Value} {i : Nat} (h : i < C.size) (v : Value) : (C.setIfInBounds i v)[i]? = some v := by simp [h]
abbrev set5 (C : Array Value) (p : Nat) (h : Hd) : Array Value := ((((C.setIfInBounds p (.int .i64 h.k)).setIfInBounds (p + 1) (.int .i64 h.d)).setIfInBounds (p + 2) (.int .i64 h.l)).setIfInBounds (p + 3) (.int .i64 h.f)).setIfInBounds (p + 4) (.int .i64 h.s)
theorem set5_out (C : Array Value) (p : Nat) (h : Hd) {j : Nat} (hj : j < p ∨ p + 5 ≤ j) : (set5 C p h)[j]? = C[j]? := by
  unfold set5
  rw [set_ne (by omega), set_ne (by omega), set_ne (by omega), set_ne (by omega), set_ne (by omega)]
theorem set5_in (C : Array Value) (p : Nat) (h : Hd) (hs : p + 4 < C.size) : (set5 C p h)[p]? = some (.int .i64 h.k) ∧ (set5 C p h)[p + 1]? = some (.int .i64 h.d) ∧ (set5 C p h)[p + 2]? = some (.int .i64 h.l) ∧ (set5 C p h)[p + 3]? = some (.int .i64 h.f) ∧ (set5 C p h)[p + 4]? = some (.int .i64 h.s) := by
  unfold set5
  refine ⟨?_, ?_, ?_, ?_, ?_⟩
  · rw [set_ne (by omega), set_ne (by omega), set_ne (by omega), set_ne (by omega), set_eq (by omega)]
  · rw [set_ne (by omega), set_ne (by omega), set_ne (by omega), set_eq (by simp; omega)]
  · rw [set_ne (by omega), set_ne (by omega), set_eq (by simp; omega)]
  · rw [set_ne (by omega), set_eq (by simp; omega)]
  · rw [set_eq (by simp; omega)]
theorem set5_size (C : Array Value) (p : Nat) (h : Hd) : (set5 C p h).size = C.size := by simp [set5]
theorem GhIn.hd {C : Array Value} {u : Nat} {H : Nat → Hd} (hg : GhIn C u H) (hs : C.size = 54) {n : Nat} (hn : n < 8) (h : Hd) : GhIn (set5 C (8 + n * 5) h) u (upd H n h) := by
  obtain ⟨a0, a1, a2, a3, a4⟩ := set5_in C (8 + n * 5) h (by omega)
  have ho : ∀ j, (j < 8 + n * 5 ∨ 8 + n * 5 + 5 ≤ j) → (set5 C (8 + n * 5) h)[j]? = C[j]? := fun j hj => set5_out _ _ _ hj
  generalize set5 C (8 + n * 5) h = C' at *
  have hne : ∀ i, i ≠ n → upd H n h i = H i := fun i e => by simp [upd, e]
  have heq : upd H n h n = h := by simp [upd]
  refine ⟨fun i hi => ?_, fun i hi => ?_, fun i hi => ?_, fun i hi => ?_, fun i hi => ?_, fun i hi => ?_⟩
  · rw [ho i (by omega)]; exact hg.used i hi
  · by_cases e : i = n
    · subst e; rw [heq]; exact a0
    · rw [ho _ (by omega), hne i e]; exact hg.k i hi
  · by_cases e : i = n
    · subst e; rw [heq]; exact a1
    · rw [ho _ (by omega), hne i e]; exact hg.d i hi
  · by_cases e : i = n
    · subst e; rw [heq]; exact a2
    · rw [ho _ (by omega), hne i e]; exact hg.l i hi
  · by_cases e : i = n
    · subst e; rw [heq]; exact a3
    · rw [ho _ (by omega), hne i e]; exact hg.f i hi
  · by_cases e : i = n
    · subst e; rw [heq]; exact a4
    · rw [ho _ (by omega), hne i e]; exact hg.s i hi
theorem GhIn.use {C : Array Value} {u v : Nat} {H : Nat → Hd} (hg : GhIn C u H) (hs : C.size = 54) {n : Nat} (hn : n < 8) (b : Bool) (hv : ∀ i, i < 8 → v.testBit i = if i = n then b else u.testBit i) : GhIn (C.setIfInBounds n (.bool b)) v H := by
  refine ⟨fun i hi => ?_, fun i hi => ?_, fun i hi => ?_, fun i hi => ?_, fun i hi => ?_, fun i hi => ?_⟩
  · rw [hv i hi]
    by_cases e : i = n
    · subst e; rw [set_eq (by omega), if_pos rfl]
    · rw [set_ne (fun h => e h.symm), if_neg e]; exact hg.used i hi
  · rw [set_ne (by omega)]; exact hg.k i hi
  · rw [set_ne (by omega)]; exact hg.d i hi
  · rw [set_ne (by omega)]; exact hg.l i hi
  · rw [set_ne (by omega)]; exact hg.f i hi
  · rw [set_ne (by omega)]; exact hg.s i hi
theorem DkIn.keep {C C' : Array Value} {h : Hd} {img : ByteArray} (hd : DkIn C 48 h img) (hs : ∀ j, 48 ≤ j → C'[j]? = C[j]?) : DkIn C' 48 h img := by
  refine ⟨?_, ?_, ?_, ?_, ?_, ?_⟩ <;> rw [hs _ (by omega)]
  · exact hd.k
  · exact hd.d
  · exact hd.l
  · exact hd.f
  · exact hd.s
  · exact hd.i
theorem GhAt.hd {w w' : World} {g : Nat} {C : Array Value} {u : Nat} {H : Nat → Hd} {h : Hd} {img : ByteArray} (hg : GhAt w g C u H h img) {n : Nat} (hn : n < 8) (x : Hd) (hh : w'.heap[g]? = some (.cells (set5 C (8 + n * 5) x) 56)) : GhAt w' g (set5 C (8 + n * 5) x) u (upd H n x) h img :=
  ⟨hh, by rw [set5_size]; exact hg.size, hg.gi.hd hg.size hn x, hg.dk.keep fun j hj => set5_out _ _ _ (by omega)⟩
theorem GhAt.use {w w' : World} {g : Nat} {C : Array Value} {u v : Nat} {H : Nat → Hd} {h : Hd} {img : ByteArray} (hg : GhAt w g C u H h img) {n : Nat} (hn : n < 8) (b : Bool) (hv : ∀ i, i < 8 → v.testBit i = if i = n then b else u.testBit i) (hh : w'.heap[g]? = some (.cells (C.setIfInBounds n (.bool b)) 56)) : GhAt w' g (C.setIfInBounds n (.bool b)) v H h img :=
  ⟨hh, by simpa using hg.size, hg.gi.use hg.size hn b hv, hg.dk.keep fun j hj => set_ne (by omega) _⟩
theorem heap_set5 {w : World} {b : Nat} {C : Array Value} {t : TypeId} (h : w.heap[b]? = some (.cells C t)) (p : Nat) (x : Hd) :
    (((((w.setCell ⟨b, p, none⟩ (.int .i64 x.k)).setCell ⟨b, p + 1, none⟩ (.int .i64 x.d)).setCell ⟨b, p + 2, none⟩ (.int .i64 x.l)).setCell ⟨b, p + 3, none⟩ (.int .i64 x.f)).setCell ⟨b, p + 4, none⟩ (.int .i64 x.s)).heap[b]? = some (.cells (set5 C p x) t) :=
  heap_set (heap_set (heap_set (heap_set (heap_set h _ _) _ _) _ _) _ _) _ _
/-- What may be read of the ghost. -/
structure GhR (w : World) (g : Nat) (u : Nat) (H : Nat → Hd) (n : Nat) : Prop where
  u : w.cell? ⟨g, n, none⟩ = some (.bool (u.testBit n))
  k : w.cell? ⟨g, 8 + n * 5, none⟩ = some (.int .i64 (H n).k)
  d : w.cell? ⟨g, 8 + n * 5 + 1, none⟩ = some (.int .i64 (H n).d)
  l : w.cell? ⟨g, 8 + n * 5 + 2, none⟩ = some (.int .i64 (H n).l)
  f : w.cell? ⟨g, 8 + n * 5 + 3, none⟩ = some (.int .i64 (H n).f)
  s : w.cell? ⟨g, 8 + n * 5 + 4, none⟩ = some (.int .i64 (H n).s)
theorem GhAt.rd {w : World} {g : Nat} {C : Array Value} {u : Nat} {H : Nat → Hd} {h : Hd} {img : ByteArray} (hg : GhAt w g C u H h img) {n : Nat} (hn : n < 8) : GhR w g u H n :=
  ⟨(cell_of hg.heap _).trans (hg.gi.used n hn), (cell_of hg.heap _).trans (hg.gi.k n hn), (cell_of hg.heap _).trans (hg.gi.d n hn), (cell_of hg.heap _).trans (hg.gi.l n hn), (cell_of hg.heap _).trans (hg.gi.f n hn), (cell_of hg.heap _).trans (hg.gi.s n hn)⟩
def OwR (u : Nat) (n f i : Value) : Prop := ∃ m : Nat, m ≤ 8 ∧ i = .int .i64 ((m : Int) - 1) ∧ n = .int .i64 (cF u m : Nat) ∧ f = .int .i64 (lF u m)
theorem heap_drew (w : World) : w.drew.heap = w.heap := rfl
/-- The ghost behind a store of four cells elsewhere. -/
theorem heap_set4 {w : World} {g r : Nat} (hgn : g ≠ r) (x y z v : Value) : ((((w.setCell ⟨r, 0, none⟩ x).setCell ⟨r, 1, none⟩ y).setCell ⟨r, 2, none⟩ z).setCell ⟨r, 3, none⟩ v).heap[g]? = w.heap[g]? := by
  rw [heap_set_ne hgn, heap_set_ne hgn, heap_set_ne hgn, heap_set_ne hgn]
theorem heap_set5_ne {w : World} {b r p : Nat} (h : r ≠ b) (x : Hd) :
    (((((w.setCell ⟨b, p, none⟩ (.int .i64 x.k)).setCell ⟨b, p + 1, none⟩ (.int .i64 x.d)).setCell ⟨b, p + 2, none⟩ (.int .i64 x.l)).setCell ⟨b, p + 3, none⟩ (.int .i64 x.f)).setCell ⟨b, p + 4, none⟩ (.int .i64 x.s)).heap[r]? = w.heap[r]? := by
  rw [heap_set_ne h, heap_set_ne h, heap_set_ne h, heap_set_ne h, heap_set_ne h]
theorem chg_set5 {S : List Nat} {w w1 : World} {b p : Nat} (h : Chg S w w1) (hb : b ∈ S ∨ w.heap.size ≤ b) (x : Hd) :
    Chg S w (((((w1.setCell ⟨b, p, none⟩ (.int .i64 x.k)).setCell ⟨b, p + 1, none⟩ (.int .i64 x.d)).setCell ⟨b, p + 2, none⟩ (.int .i64 x.l)).setCell ⟨b, p + 3, none⟩ (.int .i64 x.f)).setCell ⟨b, p + 4, none⟩ (.int .i64 x.s)) :=
  ((((h.setCell hb _).setCell hb _).setCell hb _).setCell hb _).setCell hb _
theorem chg_set4 {S : List Nat} {w w1 : World} {r : Nat} (h : Chg S w w1) (hb : r ∈ S ∨ w.heap.size ≤ r) (x y z v : Value) :
    Chg S w ((((w1.setCell ⟨r, 0, none⟩ x).setCell ⟨r, 1, none⟩ y).setCell ⟨r, 2, none⟩ z).setCell ⟨r, 3, none⟩ v) :=
  (((h.setCell hb _).setCell hb _).setCell hb _).setCell hb _
end Go.Proofs.Qxb6500342a
