/-
  Walks 18: the registers and the players: Note.
-/
import Derived.Test.Qxb6500342aV16
namespace Go.Proofs.Qxb6500342a
open Go.RowKit
open Go.Proofs
open Pl (Hd)
open Tx (st)
set_option linter.unusedSimpArgs false
set_option linter.unusedVariables false
attribute [local go_sem] alloc_drewN setCell_drewN shape?_drewN

/-- A script's step. -/
structure Stp where
  k : Int
  a : Int
  b : Int
  c : Int
  s : ByteArray
  t : ByteArray
def opV (o : Stp) : Value := .agg #[.int .i64 o.k, .int .i64 o.a, .int .i64 o.b, .int .i64 o.c, .string o.s, .string o.t]
/-- An answer. -/
structure An where
  e : Int
  n : Int
  s : List Nat
def anV (a : An) : Value := .agg #[.int .i64 a.e, .int .i64 a.n, .int .i64 0, .string (st a.s)]
/-- The registers within a block, from place o on. -/
structure DkIn (C : Array Value) (o : Nat) (h : Hd) (img : ByteArray) : Prop where
  k : C[o]? = some (.int .i64 h.k)
  d : C[o + 1]? = some (.int .i64 h.d)
  l : C[o + 2]? = some (.int .i64 h.l)
  f : C[o + 3]? = some (.int .i64 h.f)
  s : C[o + 4]? = some (.int .i64 h.s)
  i : C[o + 5]? = some (.string img)
def noteH (o : Stp) (h : Hd) : Hd := if o.k = 2 then ⟨o.a, o.b, o.c, h.f, h.s⟩ else if o.k = 3 then ⟨h.k, h.d, h.l, o.a, o.b⟩ else h
def noteI (o : Stp) (a : An) (img : ByteArray) : ByteArray := if o.k = 9 ∧ a.s.length ≤ 64 then st a.s else img
set_option maxHeartbeats 1000000 in
theorem note_any (w : World) (b p : Nat) (C : Array Value) (ty : TypeId) (h : Hd) (img : ByteArray) (o : Stp) (a : An) (hb : w.heap[b]? = some (.cells C ty)) (hd : DkIn C p h img) (hl : a.s.length ≤ 100000) :
    Calls Try.prog 20 #[.pointer (some ⟨b, p, none⟩), opV o, anV a] w fun e w' => e = .returned (.tuple #[]) ∧ Chg [b] w w' ∧ ∃ C', w'.heap[b]? = some (.cells C' ty) ∧ DkIn C' p (noteH o h) (noteI o a img) ∧ C'.size = C.size ∧ ∀ j, (j < p ∨ p + 6 ≤ j) → C'[j]? = C[j]? := by
  obtain ⟨k, oa, ob, oc, os, ot⟩ := o
  obtain ⟨ae, an, ax⟩ := a
  unfold opV anV
  simp only at hl ⊢
  have hbl := lt_of_heap hb
  have g0 : w.cell? ⟨b, p, none⟩ = some (.int .i64 h.k) := (cell_of hb _).trans hd.k
  have g1 : w.cell? ⟨b, p + 1, none⟩ = some (.int .i64 h.d) := (cell_of hb _).trans hd.d
  have g2 : w.cell? ⟨b, p + 2, none⟩ = some (.int .i64 h.l) := (cell_of hb _).trans hd.l
  have g3 : w.cell? ⟨b, p + 3, none⟩ = some (.int .i64 h.f) := (cell_of hb _).trans hd.f
  have g4 : w.cell? ⟨b, p + 4, none⟩ = some (.int .i64 h.s) := (cell_of hb _).trans hd.s
  have g5 : w.cell? ⟨b, p + 5, none⟩ = some (.string img) := (cell_of hb _).trans hd.i
  have gf : ∀ i, w.frozen? ⟨b, i, none⟩ = false := fun i => frozen_of hb _
  have HB : Hid (w.heap[b]? = some (.cells C ty)) := hb
  have x1 : Ext w ((w.alloc (.cells #[.int .i64 k, .int .i64 oa, .int .i64 ob, .int .i64 oc, .string os, .string ot] 38)).alloc (.cells #[.int .i64 ae, .int .i64 an, .int .i64 0, .string (st ax)] 42)) := ((Ext.refl w).alloc _).alloc _
  clear hb
  have hsz : p + 5 < C.size := by
    have := hd.i
    exact (Array.getElem?_eq_some_iff.1 this).1
  have HD : Hid (DkIn C p h img) := hd
  clear hd
  by_cases k2 : k = 2
  · subst k2
    go_enter Try.func20, Try.ntmps20
    go_wp2
    go_region
    go_wp2
    refine bodyPost_end (results_none rfl _ _ _) rfl ?_
    have hd := HD.out
    refine ⟨rfl, ((((((Chg.refl [b] w).setCell (by simp) _).setCell (by simp) _).setCell (by simp) _).alloc _).alloc _).drew, ((C.setIfInBounds p (.int .i64 oa)).setIfInBounds (p + 1) (.int .i64 ob)).setIfInBounds (p + 2) (.int .i64 oc), ?_, ?_, ?_, ?_⟩
    · exact heap_alloc_lt (heap_alloc_lt (heap_set (heap_set (heap_set HB.out _ _) _ _) _ _))
    · refine ⟨?_, ?_, ?_, ?_, ?_, ?_⟩
      all_goals simp [noteH, noteI, Array.getElem?_setIfInBounds, hd.k, hd.d, hd.l, hd.f, hd.s, hd.i]
      all_goals omega
    · simp
    · intro j hj
      simp only [Array.getElem?_setIfInBounds]
      rw [if_neg (by omega), if_neg (by omega), if_neg (by omega)]
  · by_cases k3 : k = 3
    · subst k3
      go_enter Try.func20, Try.ntmps20
      go_wp2
      go_region
      go_wp2
      refine bodyPost_end (results_none rfl _ _ _) rfl ?_
      have hd := HD.out
      refine ⟨rfl, (((((Chg.refl [b] w).setCell (by simp) _).setCell (by simp) _).alloc _).alloc _).drew, (C.setIfInBounds (p + 3) (.int .i64 oa)).setIfInBounds (p + 4) (.int .i64 ob), ?_, ?_, ?_, ?_⟩
      · exact heap_alloc_lt (heap_alloc_lt (heap_set (heap_set HB.out _ _) _ _))
      · refine ⟨?_, ?_, ?_, ?_, ?_, ?_⟩
        all_goals simp [noteH, noteI, Array.getElem?_setIfInBounds, hd.k, hd.d, hd.l, hd.f, hd.s, hd.i]
        all_goals omega
      · simp
      · intro j hj
        simp only [Array.getElem?_setIfInBounds]
        rw [if_neg (by omega), if_neg (by omega)]
    · have e2 : (k == 2) = false := beq_false_of_ne k2
      have e3 : (k == 3) = false := beq_false_of_ne k3
      by_cases k9 : k = 9
      · subst k9
        by_cases h64 : ax.length ≤ 64
        · have hz : ((st ax).size : Int) ≤ 64 := by rw [Tx.st_size]; omega
          have hz' : decide (((st ax).size : Int) ≤ 64) = true := decide_eq_true hz
          go_enter Try.func20, Try.ntmps20
          go_wp2
          refine bodyPost_end (results_none rfl _ _ _) rfl ?_
          have hd := HD.out
          refine ⟨rfl, ((((Chg.refl [b] w).setCell (by simp) _).alloc _).alloc _), C.setIfInBounds (p + 5) (.string (st ax)), ?_, ?_, ?_, ?_⟩
          · exact heap_alloc_lt (heap_alloc_lt (heap_set HB.out _ _))
          · refine ⟨?_, ?_, ?_, ?_, ?_, ?_⟩
            all_goals simp [noteH, noteI, Array.getElem?_setIfInBounds, hd.k, hd.d, hd.l, hd.f, hd.s, hd.i, h64]
            all_goals omega
          · simp
          · intro j hj
            simp only [Array.getElem?_setIfInBounds]
            rw [if_neg (by omega)]
        · have hz' : decide (((st ax).size : Int) ≤ 64) = false := decide_eq_false (by rw [Tx.st_size]; omega)
          go_enter Try.func20, Try.ntmps20
          go_wp2
          refine bodyPost_end (results_none rfl _ _ _) rfl ?_
          have hd := HD.out
          refine ⟨rfl, Chg.of_ext x1, C, x1.heap HB.out, ?_, rfl, fun _ _ => rfl⟩
          simpa [noteH, noteI, show ¬ ax.length ≤ 64 by omega] using hd
      · have e9 : (k == 9) = false := beq_false_of_ne k9
        go_enter Try.func20, Try.ntmps20
        go_wp2
        refine bodyPost_end (results_none rfl _ _ _) rfl ?_
        have hd := HD.out
        refine ⟨rfl, Chg.of_ext x1, C, x1.heap HB.out, ?_, rfl, fun _ _ => rfl⟩
        simpa [noteH, noteI, k2, k3, k9] using hd
end Go.Proofs.Qxb6500342a
