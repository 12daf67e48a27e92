/-
  Walks 30: KeepsUpTo.
-/
import Derived.Test.Qxb6500342aV29
namespace Go.Proofs.Qxb6500342a
open Go.RowKit
open Go.Proofs
open Pl (Hd)
open Tx (st)
set_option linter.unusedSimpArgs false
set_option linter.unusedVariables false
attribute [local go_sem] alloc_drewN setCell_drewN shape?_drewN

/-- A script that came in: nil, or a row of steps. -/
structure OpAt (w : World) (B p : Nat) (o : Stp) : Prop where
  k : w.cell? ⟨B, p, none⟩ = some (.int .i64 o.k)
  a : w.cell? ⟨B, p + 1, none⟩ = some (.int .i64 o.a)
  b : w.cell? ⟨B, p + 2, none⟩ = some (.int .i64 o.b)
  c : w.cell? ⟨B, p + 3, none⟩ = some (.int .i64 o.c)
  s : w.cell? ⟨B, p + 4, none⟩ = some (.string o.s)
  t : w.cell? ⟨B, p + 5, none⟩ = some (.string o.t)
  ia : in64 o.a
  ib : in64 o.b
  hs : o.s.size ≤ 9223372036854775807
def Scr (w : World) (x : Option Addr) (len : Nat) : Prop :=
  len = 0 ∨ ∃ b off, x = some ⟨b, off, none⟩ ∧ b < w.heap.size ∧ len ≤ 9223372036854775807 ∧ ∀ i, i < len → ∃ o, OpAt w b (off + i * 6) o
theorem OpAt.ext {w w' : World} {b p : Nat} {o : Stp} (h : OpAt w b p o) (hx : Ext w w') (hb : b < w.heap.size) : OpAt w' b p o := by
  have e : ∀ i, w'.cell? ⟨b, i, none⟩ = w.cell? ⟨b, i, none⟩ := fun i => by
    have := hx.block b hb
    simp only [World.cell?]
    rw [this]
  exact ⟨by rw [e]; exact h.k, by rw [e]; exact h.a, by rw [e]; exact h.b, by rw [e]; exact h.c, by rw [e]; exact h.s, by rw [e]; exact h.t, h.ia, h.ib, h.hs⟩
theorem Ext.chg {S : List Nat} {w a b : World} (h : Ext w a) (hc : Chg S a b) (hS : ∀ k, k ∈ S → w.heap.size ≤ k) : Ext w b :=
  ⟨hc.os.trans h.os, hc.tape.trans h.tape, hc.output.trans h.output, Nat.le_trans h.size hc.size, fun i hi => by
    have h1 := h.block i hi
    have h2 := hc.block i (Nat.lt_of_lt_of_le hi h.size) (fun hm => by have := hS i hm; omega)
    first | exact h1.trans h2 | exact h2.trans h1⟩
theorem step_len (u : Nat) (H : Nat → Hd) (h : Hd) (img : ByteArray) (o : Stp) : (step u H h img o).a.s.length ≤ 100000 := by
  unfold step
  split; · unfold sPut; split <;> (try split) <;> simp
  split; · have := Tx.showH_len (getH u H o.a); simp only [sGet]; omega
  split; · simp [sDrop]
  split; · simp [sBump]
  split; · simp
  split; · have := Im.exTo_len u H 8; simp only; omega
  split; · simp [sImp]
  split; · simp [sImp]
  split; · have := Tx.showTo_len u H 8; simp only; omega
  split <;> simp
theorem noteI_size (o : Stp) (a : An) (img : ByteArray) (h : img.size ≤ 64) : (noteI o a img).size ≤ 64 := by
  unfold noteI
  split
  · rename_i hh; rw [Tx.st_size]; exact hh.2
  · exact h
/-- What stands between two rounds. -/
structure Kst (w wr : World) (b3 : Nat) (q : SId) (g : Nat) (C : Array Value) (u : Nat) (H : Nat → Hd) (h : Hd) (img : ByteArray) : Prop where
  gh : GhAt wr g C u H h img
  st : StAt wr q u H
  gq : g ∉ q.all
  bt : wr.heap[b3]? = some (.cells #[.pointer (some ⟨q.b, 0, none⟩)] 48)
  bg : b3 ≠ g
  bq : b3 ∉ q.all
  ext : Ext w wr
  ng : w.heap.size ≤ g
  nb : w.heap.size ≤ b3
  nq : ∀ k, k ∈ q.all → w.heap.size ≤ k
  im : img.size ≤ 64
def KuR (w : World) (len b3 : Nat) (x g i : Value) (wr : World) : Prop :=
  ∃ (k : Nat) (q : SId) (gb : Nat) (C : Array Value) (u : Nat) (H : Nat → Hd) (h : Hd) (img : ByteArray), k ≤ len ∧ i = .int .i64 k ∧ x = .pointer (some ⟨q.s, 0, none⟩) ∧ g = .pointer (some ⟨gb, 0, none⟩) ∧ Kst w wr b3 q gb C u H h img
def ghZ (h : Hd) (img : ByteArray) : Array Value := #[.bool false, .bool false, .bool false, .bool false, .bool false, .bool false, .bool false, .bool false, .int .i64 0, .int .i64 0, .int .i64 0, .int .i64 0, .int .i64 0, .int .i64 0, .int .i64 0, .int .i64 0, .int .i64 0, .int .i64 0, .int .i64 0, .int .i64 0, .int .i64 0, .int .i64 0, .int .i64 0, .int .i64 0, .int .i64 0, .int .i64 0, .int .i64 0, .int .i64 0, .int .i64 0, .int .i64 0, .int .i64 0, .int .i64 0, .int .i64 0, .int .i64 0, .int .i64 0, .int .i64 0, .int .i64 0, .int .i64 0, .int .i64 0, .int .i64 0, .int .i64 0, .int .i64 0, .int .i64 0, .int .i64 0, .int .i64 0, .int .i64 0, .int .i64 0, .int .i64 0, .int .i64 h.k, .int .i64 h.d, .int .i64 h.l, .int .i64 h.f, .int .i64 h.s, .string img]
theorem ghZ_low (h : Hd) (img : ByteArray) : (∀ i : Fin 8, (ghZ h img)[i.val]? = some (.bool false)) ∧ (∀ i : Fin 40, (ghZ h img)[8 + i.val]? = some (.int .i64 0)) := by
  constructor
  · rintro ⟨i, hi⟩
    match i, hi with
    | 0, _ | 1, _ | 2, _ | 3, _ | 4, _ | 5, _ | 6, _ | 7, _ => rfl
  · rintro ⟨i, hi⟩
    match i, hi with
    | 0, _ | 1, _ | 2, _ | 3, _ | 4, _ | 5, _ | 6, _ | 7, _ | 8, _ | 9, _ | 10, _ | 11, _ | 12, _ | 13, _ | 14, _ | 15, _ | 16, _ | 17, _ | 18, _ | 19, _ | 20, _ | 21, _ | 22, _ | 23, _ | 24, _ | 25, _ | 26, _ | 27, _ | 28, _ | 29, _ | 30, _ | 31, _ | 32, _ | 33, _ | 34, _ | 35, _ | 36, _ | 37, _ | 38, _ | 39, _ => rfl
    | _ + 40, hn => omega
theorem gh_fresh (h : Hd) (img : ByteArray) : GhIn (ghZ h img) 0 (fun _ => Pl.zeroH) ∧ DkIn (ghZ h img) 48 h img ∧ (ghZ h img).size = 54 := by
  obtain ⟨h1, h2⟩ := ghZ_low h img
  refine ⟨⟨fun i hi => ?_, fun i hi => ?_, fun i hi => ?_, fun i hi => ?_, fun i hi => ?_, fun i hi => ?_⟩, ⟨rfl, rfl, rfl, rfl, rfl, rfl⟩, rfl⟩
  · rw [Nat.zero_testBit]; exact h1 ⟨i, hi⟩
  · have := h2 ⟨i * 5, by omega⟩; exact this
  · have := h2 ⟨i * 5 + 1, by omega⟩; rwa [← Nat.add_assoc] at this
  · have := h2 ⟨i * 5 + 2, by omega⟩; rwa [← Nat.add_assoc] at this
  · have := h2 ⟨i * 5 + 3, by omega⟩; rwa [← Nat.add_assoc] at this
  · have := h2 ⟨i * 5 + 4, by omega⟩; rwa [← Nat.add_assoc] at this
end Go.Proofs.Qxb6500342a
