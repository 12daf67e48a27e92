/-
  Memory: what a call may turn ('Chg S': the blocks S and what is new), a block's cells; the steps of a calm walk.
-/
import Derived.Test.Qxb6500343aFl
import Derived.Test.Qxb6500343aCalm
namespace Go.Proofs.Qxb6500343a
open Go.RowKit
/-- Only the blocks S have turned, and new ones are there. -/
structure Chg (S : List Nat) (w w' : World) : Prop where
  os : w'.os = w.os
  tape : w'.tape = w.tape
  output : w'.output = w.output
  size : w.heap.size ≤ w'.heap.size
  block : ∀ k, k < w.heap.size → k ∉ S → w'.heap[k]? = w.heap[k]?
theorem Chg.refl (S : List Nat) (w : World) : Chg S w w := ⟨rfl, rfl, rfl, Nat.le_refl _, fun _ _ _ => rfl⟩
theorem Chg.trans {S : List Nat} {a b c : World} (h : Chg S a b) (k : Chg S b c) : Chg S a c :=
  ⟨k.os.trans h.os, k.tape.trans h.tape, k.output.trans h.output, Nat.le_trans h.size k.size, fun i hi hn => (k.block i (Nat.lt_of_lt_of_le hi h.size) hn).trans (h.block i hi hn)⟩
theorem Chg.mono {S T : List Nat} {a b : World} (h : Chg S a b) (hs : ∀ k, k ∈ S → k ∈ T) : Chg T a b :=
  ⟨h.os, h.tape, h.output, h.size, fun i hi hn => h.block i hi (fun hm => hn (hs i hm))⟩
/-- What has turned beyond S is new. -/
theorem Chg.trans' {S T : List Nat} {a b c : World} (h : Chg S a b) (k : Chg T b c) (hT : ∀ i, i ∈ T → i ∈ S ∨ a.heap.size ≤ i) : Chg S a c :=
  ⟨k.os.trans h.os, k.tape.trans h.tape, k.output.trans h.output, Nat.le_trans h.size k.size, fun i hi hn => (k.block i (Nat.lt_of_lt_of_le hi h.size) (fun hm => by rcases hT i hm with h1 | h1; exact hn h1; omega)).trans (h.block i hi hn)⟩
theorem Chg.of_ext {S : List Nat} {a b : World} (h : Ext a b) : Chg S a b := ⟨h.os, h.tape, h.output, h.size, fun i hi _ => h.block i hi⟩
theorem Chg.ext {a b : World} (h : Chg [] a b) : Ext a b := ⟨h.os, h.tape, h.output, h.size, fun i hi => h.block i hi (by simp)⟩
theorem Chg.then {S : List Nat} {a b c : World} (h : Chg S a b) (k : Ext b c) : Chg S a c := h.trans (Chg.of_ext k)
theorem Chg.drewN {S : List Nat} {a b : World} (h : Chg S a b) (n : Nat) : Chg S a (b.drewN n) := h.then ((Ext.refl _).drewN n)
theorem Chg.drew {S : List Nat} {a b : World} (h : Chg S a b) : Chg S a b.drew := h.then ((Ext.refl _).drew)
theorem Chg.alloc {S : List Nat} {a b : World} (h : Chg S a b) (o : Obj) : Chg S a (b.alloc o) := h.then ((Ext.refl _).alloc o)
theorem Chg.setCell {S : List Nat} {a b : World} (h : Chg S a b) {p : Addr} (hp : p.block ∈ S ∨ a.heap.size ≤ p.block) (v : Value) : Chg S a (b.setCell p v) :=
  h.trans' (T := [p.block]) ⟨rfl, rfl, rfl, by simp [World.setCell], fun k _ hk => Below.heap_setCell _ _ _ _ (by simpa using hk)⟩ (by simpa using hp)

theorem lt_of_heap {w : World} {b : Nat} {o : Obj} (h : w.heap[b]? = some o) : b < w.heap.size := (Array.getElem?_eq_some_iff.1 h).1
theorem Ext.heap {w w' : World} (h : Ext w w') {b : Nat} {o : Obj} (hb : w.heap[b]? = some o) : w'.heap[b]? = some o := by
  rw [h.block b (lt_of_heap hb)]; exact hb
theorem Chg.heap {S : List Nat} {w w' : World} (h : Chg S w w') {b : Nat} {o : Obj} (hb : w.heap[b]? = some o) (hn : b ∉ S) : w'.heap[b]? = some o := by
  rw [h.block b (lt_of_heap hb) hn]; exact hb
theorem cell_of {w : World} {b : Nat} {c : Array Value} {t : TypeId} {fr : Nat × Nat} (h : w.heap[b]? = some (.cells c t fr)) (o : Nat) : w.cell? ⟨b, o, none⟩ = c[o]? := by
  simp [World.cell?, h]
theorem frozen_of {w : World} {b : Nat} {c : Array Value} {t : TypeId} (h : w.heap[b]? = some (.cells c t)) (o : Nat) : w.frozen? ⟨b, o, none⟩ = false := by
  simp [World.frozen?, h]
theorem heap_set {w : World} {b : Nat} {c : Array Value} {t : TypeId} {fr : Nat × Nat} (h : w.heap[b]? = some (.cells c t fr)) (i : Nat) (v : Value) :
    (w.setCell ⟨b, i, none⟩ v).heap[b]? = some (.cells (c.setIfInBounds i v) t fr) := by
  simp [World.setCell, Array.getElem?_modify, h]
theorem heap_set_ne {w : World} {b b' : Nat} (hne : b' ≠ b) (i : Nat) (v : Value) : (w.setCell ⟨b, i, none⟩ v).heap[b']? = w.heap[b']? := Below.heap_setCell _ _ _ _ hne
theorem heap_alloc_lt {w : World} {b : Nat} {o x : Obj} (h : w.heap[b]? = some x) : (w.alloc o).heap[b]? = some x := by
  rw [Below.heap_alloc _ _ _ (lt_of_heap h)]; exact h
theorem heap_alloc_new (w : World) (o : Obj) : (w.alloc o).heap[w.heap.size]? = some o := by
  show (w.heap.push o)[w.heap.size]? = _; simp
theorem size_set (w : World) (a : Addr) (v : Value) : (w.setCell a v).heap.size = w.heap.size := by simp [World.setCell]

namespace Calm
section
variable {P : Program} {ops : Array Oper} {C : World → Prop} {ld : Oper → Bool} {Q : Act → Prop} {o : Oper} {rest : List Oper} {a : Act}
/-- One operation that is not loud. -/
theorem walk_value {v : Value} (hg : Region.wanted o (yielded ops a.tmps) = true) (hl : ld o = false) (hr : ∀ w, C w → (execOp a.eval o).run P w = .ok (.value v) w)
    (h : walk P ops ld C Q rest (a.put o.dst v)) : walk P ops ld C Q (o :: rest) a := by
  unfold walk
  rw [if_pos hg]
  unfold op
  rw [hl]
  simp only [Bool.false_eq_true, if_false]
  exact ⟨v, fun w hw => by rw [hr w hw]; exact ⟨hw, rfl⟩, h⟩
theorem walk_move (x : Operand) (hx : o.op = .move x ∨ o.op = .assign x) (hg : o.guard = none) (hl : ld o = false) (h : walk P ops ld C Q rest (a.put o.dst (a.eval x))) : walk P ops ld C Q (o :: rest) a := by
  refine walk_value (v := a.eval x) (by simp [Region.wanted, hg]) hl (fun w _ => ?_) h
  obtain ⟨dst, op, type, pos, after, guard⟩ := o
  rcases hx with hx | hx <;> (subst hx; rfl)
/-- A guarded operation that is passed over. -/
theorem walk_skip (hg : Region.wanted o (yielded ops a.tmps) = false) (h : walk P ops ld C Q rest (a.put o.dst undef)) : walk P ops ld C Q (o :: rest) a := by
  unfold walk
  rw [if_neg (by simp [hg])]
  exact h
/-- A call. -/
theorem walk_call {f : FuncId} {args : Array Value} (U : Value → Prop) (hg : Region.wanted o (yielded ops a.tmps) = true) (hl : ld o = true) (hr : ∀ w, C w → (execOp a.eval o).run P w = .ok (.enter f args) w)
    (hc : ∀ w, C w → Calls P f args w fun e w' => ∃ v, e = .returned v ∧ C w' ∧ U v)
    (h : ∀ v, U v → walk P ops ld C Q rest (a.put o.dst v)) : walk P ops ld C Q (o :: rest) a := by
  unfold walk
  rw [if_pos hg]
  unfold op
  rw [hl]
  simp only [if_true]
  exact ⟨U, fun w hw => by rw [hr w hw]; exact ⟨hw, hc w hw⟩, h⟩
/-- A float's arithmetic. -/
theorem walk_loud {F : World → Value} {N : World → Nat} (U : Value → Prop) (hg : Region.wanted o (yielded ops a.tmps) = true) (hl : ld o = true) (hr : ∀ w, C w → (execOp a.eval o).run P w = .ok (.value (F w)) (w.drewN (N w)))
    (hc : ∀ w, C w → C (w.drewN (N w)) ∧ U (F w))
    (h : ∀ v, U v → walk P ops ld C Q rest (a.put o.dst v)) : walk P ops ld C Q (o :: rest) a := by
  unfold walk
  rw [if_pos hg]
  unfold op
  rw [hl]
  simp only [if_true]
  exact ⟨U, fun w hw => by rw [hr w hw]; exact hc w hw, h⟩
end
end Calm
end Go.Proofs.Qxb6500343a
