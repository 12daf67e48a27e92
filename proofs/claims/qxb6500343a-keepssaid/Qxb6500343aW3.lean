/-
  Walks 3: the series.
-/
import Derived.Test.Qxb6500343aW2
namespace Go.Proofs.Qxb6500343a
open Go.RowKit
open Go.Proofs
open Fl
open Ieee (Datum)
set_option linter.unusedSimpArgs false
set_option linter.unusedVariables false
attribute [local go_sem] run_fadd run_fsub run_fmul run_fquo run_store_float alloc_drewN setCell_drewN shape?_drewN tape_alloc drawn_alloc tape_setCell drawn_setCell drawn_drewN drawn_drew

/-- Level i lies in the row. -/
def lvAt (C : Array Value) (i : Nat) (d : Pl.LD) : Prop := ∃ x s l h, C[i * 4]? = some (.float .f64 x) ∧ C[i * 4 + 1]? = some (.float .f64 s) ∧ C[i * 4 + 2]? = some (.float .f64 l) ∧ C[i * 4 + 3]? = some (.float .f64 h) ∧ lvV x s l h d
/-- A series lies at block p, its levels in block L. -/
structure SerAt (w : World) (p L : Nat) (ls : List Pl.LD) : Prop where
  hp : w.heap[p]? = some (.cells #[.slice (some ⟨L, 0, none⟩) 8 8, .int .i64 ls.length] 97)
  hL : ∃ C, w.heap[L]? = some (.cells C 100) ∧ C.size = 32 ∧ ∀ i d, ls[i]? = some d → lvAt C i d
  len : ls.length ≤ 8
  ne : p ≠ L
theorem SerAt.ext {w w' : World} {p L : Nat} {ls : List Pl.LD} (h : SerAt w p L ls) (hx : Ext w w') : SerAt w' p L ls :=
  ⟨hx.heap h.hp, let ⟨C, h1, h2⟩ := h.hL; ⟨C, hx.heap h1, h2⟩, h.len, h.ne⟩
theorem SerAt.chg {S : List Nat} {w w' : World} {p L : Nat} {ls : List Pl.LD} (h : SerAt w p L ls) (hx : Chg S w w') (h1 : p ∉ S) (h2 : L ∉ S) : SerAt w' p L ls :=
  ⟨hx.heap h.hp h1, let ⟨C, h3, h4⟩ := h.hL; ⟨C, hx.heap h3 h2, h4⟩, h.len, h.ne⟩

theorem mk8 (w : World) : (Instr.makeSlice 95 (.int .i64 8) (.int .i64 8)).run Try.prog w = .ok (.slice (some ⟨w.heap.size, 0, none⟩) 8 8) (w.alloc (.cells (Array.replicate 32 (.float .f64 0)) 100)) := by kernel_rfl
set_option maxHeartbeats 400000 in
theorem snew_any (w : World) :
    Calls Try.prog 26 #[] w fun e w' => ∃ p L, e = .returned (.pointer (some ⟨p, 0, none⟩)) ∧ SerAt w' p L [] ∧ w.heap.size ≤ p ∧ w.heap.size ≤ L ∧ Ext w w' := by
  have h8 := mk8
  go_enter Try.func26, Try.ntmps26
  go_wp2
  go_ret
  refine ⟨w.heap.size + 1, w.heap.size, rfl, ⟨?_, ⟨_, heap_alloc_lt (heap_alloc_new _ _), by simp, by simp⟩, by simp, by omega⟩, by omega, by omega, ((Ext.refl _).alloc _).alloc _⟩
  have := heap_alloc_new (w.alloc (.cells (Array.replicate 32 (.float .f64 0)) 100)) (.cells #[.slice (some ⟨w.heap.size, 0, none⟩) 8 8, .int .i64 0] 97)
  rw [World.size_alloc] at this
  exact this

set_option maxHeartbeats 400000 in
theorem slen_any (w : World) (p L : Nat) (ls : List Pl.LD) (h : SerAt w p L ls) :
    Calls Try.prog 71 #[.pointer (some ⟨p, 0, none⟩)] w fun e w' => e = .returned (.int .i64 ls.length) ∧ Ext w w' := by
  have h1 : w.cell? ⟨p, 1, none⟩ = some (.int .i64 ls.length) := cell_of h.hp 1
  go_enter Try.func71, Try.ntmps71
  go_wp2
  go_ret
  exact ⟨rfl, Ext.refl _⟩

/-- Four cells in a row, set. -/
def set4 (C : Array Value) (i : Nat) (a b c d : Value) : Array Value := (((C.setIfInBounds i a).setIfInBounds (i + 1) b).setIfInBounds (i + 2) c).setIfInBounds (i + 3) d
theorem heap_set4 {w : World} {b : Nat} {c : Array Value} {t : TypeId} (h : w.heap[b]? = some (.cells c t)) (i : Nat) (v0 v1 v2 v3 : Value) :
    ((((w.setCell ⟨b, i, none⟩ v0).setCell ⟨b, i + 1, none⟩ v1).setCell ⟨b, i + 2, none⟩ v2).setCell ⟨b, i + 3, none⟩ v3).heap[b]? = some (.cells (set4 c i v0 v1 v2 v3) t) :=
  heap_set (heap_set (heap_set (heap_set h i v0) _ v1) _ v2) _ v3
theorem set4_size (C : Array Value) (i : Nat) (a b c d : Value) : (set4 C i a b c d).size = C.size := by simp [set4]
theorem lvAt_set4 {C : Array Value} {n : Nat} {x s l h : Nat} {d : Pl.LD} (hC : C.size = 32) (hn : n < 8) (hv : lvV x s l h d) : lvAt (set4 C (n * 4) (.float .f64 x) (.float .f64 s) (.float .f64 l) (.float .f64 h)) n d := by
  refine ⟨x, s, l, h, ?_, ?_, ?_, ?_, hv⟩ <;> simp [set4, Array.getElem?_setIfInBounds, hC] <;> omega
theorem lvAt_set4_lt {C : Array Value} {n i : Nat} {a b c e : Value} {d : Pl.LD} (hi : i < n) (h : lvAt C i d) : lvAt (set4 C (n * 4) a b c e) i d := by
  obtain ⟨x, s, l, h, h0, h1, h2, h3, h4⟩ := h
  refine ⟨x, s, l, h, ?_, ?_, ?_, ?_, h4⟩
  · rw [← h0]; simp only [set4, Array.getElem?_setIfInBounds]; rw [if_neg (by omega), if_neg (by omega), if_neg (by omega), if_neg (by omega)]
  · rw [← h1]; simp only [set4, Array.getElem?_setIfInBounds]; rw [if_neg (by omega), if_neg (by omega), if_neg (by omega), if_neg (by omega)]
  · rw [← h2]; simp only [set4, Array.getElem?_setIfInBounds]; rw [if_neg (by omega), if_neg (by omega), if_neg (by omega), if_neg (by omega)]
  · rw [← h3]; simp only [set4, Array.getElem?_setIfInBounds]; rw [if_neg (by omega), if_neg (by omega), if_neg (by omega), if_neg (by omega)]
/-- Behind a push. -/
theorem SerAt.push {w : World} {p L : Nat} {ls : List Pl.LD} {C : Array Value} {x s l h : Nat} {d : Pl.LD} (hp : w.heap[p]? = some (.cells #[.slice (some ⟨L, 0, none⟩) 8 8, .int .i64 ls.length] 97)) (hL : w.heap[L]? = some (.cells C 100)) (hC : C.size = 32)
    (hl : ∀ i d, ls[i]? = some d → lvAt C i d) (hn : ls.length < 8) (hne : p ≠ L) (hv : lvV x s l h d) {w' : World}
    (hw' : w' = (((((w.setCell ⟨L, ls.length * 4, none⟩ (.float .f64 x)).setCell ⟨L, ls.length * 4 + 1, none⟩ (.float .f64 s)).setCell ⟨L, ls.length * 4 + 2, none⟩ (.float .f64 l)).setCell ⟨L, ls.length * 4 + 3, none⟩ (.float .f64 h)).setCell ⟨p, 1, none⟩ (.int .i64 ((ls.length : Int) + 1)))) :
    ∀ w0, Ext w0 w → SerAt w' p L (ls ++ [d]) ∧ Chg [p, L] w0 w' := by
  intro w0 hw0
  subst hw'
  constructor
  · refine ⟨?_, ⟨set4 C (ls.length * 4) (.float .f64 x) (.float .f64 s) (.float .f64 l) (.float .f64 h), ?_, ?_, ?_⟩, by simp; omega, hne⟩
    · rw [heap_set (c := #[.slice (some ⟨L, 0, none⟩) 8 8, .int .i64 ls.length]) (t := 97) (fr := (0, 0))]
      · simp
      · rw [heap_set_ne hne, heap_set_ne hne, heap_set_ne hne, heap_set_ne hne]; exact hp
    · rw [heap_set_ne (Ne.symm hne)]; exact heap_set4 hL _ _ _ _ _
    · rw [set4_size]; exact hC
    · intro i e hi
      rcases Nat.lt_or_ge i ls.length with h1 | h1
      · rw [List.getElem?_append_left h1] at hi; exact lvAt_set4_lt h1 (hl i e hi)
      · have h2 : i = ls.length := by
          have := (List.getElem?_eq_some_iff.1 hi).1; simp at this; omega
        subst h2
        simp at hi; subst hi
        exact lvAt_set4 hC hn hv
  · refine Chg.setCell (Chg.setCell (Chg.setCell (Chg.setCell (Chg.setCell (Chg.of_ext hw0) ?_ _) ?_ _) ?_ _) ?_ _) ?_ _ <;> simp
end Go.Proofs.Qxb6500343a
