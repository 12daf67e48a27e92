/-
  Walks of Keeps 6: Note, whole.
-/
import Derived.Test.Qxb6500343aK5
namespace Go.Proofs.Qxb6500343a
open Go.RowKit
open Go.Proofs
open Ieee (Datum)
open Fl
open Tx (st)
open Ff (in64)
set_option linter.unusedSimpArgs false
set_option linter.unusedVariables false
attribute [local go_sem] run_fadd run_fsub run_fmul run_fquo run_store_float alloc_drewN setCell_drewN shape?_drewN tape_alloc drawn_alloc tape_setCell drawn_setCell drawn_drewN drawn_drew run_fneg

theorem dE_pos {xs : List Datum} (h : 0 < xs.length) : dE xs = 0 := by
  cases xs with
  | nil => simp at h
  | cons x r => rfl
theorem iE_pos {xs : List Datum} (h : 0 < xs.length) : xs.isEmpty = false := by
  cases xs with
  | nil => simp at h
  | cons x r => rfl
theorem nil_of {xs : List Datum} (h : xs.length = 0) : xs = [] := List.length_eq_zero_iff.1 h
set_option maxHeartbeats 1000000 in
theorem note_any (w : World) (B : Nat) (h : HId) (xs ys : List Datum) (o : Stp) (hp : PairAt w B h xs ys) :
    Calls Try.prog 21 #[.agg #[.pointer (some ⟨h.mx, 0, none⟩), .pointer (some ⟨h.my, 0, none⟩)], opV o, ans (bstep xs ys o).e (bstep xs ys o).n (bstep xs ys o).s] w fun e w' => e = .returned (.bool true) ∧ NP B h w w' (bstep xs ys o).xs (bstep xs ys o).ys := by
  obtain ⟨k, a, b, c, os, ot⟩ := o
  unfold opV ans
  simp only
  have hl8 := hp.sx.len
  by_cases h1 : k = 1
  · subst h1
    have e : bstep xs ys ⟨1, a, b, c, os, ot⟩ = ⟨aE xs, 0, [], aX xs (Pl.ratio a c) xs.length, aX ys (Pl.ratio b c) xs.length⟩ := rfl
    rw [e]
    simp only
    unfold aE aX
    by_cases h8 : xs.length < 8
    · rw [if_pos h8, if_pos h8, if_pos h8]
      exact note_add w B h xs ys a b c 0 0 os ot _ hp h8 rfl
    · rw [if_neg h8, if_neg h8, if_neg h8]
      exact (note_full w B h xs ys a b c 1 0 os ot _ hp (by omega) rfl).mono fun e w' ⟨he, hx⟩ => ⟨he, NP.of_ext hp hx⟩
  by_cases h2 : k = 2
  · subst h2
    have e : bstep xs ys ⟨2, a, b, c, os, ot⟩ = ⟨dE xs, 0, [], xs.dropLast, ys.dropLast⟩ := rfl
    rw [e]
    simp only
    by_cases h0 : xs.length = 0
    · have hx0 := nil_of h0
      have hy0 := nil_of (hp.len.trans h0)
      subst hx0 hy0
      exact (note_dnone w B h [] [] a b c 2 0 os ot _ hp rfl rfl).mono fun e w' ⟨he, hx⟩ => ⟨he, NP.of_ext hp hx⟩
    · rw [dE_pos (by omega)]
      exact note_drop w B h xs ys a b c 0 0 os ot _ hp (by omega) rfl
  have key : ∀ (ae an : Int) (s : List Nat), (Calls Try.prog 21 #[.agg #[.pointer (some ⟨h.mx, 0, none⟩), .pointer (some ⟨h.my, 0, none⟩)], .agg #[.int .i64 k, .int .i64 a, .int .i64 b, .int .i64 c, .string os, .string ot], .agg #[.int .i64 ae, .int .i64 an, .int .i64 0, .string (st s)]] w fun e w' => e = .returned (.bool true) ∧ Ext w w') →
      Calls Try.prog 21 #[.agg #[.pointer (some ⟨h.mx, 0, none⟩), .pointer (some ⟨h.my, 0, none⟩)], .agg #[.int .i64 k, .int .i64 a, .int .i64 b, .int .i64 c, .string os, .string ot], .agg #[.int .i64 ae, .int .i64 an, .int .i64 0, .string (st s)]] w fun e w' => e = .returned (.bool true) ∧ NP B h w w' xs ys :=
    fun ae an s hc => hc.mono fun e w' ⟨he, hx⟩ => ⟨he, NP.of_ext hp hx⟩
  by_cases h4 : k = 4
  · subst h4
    have e : bstep xs ys ⟨4, a, b, c, os, ot⟩ = ⟨(corner (AX xs) (AX ys) xs.isEmpty a).2, 0, pairT (corner (AX xs) (AX ys) xs.isEmpty a).1 Pl.zero32, xs, ys⟩ := rfl
    rw [e]
    simp only
    refine key _ _ _ ?_
    by_cases h0 : xs.length = 0
    · have hx0 := nil_of h0
      subst hx0
      exact note_p40 w B h [] ys a b c 2 0 os ot _ hp rfl rfl rfl rfl
    · rw [iE_pos (by omega)]
      by_cases ha : a < 0 ∨ 3 < a
      · have ec : corner (AX xs) (AX ys) false a = (Pl.zero32, 3) := by
          unfold corner
          simp only [Bool.false_eq_true, if_false]
          rw [if_neg (by omega), if_neg (by omega), if_neg (by omega), if_neg (by omega)]
        rw [ec]
        exact note_cout w B h xs ys a b c 3 0 os ot _ hp (by omega) ha rfl rfl rfl
      · have ec : (corner (AX xs) (AX ys) false a).2 = 0 := by
          unfold corner
          simp only [Bool.false_eq_true, if_false]
          have : a = 0 ∨ a = 1 ∨ a = 2 ∨ a = 3 := by omega
          rcases this with rfl | rfl | rfl | rfl <;> rfl
        rw [ec]
        exact note_cin w B h xs ys a b c 0 0 os ot _ hp (by omega) (by omega) rfl
  by_cases h5 : k = 5
  · subst h5
    have e : bstep xs ys ⟨5, a, b, c, os, ot⟩ = ⟨dE xs, if insB xs ys a b c then 1 else 0, [], xs, ys⟩ := rfl
    rw [e]
    simp only
    refine key _ _ _ ?_
    by_cases h0 : xs.length = 0
    · have hx0 := nil_of h0
      subst hx0
      exact note_q50 w B h [] ys a b c 2 0 os ot _ hp rfl rfl rfl rfl
    · rw [dE_pos (by omega)]
      exact note_r5 w B h xs ys a b c 0 _ os ot _ hp (by omega) rfl
  by_cases h6 : k = 6
  · subst h6
    have e : bstep xs ys ⟨6, a, b, c, os, ot⟩ = ⟨dE xs, 0, pairT (clp xs ys a b c).1 (clp xs ys a b c).2, xs, ys⟩ := rfl
    rw [e]
    simp only
    refine key _ _ _ ?_
    by_cases h0 : xs.length = 0
    · have hx0 := nil_of h0
      subst hx0
      exact note_p60 w B h [] ys a b c 2 0 os ot _ hp rfl rfl rfl rfl
    · rw [dE_pos (by omega)]
      exact note_r6 w B h xs ys a b c 0 _ os ot _ hp (by omega) rfl
  by_cases h7 : k = 7
  · subst h7
    have e : bstep xs ys ⟨7, a, b, c, os, ot⟩ = ⟨dE xs, 0, pairT (alg xs ys a b).1 (alg xs ys a b).2, xs, ys⟩ := rfl
    rw [e]
    simp only
    refine key _ _ _ ?_
    by_cases h0 : xs.length = 0
    · have hx0 := nil_of h0
      subst hx0
      exact note_p70 w B h [] ys a b c 2 0 os ot _ hp rfl rfl rfl rfl
    · rw [dE_pos (by omega)]
      exact note_r7 w B h xs ys a b c 0 _ os ot _ hp (by omega) rfl
  by_cases h8 : k = 8
  · subst h8
    have e : bstep xs ys ⟨8, a, b, c, os, ot⟩ = ⟨(cel xs ys a b c).2, (cel xs ys a b c).1, [], xs, ys⟩ := rfl
    rw [e]
    simp only
    refine key _ _ _ ?_
    by_cases h0 : xs.length = 0
    · have hx0 := nil_of h0
      subst hx0
      exact note_q80 w B h [] ys a b c 2 0 os ot _ hp rfl rfl rfl rfl
    · exact note_r8 w B h xs ys a b c _ _ os ot _ hp (by omega)
  have exy : (bstep xs ys ⟨k, a, b, c, os, ot⟩).xs = xs ∧ (bstep xs ys ⟨k, a, b, c, os, ot⟩).ys = ys := by
    unfold bstep
    simp only
    rw [if_neg h1, if_neg h2]
    by_cases h3 : k = 3
    · rw [if_pos h3]; exact ⟨rfl, rfl⟩
    rw [if_neg h3, if_neg h4, if_neg h5, if_neg h6, if_neg h7, if_neg h8]
    by_cases h9 : k = 9
    · rw [if_pos h9]; exact ⟨rfl, rfl⟩
    rw [if_neg h9]
    by_cases h10 : k = 10
    · rw [if_pos h10]; exact ⟨rfl, rfl⟩
    rw [if_neg h10]; exact ⟨rfl, rfl⟩
  rw [exy.1, exy.2]
  refine key _ _ _ ?_
  by_cases h0 : xs.length = 0
  · exact note_else0 w B h xs ys a b c _ _ os ot _ hp k h1 h2 h4 h5 h6 h7 h8 h0
  · exact note_else w B h xs ys a b c _ _ os ot _ hp k h1 h2 h4 h5 h6 h7 h8 (by omega)
end Go.Proofs.Qxb6500343a
