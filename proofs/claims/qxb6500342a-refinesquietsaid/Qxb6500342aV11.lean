/-
  Walks 11: texts: Itoa in one, ShowHeader, the store's Show.
-/
import Derived.Test.Qxb6500342aV10
namespace Go.Proofs.Qxb6500342a
open Go.RowKit
open Go.Proofs
open Pl (Hd)
open Tx (st)
set_option linter.unusedSimpArgs false
set_option linter.unusedVariables false
attribute [local go_sem] alloc_drewN setCell_drewN shape?_drewN

def in64 (n : Int) : Prop := -9223372036854775808 ≤ n ∧ n ≤ 9223372036854775807
set_option maxHeartbeats 400000 in
theorem itoa_zero (w : World) : Calls Try.prog 15 #[.int .i64 0] w fun e w' => e = .returned (.string (st (Tx.itoa 0))) ∧ Ext w w' := by
  go_enter Try.func15, Try.ntmps15
  go_wp2
  go_ret
  exact ⟨rfl, Ext.refl _⟩
theorem itoa_all (n : Int) (h : in64 n) (w : World) : Calls Try.prog 15 #[.int .i64 n] w fun e w' => e = .returned (.string (st (Tx.itoa n))) ∧ Ext w w' := by
  by_cases hn : n = 0
  · subst hn; exact itoa_zero w
  · exact itoa_any n w h.1 h.2 hn
def hd64 (h : Hd) : Prop := in64 h.k ∧ in64 h.d ∧ in64 h.l ∧ in64 h.f ∧ in64 h.s
theorem hd64_good {h : Hd} (hg : Pl.good h = true) : hd64 h := by
  have := (Pl.good_iff h).1 hg
  unfold hd64 in64
  omega
theorem hd64_zero : hd64 Pl.zeroH := by unfold hd64 in64 Pl.zeroH; simp
theorem cat (a b : List Nat) : ByteArray.append (st a) (st b) = st (a ++ b) := Tx.st_append a b
/-- s + t. -/
theorem run_cat (w : World) (a b : List Nat) (h : a.length + b.length ≤ 9223372036854775807) : (Op.stringOp .add (st a) (st b)).run Try.prog w = .ok (.string (st (a ++ b))) w := by
  rw [run_string_add_sum w _ _ (by rw [Tx.st_size, Tx.st_size]; exact h), Tx.st_append]
theorem lit58 : ({ data := #[58] } : ByteArray) = st [58] := rfl
theorem lit59 : ({ data := #[59] } : ByteArray) = st [59] := rfl
theorem lit61 : ({ data := #[61] } : ByteArray) = st [61] := rfl
theorem litE : ({ data := #[] } : ByteArray) = st [] := rfl
set_option maxHeartbeats 1000000 in
theorem showh_any (h : Hd) (hh : hd64 h) (w : World) : Calls Try.prog 16 #[hdV h] w fun e w' => e = .returned (.string (st (Tx.showH h))) ∧ Ext w w' := by
  have HH : Hid (hd64 h) := hh
  clear hh
  have hbox : ∀ A, A = w.alloc (.cells #[.int .i64 h.k, .int .i64 h.d, .int .i64 h.l, .int .i64 h.f, .int .i64 h.s] 27) → A.heap[w.heap.size]? = some (.cells #[.int .i64 h.k, .int .i64 h.d, .int .i64 h.l, .int .i64 h.f, .int .i64 h.s] 27) ∧ Ext w A := by
    rintro A rfl; exact ⟨heap_alloc_new _ _, (Ext.refl _).alloc _⟩
  obtain ⟨A, hA⟩ : ∃ A, A = w.alloc (.cells #[.int .i64 h.k, .int .i64 h.d, .int .i64 h.l, .int .i64 h.f, .int .i64 h.s] 27) := ⟨_, rfl⟩
  obtain ⟨hb, hxA⟩ := hbox A hA
  have g1 : ∀ w', Ext A w' → w'.cell? ⟨w.heap.size, 1, none⟩ = some (.int .i64 h.d) := fun w' hx => cell_of (hx.heap hb) 1
  have g2 : ∀ w', Ext A w' → w'.cell? ⟨w.heap.size, 2, none⟩ = some (.int .i64 h.l) := fun w' hx => cell_of (hx.heap hb) 2
  have g3 : ∀ w', Ext A w' → w'.cell? ⟨w.heap.size, 3, none⟩ = some (.int .i64 h.f) := fun w' hx => cell_of (hx.heap hb) 3
  have g4 : ∀ w', Ext A w' → w'.cell? ⟨w.heap.size, 4, none⟩ = some (.int .i64 h.s) := fun w' hx => cell_of (hx.heap hb) 4
  have HA : Hid (A = w.alloc (.cells #[.int .i64 h.k, .int .i64 h.d, .int .i64 h.l, .int .i64 h.f, .int .i64 h.s] 27)) := hA
  clear hA hb hbox
  unfold hdV
  go_enter Try.func16, Try.ntmps16
  go_wp2_with fail
  rw [← HA.out]
  refine (itoa_all h.k HH.out.1 A).mono ?_
  rintro e w1 ⟨rfl, x1⟩
  go_wp2_with fail
  refine (itoa_all h.d HH.out.2.1 w1).mono ?_
  rintro e w2 ⟨rfl, x2⟩
  replace x2 := x1.trans x2
  go_wp2_with fail
  refine (itoa_all h.l HH.out.2.2.1 w2).mono ?_
  rintro e w3 ⟨rfl, x3⟩
  replace x3 := x2.trans x3
  go_wp2_with fail
  refine (itoa_all h.f HH.out.2.2.2.1 w3).mono ?_
  rintro e w4 ⟨rfl, x4⟩
  replace x4 := x3.trans x4
  go_wp2_with fail
  refine (itoa_all h.s HH.out.2.2.2.2 w4).mono ?_
  rintro e w5 ⟨rfl, x5⟩
  replace x5 := x4.trans x5
  have l1 := Tx.itoa_len h.k
  have l2 := Tx.itoa_len h.d
  have l3 := Tx.itoa_len h.l
  have l4 := Tx.itoa_len h.f
  have l5 := Tx.itoa_len h.s
  rw [← Tx.st_size] at l1 l2 l3 l4 l5
  have HT : Hid (Tx.showH h = Tx.itoa h.k ++ [58] ++ Tx.itoa h.d ++ [58] ++ Tx.itoa h.l ++ [58] ++ Tx.itoa h.f ++ [58] ++ Tx.itoa h.s) := rfl
  generalize Tx.itoa h.k = t1 at *
  generalize Tx.itoa h.d = t2 at *
  generalize Tx.itoa h.l = t3 at *
  generalize Tx.itoa h.f = t4 at *
  generalize Tx.itoa h.s = t5 at *
  go_wp2
  go_ret
  refine ⟨?_, hxA.trans x5⟩
  rw [HT.out]
  simp only [lit58, Tx.st_append]
  rfl
end Go.Proofs.Qxb6500342a
