/-
  The script as it came in: what the datum says of its cells.
-/
import Derived.Test.Qxb6500342aV30
import Derived.ProofKit
import Derived.ShutString
import Derived.ChangeOld
import Derived.Below
namespace Go.Proofs.Qxb6500342a
open Go.RowKit
open Go.Proofs
set_option linter.unusedVariables false

theorem add_none (B off n : Nat) : Addr.add ⟨B, off, none⟩ n = ⟨B, off + n, none⟩ := by
  unfold Addr.add
  split
  · subst n; rfl
  · rfl

theorem in64_of {n : Int} (h : (Lit.int .i64 n).wf = true) : in64 n := by
  simp only [Lit.wf, Bool.and_eq_true, decide_eq_true_eq] at h
  have h1 : IntKind.i64.min = -9223372036854775808 := rfl
  have h2 : IntKind.i64.max = 9223372036854775807 := rfl
  rw [h1, h2] at h
  exact h

theorem scr_of {T : Type} {enc : TypeId × Value → T} {W : World} {base : Nat} {spare : Nat → Bool} {held : Bool} {fuel : Nat} {a : Option Addr} {len cap : Nat} {x : DataW T × List MemPlace}
    (h : DataW.trod enc Try.prog W base spare held fuel 22 [.slice a len cap] = some x) : Scr W a len := by
  have c6 : Try.prog.cellsOf 38 = 6 := by kernel_rfl
  have c3 : Try.prog.cellsOf 3 = 1 := by kernel_rfl
  have c9 : Try.prog.cellsOf 9 = 1 := by kernel_rfl
  rcases DataW.trod_slice Try.underlying22 h with ⟨hcs, _⟩ | ⟨y, l, c, elems, rest, n, _, hcs, _, _, hl, hm, hel, hget, _⟩
  · simp at hcs
    exact .inl hcs.2.1
  · simp at hcs
    obtain ⟨rfl, rfl, rfl⟩ := hcs
    rw [c6] at hget
    by_cases h0 : len = 0
    · exact .inl h0
    · have row : ∀ i, i < len → ∃ cs, W.cells? base (y.add (i * 6)) 6 = some cs ∧ ∃ y', DataW.trod enc Try.prog W base spare held n 38 cs = some y' := by
        intro i hi
        have e := hget i hi
        rw [List.getElem?_eq_getElem (by omega)] at e
        obtain ⟨cs, h1, h2⟩ := Option.bind_eq_some_iff.1 e
        exact ⟨cs, h1, _, h2⟩
      obtain ⟨B, off, spot⟩ := y
      obtain ⟨cs0, hc0, _⟩ := row 0 (by omega)
      have hb := World.cells?_block hc0 (by omega)
      obtain ⟨_, hl0, hcell0⟩ := World.cells?_some hc0
      have hsp : spot = none := by
        have e := hcell0 0 (by omega)
        rw [List.getElem?_eq_getElem (by omega)] at e
        simpa [Addr.add] using World.cell?_spot e
      subst hsp
      refine .inr ⟨B, off, rfl, by simpa [Addr.add] using hb, Nat.le_trans hl (Nat.le_trans hm (by decide)), fun i hi => ?_⟩
      obtain ⟨cs, hc, y', hy⟩ := row i hi
      obtain ⟨_, hcl, hcell⟩ := World.cells?_some hc
      obtain ⟨xs, m, _, _, _, _, hf⟩ := DataW.trod_struct Try.underlying38 hy
      match cs, hcl with
      | [v0, v1, v2, v3, v4, v5], _ =>
        have hx : ∀ j, j < 6 → ∃ z, xs[j]? = some z := fun j hj => ⟨xs[j]'(by simp_all), List.getElem?_eq_getElem _⟩
        obtain ⟨z0, e0⟩ := hx 0 (by omega)
        obtain ⟨z1, e1⟩ := hx 1 (by omega)
        obtain ⟨z2, e2⟩ := hx 2 (by omega)
        obtain ⟨z3, e3⟩ := hx 3 (by omega)
        obtain ⟨z4, e4⟩ := hx 4 (by omega)
        obtain ⟨z5, e5⟩ := hx 5 (by omega)
        have g0 : DataW.trod enc Try.prog W base spare held m 3 (([v0, v1, v2, v3, v4, v5].drop 0).take (Try.prog.cellsOf 3)) = xs[0]? := hf 0 _ rfl
        have g1 : DataW.trod enc Try.prog W base spare held m 3 (([v0, v1, v2, v3, v4, v5].drop 1).take (Try.prog.cellsOf 3)) = xs[1]? := hf 1 _ rfl
        have g2 : DataW.trod enc Try.prog W base spare held m 3 (([v0, v1, v2, v3, v4, v5].drop 2).take (Try.prog.cellsOf 3)) = xs[2]? := hf 2 _ rfl
        have g3 : DataW.trod enc Try.prog W base spare held m 3 (([v0, v1, v2, v3, v4, v5].drop 3).take (Try.prog.cellsOf 3)) = xs[3]? := hf 3 _ rfl
        have g4 : DataW.trod enc Try.prog W base spare held m 9 (([v0, v1, v2, v3, v4, v5].drop 4).take (Try.prog.cellsOf 9)) = xs[4]? := hf 4 _ rfl
        have g5 : DataW.trod enc Try.prog W base spare held m 9 (([v0, v1, v2, v3, v4, v5].drop 5).take (Try.prog.cellsOf 9)) = xs[5]? := hf 5 _ rfl
        rw [c3] at g0 g1 g2 g3
        rw [c9] at g4 g5
        obtain ⟨n0, r0, _, w0⟩ := DataW.trod_int Try.underlying3 (g0.trans e0)
        obtain ⟨n1, r1, _, w1⟩ := DataW.trod_int Try.underlying3 (g1.trans e1)
        obtain ⟨n2, r2, _, w2⟩ := DataW.trod_int Try.underlying3 (g2.trans e2)
        obtain ⟨n3, r3, _, w3⟩ := DataW.trod_int Try.underlying3 (g3.trans e3)
        obtain ⟨s4, r4, _, w4⟩ := DataW.trod_string Try.underlying9 (g4.trans e4)
        obtain ⟨s5, r5, _, w5⟩ := DataW.trod_string Try.underlying9 (g5.trans e5)
        simp only [List.drop, List.take, List.cons.injEq, and_true] at r0 r1 r2 r3 r4 r5
        subst r0 r1 r2 r3 r4 r5
        have q0 := hcell 0 (by omega)
        have q1 := hcell 1 (by omega)
        have q2 := hcell 2 (by omega)
        have q3 := hcell 3 (by omega)
        have q4 := hcell 4 (by omega)
        have q5 := hcell 5 (by omega)
        simp only [add_none, Nat.add_zero, List.getElem?_cons_zero, List.getElem?_cons_succ] at q0 q1 q2 q3 q4 q5
        refine ⟨⟨n0, n1, n2, n3, s4, s5⟩, ⟨q0, q1, q2, q3, q4, q5, ?_, ?_, Nat.le_trans w4 (by decide)⟩⟩
        · exact in64_of w1
        · exact in64_of w2
end Go.Proofs.Qxb6500342a
