/-
  The script; Sound, Alike.
-/
import Derived.Test.Qxb6500343aR2
import Derived.Test.Qxb6500343aR3
import Derived.Test.Qxb6500343aW10
import Derived.ProofKit
import Derived.ShutString
import Derived.ChangeOld
import Derived.Below
namespace Go.Proofs.Qxb6500343a
open Go.RowKit
open Go.Proofs
open Ieee (Datum)
open Fl
open Tx (st)
open Ff (in64)
set_option linter.unusedSimpArgs false
set_option linter.unusedVariables false
attribute [local go_sem] run_fadd run_fsub run_fmul run_fquo run_store_float alloc_drewN setCell_drewN shape?_drewN tape_alloc drawn_alloc tape_setCell drawn_setCell drawn_drewN drawn_drew run_fneg

/-- A step at place p of block B. -/
structure OpAt (w : World) (B p : Nat) (o : Stp) : Prop where
  k : w.cell? ⟨B, p, none⟩ = some (.int .i64 o.k)
  a : w.cell? ⟨B, p + 1, none⟩ = some (.int .i64 o.a)
  b : w.cell? ⟨B, p + 2, none⟩ = some (.int .i64 o.b)
  c : w.cell? ⟨B, p + 3, none⟩ = some (.int .i64 o.c)
  s : w.cell? ⟨B, p + 4, none⟩ = some (.string o.s)
  t : w.cell? ⟨B, p + 5, none⟩ = some (.string o.t)
  ia : in64 o.a
  ib : in64 o.b
  ic : in64 o.c
def Scr (w : World) (x : Option Addr) (len : Nat) : Prop :=
  len = 0 ∨ ∃ b off, x = some ⟨b, off, none⟩ ∧ b < w.heap.size ∧ len ≤ 9223372036854775807 ∧ ∀ i, i < len → ∃ o, OpAt w b (off + i * 6) o
theorem OpAt.ext {w w' : World} {b p : Nat} {o : Stp} (h : OpAt w b p o) (hx : Ext w w') (hb : b < w.heap.size) : OpAt w' b p o := by
  have e : ∀ i, w'.cell? ⟨b, i, none⟩ = w.cell? ⟨b, i, none⟩ := fun i => by
    have := hx.block b hb
    simp only [World.cell?]
    rw [this]
  exact ⟨by rw [e]; exact h.k, by rw [e]; exact h.a, by rw [e]; exact h.b, by rw [e]; exact h.c, by rw [e]; exact h.s, by rw [e]; exact h.t, h.ia, h.ib, h.ic⟩
theorem Ext.chg {S : List Nat} {w a b : World} (h : Ext w a) (hc : Chg S a b) (hS : ∀ k, k ∈ S → w.heap.size ≤ k) : Ext w b :=
  ⟨hc.os.trans h.os, hc.tape.trans h.tape, hc.output.trans h.output, Nat.le_trans h.size hc.size, fun i hi => by
    have h1 := h.block i hi
    have h2 := hc.block i (Nat.lt_of_lt_of_le hi h.size) (fun hm => by have := hS i hm; omega)
    first | exact h1.trans h2 | exact h2.trans h1⟩
theorem add_none (B off n : Nat) : Addr.add ⟨B, off, none⟩ n = ⟨B, off + n, none⟩ := by
  unfold Addr.add
  split
  · subst n; rfl
  · rfl

theorem in64_of {n : Int} (h : (Lit.int .i64 n).wf = true) : in64 n := by
  simp only [Lit.wf, Bool.and_eq_true, decide_eq_true_eq] at h
  have h1 : IntKind.i64.min = -9223372036854775808 := rfl
  have h2 : IntKind.i64.max = 9223372036854775807 := rfl
  rw [h1, h2] at h
  exact h

set_option maxRecDepth 10000 in
theorem scr_of {T : Type} {enc : TypeId × Value → T} {W : World} {base : Nat} {spare : Nat → Bool} {held : Bool} {fuel : Nat} {a : Option Addr} {len cap : Nat} {x : DataW T × List MemPlace}
    (h : DataW.trod enc Try.prog W base spare held fuel 22 [.slice a len cap] = some x) : Scr W a len := by
  have c6 : Try.prog.cellsOf 48 = 6 := by kernel_rfl
  have c3 : Try.prog.cellsOf 3 = 1 := by kernel_rfl
  have c9 : Try.prog.cellsOf 9 = 1 := by kernel_rfl
  rcases DataW.trod_slice Try.underlying22 h with ⟨hcs, _⟩ | ⟨y, l, c, elems, rest, n, _, hcs, _, _, hl, hm, hel, hget, _⟩
  · simp at hcs
    exact .inl hcs.2.1
  · simp at hcs
    obtain ⟨rfl, rfl, rfl⟩ := hcs
    rw [c6] at hget
    by_cases h0 : len = 0
    · exact .inl h0
    · have row : ∀ i, i < len → ∃ cs, W.cells? base (y.add (i * 6)) 6 = some cs ∧ ∃ y', DataW.trod enc Try.prog W base spare held n 48 cs = some y' := by
        intro i hi
        have e := hget i hi
        rw [List.getElem?_eq_getElem (by omega)] at e
        obtain ⟨cs, h1, h2⟩ := Option.bind_eq_some_iff.1 e
        exact ⟨cs, h1, _, h2⟩
      obtain ⟨B, off, spot⟩ := y
      obtain ⟨cs0, hc0, _⟩ := row 0 (by omega)
      have hb := World.cells?_block hc0 (by omega)
      obtain ⟨_, hl0, hcell0⟩ := World.cells?_some hc0
      have hsp : spot = none := by
        have e := hcell0 0 (by omega)
        rw [List.getElem?_eq_getElem (by omega)] at e
        simpa [Addr.add] using World.cell?_spot e
      subst hsp
      refine .inr ⟨B, off, rfl, by simpa [Addr.add] using hb, Nat.le_trans hl (Nat.le_trans hm (by decide)), fun i hi => ?_⟩
      obtain ⟨cs, hc, y', hy⟩ := row i hi
      obtain ⟨_, hcl, hcell⟩ := World.cells?_some hc
      obtain ⟨xs, m, _, _, _, _, hf⟩ := DataW.trod_struct Try.underlying48 hy
      match cs, hcl with
      | [v0, v1, v2, v3, v4, v5], _ =>
        have hx : ∀ j, j < 6 → ∃ z, xs[j]? = some z := fun j hj => ⟨xs[j]'(by simp_all), List.getElem?_eq_getElem _⟩
        obtain ⟨z0, e0⟩ := hx 0 (by omega)
        obtain ⟨z1, e1⟩ := hx 1 (by omega)
        obtain ⟨z2, e2⟩ := hx 2 (by omega)
        obtain ⟨z3, e3⟩ := hx 3 (by omega)
        obtain ⟨z4, e4⟩ := hx 4 (by omega)
        obtain ⟨z5, e5⟩ := hx 5 (by omega)
        have g0 : DataW.trod enc Try.prog W base spare held m 3 (([v0, v1, v2, v3, v4, v5].drop 0).take (Try.prog.cellsOf 3)) = xs[0]? := hf 0 _ rfl
        have g1 : DataW.trod enc Try.prog W base spare held m 3 (([v0, v1, v2, v3, v4, v5].drop 1).take (Try.prog.cellsOf 3)) = xs[1]? := hf 1 _ rfl
        have g2 : DataW.trod enc Try.prog W base spare held m 3 (([v0, v1, v2, v3, v4, v5].drop 2).take (Try.prog.cellsOf 3)) = xs[2]? := hf 2 _ rfl
        have g3 : DataW.trod enc Try.prog W base spare held m 3 (([v0, v1, v2, v3, v4, v5].drop 3).take (Try.prog.cellsOf 3)) = xs[3]? := hf 3 _ rfl
        have g4 : DataW.trod enc Try.prog W base spare held m 9 (([v0, v1, v2, v3, v4, v5].drop 4).take (Try.prog.cellsOf 9)) = xs[4]? := hf 4 _ rfl
        have g5 : DataW.trod enc Try.prog W base spare held m 9 (([v0, v1, v2, v3, v4, v5].drop 5).take (Try.prog.cellsOf 9)) = xs[5]? := hf 5 _ rfl
        rw [c3] at g0 g1 g2 g3
        rw [c9] at g4 g5
        obtain ⟨n0, r0, _, w0⟩ := DataW.trod_int Try.underlying3 (g0.trans e0)
        obtain ⟨n1, r1, _, w1⟩ := DataW.trod_int Try.underlying3 (g1.trans e1)
        obtain ⟨n2, r2, _, w2⟩ := DataW.trod_int Try.underlying3 (g2.trans e2)
        obtain ⟨n3, r3, _, w3⟩ := DataW.trod_int Try.underlying3 (g3.trans e3)
        obtain ⟨s4, r4, _, w4⟩ := DataW.trod_string Try.underlying9 (g4.trans e4)
        obtain ⟨s5, r5, _, w5⟩ := DataW.trod_string Try.underlying9 (g5.trans e5)
        simp only [List.drop, List.take, List.cons.injEq, and_true] at r0 r1 r2 r3 r4 r5
        subst r0 r1 r2 r3 r4 r5
        have q0 := hcell 0 (by omega)
        have q1 := hcell 1 (by omega)
        have q2 := hcell 2 (by omega)
        have q3 := hcell 3 (by omega)
        have q4 := hcell 4 (by omega)
        have q5 := hcell 5 (by omega)
        simp only [add_none, Nat.add_zero, List.getElem?_cons_zero, List.getElem?_cons_succ] at q0 q1 q2 q3 q4 q5
        exact ⟨⟨n0, n1, n2, n3, s4, s5⟩, ⟨q0, q1, q2, q3, q4, q5, in64_of w1, in64_of w2, in64_of w3⟩⟩

set_option maxHeartbeats 1000000 in
theorem soundb_any (w : World) (i : BId) (xs ys : List Datum) (h : BoxAt w i (Pl.lv xs) (Pl.lv ys)) : Calls Try.prog 88 #[.agg #[.pointer (some ⟨i.px, 0, none⟩), .pointer (some ⟨i.py, 0, none⟩)]] w fun e w' => e = .returned (.bool true) ∧ Ext w w' := by
  have H : Hid (BoxAt w i (Pl.lv xs) (Pl.lv ys)) := h
  clear h
  go_enter Try.func88, Try.ntmps88
  go_wp2_with fail
  refine (scheck_any _ i.px i.Lx xs (H.out.sx.ext ((Ext.refl w).alloc _))).mono ?_
  rintro e w1 ⟨rfl, x1⟩
  have z := x1.heap (heap_alloc_new w _)
  have c1 : w1.cell? ⟨w.heap.size, 1, none⟩ = some (.pointer (some ⟨i.py, 0, none⟩)) := cell_of z 1
  have X1 : Hid (Ext w w1) := ((Ext.refl w).alloc _).trans x1
  clear z x1
  go_wp2_with fail
  refine (scheck_any _ i.py i.Ly ys (H.out.sy.ext X1.out)).mono ?_
  rintro e w2 ⟨rfl, x2⟩
  have X2 : Hid (Ext w w2) := X1.out.trans x2
  clear x2
  go_wp2
  go_ret
  exact ⟨rfl, X2.out⟩
set_option maxHeartbeats 1000000 in
theorem alike_any (w : World) (i : BId) (B : Nat) (im : BM) (xs ys : List Datum) (h1 : BoxAt w i (Pl.lv xs) (Pl.lv ys)) (h2 : BmAt w B im xs ys) (hx : Pl.Rat xs) (hy : Pl.Rat ys) (dis : ∀ k, k ∈ i.all → k ∉ im.all) : Calls Try.prog 62 #[.agg #[.pointer (some ⟨i.px, 0, none⟩), .pointer (some ⟨i.py, 0, none⟩)], .pointer (some ⟨i.b, 0, none⟩), .pointer (some ⟨im.mb, 0, none⟩)] w fun e w' => e = .returned (.bool true) ∧ BoxAt w' i (Pl.lv xs) (Pl.lv ys) ∧ BmAt w' B im xs ys ∧ Chg im.all w w' := by
  have H : Hid (BoxAt w i (Pl.lv xs) (Pl.lv ys) ∧ BmAt w B im xs ys ∧ Pl.Rat xs ∧ Pl.Rat ys ∧ (∀ k, k ∈ i.all → k ∉ im.all) ∧ w.heap.size ∉ im.all) := ⟨h1, h2, hx, hy, dis, fun hk => by have := (h2.lt _ hk).1; omega⟩
  clear h1 h2 hx hy dis
  go_enter Try.func62, Try.ntmps62
  go_wp2_with fail
  have hsh := show_any _ i _ _ (H.out.1.ext ((Ext.refl w).alloc (.cells #[.pointer (some ⟨i.px, 0, none⟩), .pointer (some ⟨i.py, 0, none⟩)] 27)))
  rw [Pl.lv_len] at hsh
  refine hsh.mono ?_
  rintro e w1 ⟨rfl, x1⟩
  have z := x1.heap (heap_alloc_new w _)
  have X1 : Hid (Ext w w1 ∧ w1.heap[w.heap.size]? = some (.cells #[.pointer (some ⟨i.px, 0, none⟩), .pointer (some ⟨i.py, 0, none⟩)] 27)) := ⟨((Ext.refl w).alloc _).trans x1, z⟩
  clear z x1 hsh
  go_wp2_with fail
  refine (bmshow_any w1 B im xs ys (H.out.2.1.ext X1.out.1) H.out.2.2.1 H.out.2.2.2.1).mono ?_
  rintro e w2 ⟨rfl, b2, c2⟩
  have z := c2.heap X1.out.2 H.out.2.2.2.2.2
  have H2 : Hid (BoxAt w2 i (Pl.lv xs) (Pl.lv ys) ∧ BmAt w2 B im xs ys ∧ Chg im.all w w2) := ⟨(H.out.1.ext X1.out.1).chg c2 H.out.2.2.2.2.1, b2, (Chg.of_ext X1.out.1).trans c2⟩
  have c0 : w2.cell? ⟨w.heap.size, 0, none⟩ = some (.pointer (some ⟨i.px, 0, none⟩)) := cell_of z 0
  have c1 : w2.cell? ⟨w.heap.size, 1, none⟩ = some (.pointer (some ⟨i.py, 0, none⟩)) := cell_of z 1
  clear b2 c2 z
  generalize st (showB xs.length (Pl.axisOf (Pl.lv xs)) (Pl.axisOf (Pl.lv ys))) = S at *
  go_wp2_with fail
  refine (soundb_any w2 i xs ys H2.out.1).mono ?_
  rintro e w3 ⟨rfl, x3⟩
  have H3 : Hid (BoxAt w3 i (Pl.lv xs) (Pl.lv ys) ∧ BmAt w3 B im xs ys ∧ Chg im.all w w3) := ⟨H2.out.1.ext x3, H2.out.2.1.ext x3, H2.out.2.2.then x3⟩
  clear x3
  go_wp2_with fail
  refine (check_any w3 i xs ys H3.out.1).mono ?_
  rintro e w4 ⟨rfl, x4⟩
  have H4 : Hid (BoxAt w4 i (Pl.lv xs) (Pl.lv ys) ∧ BmAt w4 B im xs ys ∧ Chg im.all w w4) := ⟨H3.out.1.ext x4, H3.out.2.1.ext x4, H3.out.2.2.then x4⟩
  clear x4
  go_wp2
  go_ret
  exact ⟨rfl, H4.out⟩
theorem rat_step {xs ys : List Datum} {o : Stp} (hx : Pl.Rat xs) (hy : Pl.Rat ys) (ha : in64 o.a) (hb : in64 o.b) (hc : in64 o.c) : Pl.Rat (bstep xs ys o).xs ∧ Pl.Rat (bstep xs ys o).ys := by
  unfold bstep
  split
  · simp only [aX]
    split
    · exact ⟨hx.snoc ha hc, hy.snoc hb hc⟩
    · exact ⟨hx, hy⟩
  split
  · exact ⟨hx.drop, hy.drop⟩
  split
  · exact ⟨hx, hy⟩
  split
  · exact ⟨hx, hy⟩
  split
  · exact ⟨hx, hy⟩
  split
  · exact ⟨hx, hy⟩
  split
  · exact ⟨hx, hy⟩
  split
  · exact ⟨hx, hy⟩
  split
  · exact ⟨hx, hy⟩
  split
  · exact ⟨hx, hy⟩
  · exact ⟨hx, hy⟩
end Go.Proofs.Qxb6500343a

