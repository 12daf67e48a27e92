/-
  Walks 7: the box: add, drop, len.
-/
import Derived.Test.Qxb6500343aW6
namespace Go.Proofs.Qxb6500343a
open Go.RowKit
open Go.Proofs
open Fl
open Ieee (Datum)
set_option linter.unusedSimpArgs false
set_option linter.unusedVariables false
attribute [local go_sem] run_fadd run_fsub run_fmul run_fquo run_store_float alloc_drewN setCell_drewN shape?_drewN tape_alloc drawn_alloc tape_setCell drawn_setCell drawn_drewN drawn_drew

/-- A box's five blocks. -/
structure BId where
  b : Nat
  px : Nat
  Lx : Nat
  py : Nat
  Ly : Nat
def BId.all (i : BId) : List Nat := [i.b, i.px, i.Lx, i.py, i.Ly]
structure BoxAt (w : World) (i : BId) (xs ys : List Pl.LD) : Prop where
  box : BoxC w i.b i.px i.py xs.length (Pl.axisOf xs) (Pl.axisOf ys)
  sx : SerAt w i.px i.Lx xs
  sy : SerAt w i.py i.Ly ys
  len : ys.length = xs.length
  nd : i.all.Nodup
theorem BoxAt.ext {w w' : World} {i : BId} {xs ys : List Pl.LD} (h : BoxAt w i xs ys) (hx : Ext w w') : BoxAt w' i xs ys := ⟨h.box.ext hx, h.sx.ext hx, h.sy.ext hx, h.len, h.nd⟩
theorem BoxAt.chg {S : List Nat} {w w' : World} {i : BId} {xs ys : List Pl.LD} (h : BoxAt w i xs ys) (hx : Chg S w w') (hS : ∀ k, k ∈ i.all → k ∉ S) : BoxAt w' i xs ys :=
  ⟨h.box.chg hx (hS _ (by simp [BId.all])), h.sx.chg hx (hS _ (by simp [BId.all])) (hS _ (by simp [BId.all])), h.sy.chg hx (hS _ (by simp [BId.all])) (hS _ (by simp [BId.all])), h.len, h.nd⟩
theorem last_of {ls : List Pl.LD} {m : Nat} {d : Pl.LD} (hm : ls.length = m + 1) (hd : ls[m]? = some d) : ls.getLast? = some d := by
  rw [List.getLast?_eq_getElem?, hm, Nat.add_sub_cancel, hd]
/-- refresh, of a box whose series are as long as it says. -/
theorem refresh_any (w : World) (i : BId) (xs ys : List Pl.LD) (ax ay : Pl.AX) (h : BoxC w i.b i.px i.py xs.length ax ay) (hx : SerAt w i.px i.Lx xs) (hy : SerAt w i.py i.Ly ys) (hlen : ys.length = xs.length) (hnd : i.all.Nodup)
    (fx : Pl.Fit xs) (fy : Pl.Fit ys) :
    Calls Try.prog 28 #[.pointer (some ⟨i.b, 0, none⟩)] w fun e w' => e = .returned (.tuple #[]) ∧ BoxAt w' i xs ys ∧ Chg i.all w w' := by
  have hn0 : i.b ≠ i.px ∧ i.b ≠ i.Lx ∧ i.b ≠ i.py ∧ i.b ≠ i.Ly := by simp [BId.all] at hnd; omega
  obtain ⟨n1, n2, n3, n4⟩ := hn0
  have fin : ∀ w', BoxC w' i.b i.px i.py xs.length (Pl.axisOf xs) (Pl.axisOf ys) → Chg [i.b] w w' → BoxAt w' i xs ys ∧ Chg i.all w w' := fun w' h1 h2 =>
    ⟨⟨h1, hx.chg h2 (by simp; exact Ne.symm n1) (by simp; exact Ne.symm n2), hy.chg h2 (by simp; exact Ne.symm n3) (by simp; exact Ne.symm n4), hlen, hnd⟩, h2.mono (by simp [BId.all])⟩
  cases hm : xs.length with
  | zero =>
    have ex : xs = [] := List.length_eq_zero_iff.1 hm
    have ey : ys = [] := List.length_eq_zero_iff.1 (by omega)
    subst ex ey
    exact (refresh_zero w i.b i.px i.py ax ay h).mono fun e w' ⟨he, h1, h2⟩ => ⟨he, fin w' h1 h2⟩
  | succ m =>
    obtain ⟨dx, hdx⟩ : ∃ d, xs[m]? = some d := ⟨xs[m]'(by omega), by simp⟩
    obtain ⟨dy, hdy⟩ : ∃ d, ys[m]? = some d := ⟨ys[m]'(by omega), by simp⟩
    have hlx := last_of hm hdx
    have hly := last_of (by omega) hdy
    rw [hm] at h
    refine (refresh_some w i.b i.px i.Lx i.py i.Ly m xs ys dx dy ax ay h hx hy hm (by omega) hdx hdy (fx _ hlx).1 (fx _ hlx).2 (fy _ hly).1 (fy _ hly).2 hnd).mono fun e w' ⟨he, h1, h2⟩ => ⟨he, fin w' ?_ h2⟩
    rw [hm]
    simp only [Pl.axisOf, hlx, hly]
    exact h1

set_option maxHeartbeats 400000 in
theorem blen_any (w : World) (i : BId) (xs ys : List Pl.LD) (h : BoxAt w i xs ys) :
    Calls Try.prog 36 #[.pointer (some ⟨i.b, 0, none⟩)] w fun e w' => e = .returned (.int .i64 xs.length) ∧ Ext w w' := by
  obtain ⟨xl, xh, xw, xb, yl, yh, yw, yb, h1, _, _⟩ := h.box
  have h1 : w.cell? ⟨i.b, 2, none⟩ = some (.int .i64 xs.length) := cell_of h1 2
  go_enter Try.func36, Try.ntmps36
  go_wp2
  go_ret
  exact ⟨rfl, Ext.refl _⟩
set_option maxHeartbeats 400000 in
theorem add_full (w : World) (i : BId) (xs ys : List Pl.LD) (a b c : Int) (h : BoxAt w i xs ys) (hn : xs.length = 8) :
    Calls Try.prog 12 #[.pointer (some ⟨i.b, 0, none⟩), .int .i64 a, .int .i64 b, .int .i64 c] w fun e w' => e = .returned (.int .i64 1) ∧ Ext w w' := by
  obtain ⟨xl, xh, xw, xb, yl, yh, yw, yb, h1, _, _⟩ := h.box
  have h1 : w.cell? ⟨i.b, 2, none⟩ = some (.int .i64 8) := by rw [hn] at h1; exact cell_of h1 2
  go_enter Try.func12, Try.ntmps12
  go_wp2
  go_ret
  exact ⟨rfl, Ext.refl _⟩
set_option maxHeartbeats 1000000 in
theorem add_ok (w : World) (i : BId) (xs ys : List Pl.LD) (a b c : Int) (h : BoxAt w i xs ys) (hn : xs.length < 8)
    (fx : Pl.Fit (xs ++ [Pl.next xs (Pl.ratio a c)])) (fy : Pl.Fit (ys ++ [Pl.next ys (Pl.ratio b c)])) :
    Calls Try.prog 12 #[.pointer (some ⟨i.b, 0, none⟩), .int .i64 a, .int .i64 b, .int .i64 c] w fun e w' => e = .returned (.int .i64 0) ∧ BoxAt w' i (xs ++ [Pl.next xs (Pl.ratio a c)]) (ys ++ [Pl.next ys (Pl.ratio b c)]) ∧ Chg i.all w w' := by
  obtain ⟨⟨xl, xh, xw, xb, yl, yh, yw, yb, h1, hax, hay⟩, hsx, hsy, hlen, hnd⟩ := h
  have hn0 : i.b ≠ i.px ∧ i.b ≠ i.Lx ∧ i.b ≠ i.py ∧ i.b ≠ i.Ly ∧ i.py ≠ i.px ∧ i.py ≠ i.Lx ∧ i.Ly ≠ i.px ∧ i.Ly ≠ i.Lx := by simp [BId.all] at hnd; omega
  obtain ⟨n1, n2, n3, n4, n5, n6, n7, n8⟩ := hn0
  have H : Hid (BoxAt w i xs ys ∧ Pl.Fit (xs ++ [Pl.next xs (Pl.ratio a c)]) ∧ Pl.Fit (ys ++ [Pl.next ys (Pl.ratio b c)])) := ⟨⟨⟨xl, xh, xw, xb, yl, yh, yw, yb, h1, hax, hay⟩, hsx, hsy, hlen, hnd⟩, fx, fy⟩
  have H1 : Hid (w.heap[i.b]? = some (.cells (boxV i.px i.py xs.length xl xh xw xb yl yh yw yb) 62) ∧ axV xl xh xw xb (Pl.axisOf xs) ∧ axV yl yh yw yb (Pl.axisOf ys)) := ⟨h1, hax, hay⟩
  have g0 : w.cell? ⟨i.b, 0, none⟩ = some (.pointer (some ⟨i.px, 0, none⟩)) := cell_of h1 0
  have g2 : w.cell? ⟨i.b, 2, none⟩ = some (.int .i64 xs.length) := cell_of h1 2
  clear h1 hax hay hsx hsy hnd fx fy
  have HL : Hid (ys.length = xs.length) := hlen
  clear hlen
  go_enter Try.func12, Try.ntmps12
  go_wp2_with fail
  refine (push_ok w i.px i.Lx xs a c H.out.1.sx hn).mono ?_
  rintro e w1 ⟨rfl, hs1, hc1⟩
  have q1 := hc1.heap H1.out.1 (by simp; exact ⟨n1, n2⟩)
  have f0 : w1.cell? ⟨i.b, 1, none⟩ = some (.pointer (some ⟨i.py, 0, none⟩)) := cell_of q1 1
  have HS1 : Hid (SerAt w1 i.px i.Lx (xs ++ [Pl.next xs (Pl.ratio a c)]) ∧ Chg [i.px, i.Lx] w w1 ∧ w1.heap[i.b]? = some (.cells (boxV i.px i.py xs.length xl xh xw xb yl yh yw yb) 62)) := ⟨hs1, hc1, q1⟩
  clear hs1 hc1 q1
  go_wp2_with fail
  refine (push_ok w1 i.py i.Ly ys b c (H.out.1.sy.chg HS1.out.2.1 (by simp; exact ⟨n5, n6⟩) (by simp; exact ⟨n7, n8⟩)) (by rw [HL.out]; exact hn)).mono ?_
  rintro e w2 ⟨rfl, hs2, hc2⟩
  have q2 := hc2.heap HS1.out.2.2 (by simp; exact ⟨n3, n4⟩)
  have g2' : w2.cell? ⟨i.b, 2, none⟩ = some (.int .i64 xs.length) := cell_of q2 2
  have gf : ∀ o, w2.frozen? ⟨i.b, o, none⟩ = false := frozen_of q2
  have q3 := heap_set q2 2 (.int .i64 ((xs.length : Int) + 1))
  have HS2 : Hid (SerAt w2 i.py i.Ly (ys ++ [Pl.next ys (Pl.ratio b c)]) ∧ Chg [i.py, i.Ly] w1 w2) := ⟨hs2, hc2⟩
  simp only [boxV, List.setIfInBounds_toArray, List.set] at q3
  have HQ3 : Hid ((w2.setCell ⟨i.b, 2, none⟩ (.int .i64 ((xs.length : Int) + 1))).heap[i.b]? = some (.cells (boxV i.px i.py ((xs.length : Int) + 1) xl xh xw xb yl yh yw yb) 62)) := q3
  clear hs2 hc2 q2 q3
  go_wp2_with fail
  refine (refresh_any _ i (xs ++ [Pl.next xs (Pl.ratio a c)]) (ys ++ [Pl.next ys (Pl.ratio b c)]) (Pl.axisOf xs) (Pl.axisOf ys) ?_ ?_ ?_ ?_ H.out.1.nd H.out.2.1 H.out.2.2).mono ?_
  · exact ⟨xl, xh, xw, xb, yl, yh, yw, yb, by rw [HQ3.out]; simp, H1.out.2.1, H1.out.2.2⟩
  · exact (HS1.out.1.chg HS2.out.2 (by simp; omega) (by simp; omega)).chg (S := [i.b]) ((Chg.refl _ _).setCell (by simp) _) (by simp; omega) (by simp; omega)
  · exact HS2.out.1.chg (S := [i.b]) ((Chg.refl _ _).setCell (by simp) _) (by simp; omega) (by simp; omega)
  · simp [HL.out]
  rintro e w3 ⟨rfl, hb3, hc3⟩
  go_wp2
  go_ret
  refine ⟨rfl, hb3, ?_⟩
  refine Chg.trans ?_ hc3
  refine Chg.setCell ?_ (by simp [BId.all]) _
  exact (HS1.out.2.1.mono (by simp [BId.all])).trans (HS2.out.2.mono (by simp [BId.all]))
end Go.Proofs.Qxb6500343a
