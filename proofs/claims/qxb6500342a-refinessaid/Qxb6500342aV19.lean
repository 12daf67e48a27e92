/-
  Walks 19: the real side's player, Do.
-/
import Derived.Test.Qxb6500342aV18
namespace Go.Proofs.Qxb6500342a
open Go.RowKit
open Go.Proofs
open Pl (Hd)
open Tx (st)
set_option linter.unusedSimpArgs false
set_option linter.unusedVariables false
attribute [local go_sem] alloc_drewN setCell_drewN shape?_drewN

/-- What a step answers, and the state behind it. -/
structure Out where
  a : An
  u : Nat
  H : Nat → Hd
def sPut (u : Nat) (H : Nat → Hd) (h : Hd) : Out := if Pl.good h = true then (if Bd.low u < 8 then ⟨⟨0, Bd.low u, []⟩, u ||| 2 ^ Bd.low u, upd H (Bd.low u) h⟩ else ⟨⟨7, 0, []⟩, u, H⟩) else ⟨⟨6, 0, []⟩, u, H⟩
def sGet (u : Nat) (H : Nat → Hd) (n : Int) : Out := ⟨⟨atE u n, 0, Tx.showH (getH u H n)⟩, u, H⟩
def sDrop (u : Nat) (H : Nat → Hd) (n : Int) : Out := ⟨⟨atE u n, 0, []⟩, if atE u n = 0 then remB u n.toNat else u, H⟩
def sBump (u : Nat) (H : Nat → Hd) (n d : Int) : Out := ⟨⟨atE u n, 0, []⟩, u, if atE u n = 0 then upd H n.toNat (Pl.bumpH (H n.toNat) d) else H⟩
def sImp (u : Nat) (H : Nat → Hd) (s : ByteArray) : Out :=
  ⟨⟨Im.judge s.size (Bf s), 0, []⟩, if Im.judge s.size (Bf s) = 0 then Im.impU (Bf s) (s.size / 8) else u, if Im.judge s.size (Bf s) = 0 then Im.impH (Bf s) H (s.size / 8) else H⟩
def step (u : Nat) (H : Nat → Hd) (h : Hd) (img : ByteArray) (o : Stp) : Out :=
  if o.k = 4 then sPut u H h else if o.k = 5 then sGet u H o.a else if o.k = 6 then sDrop u H o.a else if o.k = 7 then sBump u H o.a o.b
  else if o.k = 8 then ⟨⟨0, Bd.cnt u, []⟩, u, H⟩ else if o.k = 9 then ⟨⟨0, 0, Im.exTo u H 8⟩, u, H⟩ else if o.k = 10 then sImp u H o.s else if o.k = 11 then sImp u H img
  else if o.k = 14 then ⟨⟨0, 0, Tx.showTo u H 8⟩, u, H⟩ else if o.k = 15 then ⟨⟨0, 1, []⟩, u, H⟩ else ⟨⟨0, 0, []⟩, u, H⟩
theorem notIn {w : World} {q : SId} {u : Nat} {H : Nat → Hd} (h : StAt w q u H) {b : Nat} (hb : w.heap.size ≤ b) : b ∉ q.all := by
  have h1 := lt_of_heap h.hs
  have h2 := lt_of_heap h.hL
  have h3 := lt_of_heap h.hb
  simp [SId.all]; omega
/-- The two blocks that a player makes, and what stands behind a call. -/
theorem res_cells {w1 : World} {b : Nat} {C : Array Value} {t : TypeId} (h : w1.heap[b]? = some (.cells C t)) : (∀ o, w1.cell? ⟨b, o, none⟩ = C[o]?) ∧ (∀ o, w1.frozen? ⟨b, o, none⟩ = false) := ⟨cell_of h, frozen_of h⟩
abbrev opC (o : Stp) : Array Value := #[.int .i64 o.k, .int .i64 o.a, .int .i64 o.b, .int .i64 o.c, .string o.s, .string o.t]
abbrev anC : Array Value := #[.int .i64 0, .int .i64 0, .int .i64 0, .string ⟨#[]⟩]
/-- A 4-cell result laid into its fresh block. -/
theorem lay4 {w1 : World} {b : Nat} (h : w1.heap[b]? = some (.cells anC 42)) (x y z v : Value) :
    let w2 := (((w1.setCell ⟨b, 0, none⟩ x).setCell ⟨b, 1, none⟩ y).setCell ⟨b, 2, none⟩ z).setCell ⟨b, 3, none⟩ v
    w2.cell? ⟨b, 0, none⟩ = some x ∧ w2.cell? ⟨b, 1, none⟩ = some y ∧ w2.cell? ⟨b, 2, none⟩ = some z ∧ w2.cell? ⟨b, 3, none⟩ = some v := by
  have := heap_set (heap_set (heap_set (heap_set h 0 x) 1 y) 2 z) 3 v
  exact ⟨cell_of this 0, cell_of this 1, cell_of this 2, cell_of this 3⟩
theorem heap_alloc2 (w : World) (o1 o2 : Obj) : ((w.alloc o1).alloc o2).heap[w.heap.size + 1]? = some o2 := by
  have := heap_alloc_new (w.alloc o1) o2
  rwa [World.size_alloc] at this
theorem put_any (w : World) (q : SId) (u : Nat) (H : Nat → Hd) (h : Hd) (hst : StAt w q u H) : Calls Try.prog 34 #[.pointer (some ⟨q.s, 0, none⟩), hdV h] w fun e w' => e = .returned (.tuple #[.int .i64 (sPut u H h).a.n, .int .i64 (sPut u H h).a.e]) ∧ StAt w' q (sPut u H h).u (sPut u H h).H ∧ Chg q.all w w' := by
  cases hg : Pl.good h
  · refine (put_bad w q u H h hst hg).mono ?_
    rintro e w1 ⟨rfl, x1⟩
    simp only [sPut, hg, Bool.false_eq_true, if_false]
    exact ⟨trivial, hst.ext x1, Chg.of_ext x1⟩
  · by_cases hl : Bd.low u < 8
    · refine (put_ok w q u H h hst hg hl).mono ?_
      rintro e w1 ⟨rfl, x1⟩
      simp only [sPut, hg, if_true, if_pos hl]
      exact ⟨trivial, x1⟩
    · refine (put_full w q u H h hst hg (by have := Bd.low_le u; omega)).mono ?_
      rintro e w1 ⟨rfl, x1⟩
      simp only [sPut, hg, if_true, if_neg hl]
      exact ⟨trivial, x1⟩
theorem drop_any (w : World) (q : SId) (u : Nat) (H : Nat → Hd) (n : Int) (hst : StAt w q u H) : Calls Try.prog 36 #[.pointer (some ⟨q.s, 0, none⟩), .int .i64 n] w fun e w' => e = .returned (.int .i64 (sDrop u H n).a.e) ∧ StAt w' q (sDrop u H n).u (sDrop u H n).H ∧ Chg q.all w w' := by
  by_cases hz : atE u n = 0
  · obtain ⟨m, rfl, hm, hb⟩ := atE_zero hz
    refine (drop_ok w q u H m hst hm hb).mono ?_
    rintro e w1 ⟨rfl, x1⟩
    simp only [sDrop, hz, if_true, Int.toNat_natCast]
    exact ⟨trivial, x1⟩
  · refine (drop_err w q u H n hst hz).mono ?_
    rintro e w1 ⟨rfl, x1⟩
    simp only [sDrop, if_neg hz]
    exact ⟨trivial, hst.ext x1, Chg.of_ext x1⟩
theorem sbump_any (w : World) (q : SId) (u : Nat) (H : Nat → Hd) (n d : Int) (hst : StAt w q u H) : Calls Try.prog 37 #[.pointer (some ⟨q.s, 0, none⟩), .int .i64 n, .int .i64 d] w fun e w' => e = .returned (.int .i64 (sBump u H n d).a.e) ∧ StAt w' q (sBump u H n d).u (sBump u H n d).H ∧ Chg q.all w w' := by
  by_cases hz : atE u n = 0
  · obtain ⟨m, rfl, hm, hb⟩ := atE_zero hz
    refine (bump_ok w q u H m d hst hm hb).mono ?_
    rintro e w1 ⟨rfl, x1⟩
    simp only [sBump, hz, if_true, Int.toNat_natCast]
    exact ⟨trivial, x1⟩
  · refine (bump_err w q u H n d hst hz).mono ?_
    rintro e w1 ⟨rfl, x1⟩
    simp only [sBump, if_neg hz]
    exact ⟨trivial, hst.ext x1, Chg.of_ext x1⟩
theorem imp_any (w : World) (q : SId) (u : Nat) (H : Nat → Hd) (s : ByteArray) (hst : StAt w q u H) (hs : s.size ≤ 9223372036854775807) : Calls Try.prog 40 #[.pointer (some ⟨q.s, 0, none⟩), .string s] w fun e w' => e = .returned (.int .i64 (sImp u H s).a.e) ∧ StAt w' q (sImp u H s).u (sImp u H s).H ∧ Chg q.all w w' := by
  by_cases hz : Im.judge s.size (Bf s) = 0
  · refine (import_ok w q u H H s hst hs hz).mono ?_
    rintro e w1 ⟨rfl, x1⟩
    simp only [sImp, hz, if_true]
    exact ⟨trivial, x1⟩
  · refine (import_err w q s hs hz).mono ?_
    rintro e w1 ⟨rfl, x1⟩
    simp only [sImp, if_neg hz]
    exact ⟨trivial, hst.ext x1, Chg.of_ext x1⟩
theorem fin4 {w w1 : World} {q : SId} {u : Nat} {H : Nat → Hd} (h : StAt w1 q u H) (hc : Chg q.all w w1) {n : Nat} (nI : n ∉ q.all) (hn : w.heap.size ≤ n) (x y z v : Value) :
    StAt ((((w1.setCell ⟨n, 0, none⟩ x).setCell ⟨n, 1, none⟩ y).setCell ⟨n, 2, none⟩ z).setCell ⟨n, 3, none⟩ v) q u H ∧ Chg q.all w ((((w1.setCell ⟨n, 0, none⟩ x).setCell ⟨n, 1, none⟩ y).setCell ⟨n, 2, none⟩ z).setCell ⟨n, 3, none⟩ v) := by
  refine ⟨h.chg (S := [n]) (((((Chg.refl _ _).setCell (by simp) _).setCell (by simp) _).setCell (by simp) _).setCell (by simp) _) ?_, (((hc.setCell (.inr hn) _).setCell (.inr hn) _).setCell (.inr hn) _).setCell (.inr hn) _⟩
  intro k hk
  simp only [List.mem_singleton]
  rintro rfl
  exact nI hk
theorem getH64 {w : World} {q : SId} {u : Nat} {H : Nat → Hd} (hst : StAt w q u H) (n : Int) : hd64 (getH u H n) := by
  unfold getH
  split
  · rename_i hz
    obtain ⟨m, rfl, hm, hb⟩ := atE_zero hz
    exact hd64_good (hst.good m hm hb)
  · exact hd64_zero
set_option maxHeartbeats 1000000 in
theorem do_put (w : World) (q : SId) (u : Nat) (H : Nat → Hd) (db p : Nat) (C : Array Value) (ty : TypeId) (h : Hd) (img : ByteArray) (o : Stp) (hst : StAt w q u H) (hb : w.heap[db]? = some (.cells C ty)) (hd : DkIn C p h img) (hos : o.s.size ≤ 9223372036854775807) (him : img.size ≤ 64) (hk : o.k = 4) :
    Calls Try.prog 29 #[.pointer (some ⟨q.s, 0, none⟩), .pointer (some ⟨db, p, none⟩), opV o] w fun e w' => e = .returned (anV (sPut u H h).a) ∧ StAt w' q (sPut u H h).u (sPut u H h).H ∧ Chg q.all w w' := by
  obtain ⟨k, oa, ob, oc, os, ot⟩ := o
  simp only at hk hos ⊢
  subst hk
  unfold opV anV
  have g0 : w.cell? ⟨db, p, none⟩ = some (.int .i64 h.k) := (cell_of hb _).trans hd.k
  have g1 : w.cell? ⟨db, p + 1, none⟩ = some (.int .i64 h.d) := (cell_of hb _).trans hd.d
  have g2 : w.cell? ⟨db, p + 2, none⟩ = some (.int .i64 h.l) := (cell_of hb _).trans hd.l
  have g3 : w.cell? ⟨db, p + 3, none⟩ = some (.int .i64 h.f) := (cell_of hb _).trans hd.f
  have g4 : w.cell? ⟨db, p + 4, none⟩ = some (.int .i64 h.s) := (cell_of hb _).trans hd.s
  have g5 : w.cell? ⟨db, p + 5, none⟩ = some (.string img) := (cell_of hb _).trans hd.i
  have hbl := lt_of_heap hb
  have HS : Hid (StAt w q u H) := hst
  have nI : w.heap.size + 1 ∉ q.all := notIn hst (by omega)
  have HN : Hid (w.heap.size + 1 ∉ q.all) := nI
  clear hst hb hd
  go_enter Try.func29, Try.ntmps29
  go_wp2_with fail
  refine (put_any _ q u H h (HS.out.ext (((Ext.refl w).alloc _).alloc _))).mono ?_
  rintro e w1 ⟨rfl, s1, c1⟩
  have z := c1.heap (heap_alloc2 w _ _) nI
  obtain ⟨zc, zf⟩ := res_cells z
  have z0 := zc 0
  have z1 := zc 1
  have z2 := zc 2
  have z3 := zc 3
  have H1 : Hid (StAt w1 q (sPut u H h).u (sPut u H h).H ∧ Chg q.all w w1 ∧ Value.string (st (sPut u H h).a.s) = .string ⟨#[]⟩) := ⟨s1, ((Chg.of_ext (((Ext.refl w).alloc _).alloc _))).trans c1, by first | rfl | (unfold sPut; split <;> (try split) <;> rfl)⟩
  have HR : Hid _ := lay4 z (.int .i64 (sPut u H h).a.e) (.int .i64 (sPut u H h).a.n) (.int .i64 0) (.string ⟨#[]⟩)
  clear zc s1 c1 z nI
  go_wp2
  obtain ⟨r0, r1, r2, r3⟩ := HR.out
  apply bodyPost_ret
  focus (simp [results, Try.results29, go_sem, r0, r1, r2, r3]; rfl)
  focus rfl
  first | rw [H1.out.2.2] | skip
  exact ⟨rfl, fin4 H1.out.1 H1.out.2.1 HN.out (by omega) _ _ _ _⟩
set_option maxHeartbeats 1000000 in
theorem do_drop (w : World) (q : SId) (u : Nat) (H : Nat → Hd) (db p : Nat) (C : Array Value) (ty : TypeId) (h : Hd) (img : ByteArray) (o : Stp) (hst : StAt w q u H) (hb : w.heap[db]? = some (.cells C ty)) (hd : DkIn C p h img) (hos : o.s.size ≤ 9223372036854775807) (him : img.size ≤ 64) (hk : o.k = 6) :
    Calls Try.prog 29 #[.pointer (some ⟨q.s, 0, none⟩), .pointer (some ⟨db, p, none⟩), opV o] w fun e w' => e = .returned (anV (sDrop u H o.a).a) ∧ StAt w' q (sDrop u H o.a).u (sDrop u H o.a).H ∧ Chg q.all w w' := by
  obtain ⟨k, oa, ob, oc, os, ot⟩ := o
  simp only at hk hos ⊢
  subst hk
  unfold opV anV
  have g0 : w.cell? ⟨db, p, none⟩ = some (.int .i64 h.k) := (cell_of hb _).trans hd.k
  have g1 : w.cell? ⟨db, p + 1, none⟩ = some (.int .i64 h.d) := (cell_of hb _).trans hd.d
  have g2 : w.cell? ⟨db, p + 2, none⟩ = some (.int .i64 h.l) := (cell_of hb _).trans hd.l
  have g3 : w.cell? ⟨db, p + 3, none⟩ = some (.int .i64 h.f) := (cell_of hb _).trans hd.f
  have g4 : w.cell? ⟨db, p + 4, none⟩ = some (.int .i64 h.s) := (cell_of hb _).trans hd.s
  have g5 : w.cell? ⟨db, p + 5, none⟩ = some (.string img) := (cell_of hb _).trans hd.i
  have hbl := lt_of_heap hb
  have HS : Hid (StAt w q u H) := hst
  have nI : w.heap.size + 1 ∉ q.all := notIn hst (by omega)
  have HN : Hid (w.heap.size + 1 ∉ q.all) := nI
  clear hst hb hd
  go_enter Try.func29, Try.ntmps29
  go_wp2_with fail
  refine (drop_any _ q u H oa (HS.out.ext (((Ext.refl w).alloc _).alloc _))).mono ?_
  rintro e w1 ⟨rfl, s1, c1⟩
  have z := c1.heap (heap_alloc2 w _ _) nI
  obtain ⟨zc, zf⟩ := res_cells z
  have z0 := zc 0
  have z1 := zc 1
  have z2 := zc 2
  have z3 := zc 3
  have H1 : Hid (StAt w1 q (sDrop u H oa).u (sDrop u H oa).H ∧ Chg q.all w w1 ∧ Value.string (st (sDrop u H oa).a.s) = .string ⟨#[]⟩) := ⟨s1, ((Chg.of_ext (((Ext.refl w).alloc _).alloc _))).trans c1, by first | rfl | (unfold sPut; split <;> (try split) <;> rfl)⟩
  have HR : Hid _ := lay4 z (.int .i64 (sDrop u H oa).a.e) (.int .i64 0) (.int .i64 0) (.string ⟨#[]⟩)
  clear zc s1 c1 z nI
  go_wp2
  obtain ⟨r0, r1, r2, r3⟩ := HR.out
  apply bodyPost_ret
  focus (simp [results, Try.results29, go_sem, r0, r1, r2, r3]; rfl)
  focus rfl
  first | rw [H1.out.2.2] | skip
  exact ⟨rfl, fin4 H1.out.1 H1.out.2.1 HN.out (by omega) _ _ _ _⟩
set_option maxHeartbeats 1000000 in
theorem do_bump (w : World) (q : SId) (u : Nat) (H : Nat → Hd) (db p : Nat) (C : Array Value) (ty : TypeId) (h : Hd) (img : ByteArray) (o : Stp) (hst : StAt w q u H) (hb : w.heap[db]? = some (.cells C ty)) (hd : DkIn C p h img) (hos : o.s.size ≤ 9223372036854775807) (him : img.size ≤ 64) (hk : o.k = 7) :
    Calls Try.prog 29 #[.pointer (some ⟨q.s, 0, none⟩), .pointer (some ⟨db, p, none⟩), opV o] w fun e w' => e = .returned (anV (sBump u H o.a o.b).a) ∧ StAt w' q (sBump u H o.a o.b).u (sBump u H o.a o.b).H ∧ Chg q.all w w' := by
  obtain ⟨k, oa, ob, oc, os, ot⟩ := o
  simp only at hk hos ⊢
  subst hk
  unfold opV anV
  have g0 : w.cell? ⟨db, p, none⟩ = some (.int .i64 h.k) := (cell_of hb _).trans hd.k
  have g1 : w.cell? ⟨db, p + 1, none⟩ = some (.int .i64 h.d) := (cell_of hb _).trans hd.d
  have g2 : w.cell? ⟨db, p + 2, none⟩ = some (.int .i64 h.l) := (cell_of hb _).trans hd.l
  have g3 : w.cell? ⟨db, p + 3, none⟩ = some (.int .i64 h.f) := (cell_of hb _).trans hd.f
  have g4 : w.cell? ⟨db, p + 4, none⟩ = some (.int .i64 h.s) := (cell_of hb _).trans hd.s
  have g5 : w.cell? ⟨db, p + 5, none⟩ = some (.string img) := (cell_of hb _).trans hd.i
  have hbl := lt_of_heap hb
  have HS : Hid (StAt w q u H) := hst
  have nI : w.heap.size + 1 ∉ q.all := notIn hst (by omega)
  have HN : Hid (w.heap.size + 1 ∉ q.all) := nI
  clear hst hb hd
  go_enter Try.func29, Try.ntmps29
  go_wp2_with fail
  refine (sbump_any _ q u H oa ob (HS.out.ext (((Ext.refl w).alloc _).alloc _))).mono ?_
  rintro e w1 ⟨rfl, s1, c1⟩
  have z := c1.heap (heap_alloc2 w _ _) nI
  obtain ⟨zc, zf⟩ := res_cells z
  have z0 := zc 0
  have z1 := zc 1
  have z2 := zc 2
  have z3 := zc 3
  have H1 : Hid (StAt w1 q (sBump u H oa ob).u (sBump u H oa ob).H ∧ Chg q.all w w1 ∧ Value.string (st (sBump u H oa ob).a.s) = .string ⟨#[]⟩) := ⟨s1, ((Chg.of_ext (((Ext.refl w).alloc _).alloc _))).trans c1, by first | rfl | (unfold sPut; split <;> (try split) <;> rfl)⟩
  have HR : Hid _ := lay4 z (.int .i64 (sBump u H oa ob).a.e) (.int .i64 0) (.int .i64 0) (.string ⟨#[]⟩)
  clear zc s1 c1 z nI
  go_wp2
  obtain ⟨r0, r1, r2, r3⟩ := HR.out
  apply bodyPost_ret
  focus (simp [results, Try.results29, go_sem, r0, r1, r2, r3]; rfl)
  focus rfl
  first | rw [H1.out.2.2] | skip
  exact ⟨rfl, fin4 H1.out.1 H1.out.2.1 HN.out (by omega) _ _ _ _⟩
set_option maxHeartbeats 1000000 in
theorem do_len (w : World) (q : SId) (u : Nat) (H : Nat → Hd) (db p : Nat) (C : Array Value) (ty : TypeId) (h : Hd) (img : ByteArray) (o : Stp) (hst : StAt w q u H) (hb : w.heap[db]? = some (.cells C ty)) (hd : DkIn C p h img) (hos : o.s.size ≤ 9223372036854775807) (him : img.size ≤ 64) (hk : o.k = 8) :
    Calls Try.prog 29 #[.pointer (some ⟨q.s, 0, none⟩), .pointer (some ⟨db, p, none⟩), opV o] w fun e w' => e = .returned (anV ((⟨⟨0, Bd.cnt u, []⟩, u, H⟩ : Out)).a) ∧ StAt w' q ((⟨⟨0, Bd.cnt u, []⟩, u, H⟩ : Out)).u ((⟨⟨0, Bd.cnt u, []⟩, u, H⟩ : Out)).H ∧ Chg q.all w w' := by
  obtain ⟨k, oa, ob, oc, os, ot⟩ := o
  simp only at hk hos ⊢
  subst hk
  unfold opV anV
  have g0 : w.cell? ⟨db, p, none⟩ = some (.int .i64 h.k) := (cell_of hb _).trans hd.k
  have g1 : w.cell? ⟨db, p + 1, none⟩ = some (.int .i64 h.d) := (cell_of hb _).trans hd.d
  have g2 : w.cell? ⟨db, p + 2, none⟩ = some (.int .i64 h.l) := (cell_of hb _).trans hd.l
  have g3 : w.cell? ⟨db, p + 3, none⟩ = some (.int .i64 h.f) := (cell_of hb _).trans hd.f
  have g4 : w.cell? ⟨db, p + 4, none⟩ = some (.int .i64 h.s) := (cell_of hb _).trans hd.s
  have g5 : w.cell? ⟨db, p + 5, none⟩ = some (.string img) := (cell_of hb _).trans hd.i
  have hbl := lt_of_heap hb
  have HS : Hid (StAt w q u H) := hst
  have nI : w.heap.size + 1 ∉ q.all := notIn hst (by omega)
  have HN : Hid (w.heap.size + 1 ∉ q.all) := nI
  clear hst hb hd
  go_enter Try.func29, Try.ntmps29
  go_wp2_with fail
  refine (len_any _ q u H (HS.out.ext (((Ext.refl w).alloc _).alloc _))).mono ?_
  rintro e w1 ⟨rfl, x1⟩
  have c1 := Chg.of_ext (S := q.all) x1
  have s1 := (HS.out.ext (((Ext.refl w).alloc _).alloc _)).ext x1
  have z := c1.heap (heap_alloc2 w _ _) nI
  obtain ⟨zc, zf⟩ := res_cells z
  have z0 := zc 0
  have z1 := zc 1
  have z2 := zc 2
  have z3 := zc 3
  have H1 : Hid (StAt w1 q ((⟨⟨0, Bd.cnt u, []⟩, u, H⟩ : Out)).u ((⟨⟨0, Bd.cnt u, []⟩, u, H⟩ : Out)).H ∧ Chg q.all w w1 ∧ Value.string (st ((⟨⟨0, Bd.cnt u, []⟩, u, H⟩ : Out)).a.s) = .string ⟨#[]⟩) := ⟨s1, ((Chg.of_ext (((Ext.refl w).alloc _).alloc _))).trans c1, by first | rfl | (unfold sPut; split <;> (try split) <;> rfl)⟩
  have HR : Hid _ := lay4 z (.int .i64 0) (.int .i64 (Bd.cnt u)) (.int .i64 0) (.string ⟨#[]⟩)
  clear zc s1 c1 z nI
  go_wp2
  obtain ⟨r0, r1, r2, r3⟩ := HR.out
  apply bodyPost_ret
  focus (simp [results, Try.results29, go_sem, r0, r1, r2, r3]; rfl)
  focus rfl
  first | rw [H1.out.2.2] | skip
  exact ⟨rfl, fin4 H1.out.1 H1.out.2.1 HN.out (by omega) _ _ _ _⟩
set_option maxHeartbeats 1000000 in
theorem do_export (w : World) (q : SId) (u : Nat) (H : Nat → Hd) (db p : Nat) (C : Array Value) (ty : TypeId) (h : Hd) (img : ByteArray) (o : Stp) (hst : StAt w q u H) (hb : w.heap[db]? = some (.cells C ty)) (hd : DkIn C p h img) (hos : o.s.size ≤ 9223372036854775807) (him : img.size ≤ 64) (hk : o.k = 9) :
    Calls Try.prog 29 #[.pointer (some ⟨q.s, 0, none⟩), .pointer (some ⟨db, p, none⟩), opV o] w fun e w' => e = .returned (anV ((⟨⟨0, 0, Im.exTo u H 8⟩, u, H⟩ : Out)).a) ∧ StAt w' q ((⟨⟨0, 0, Im.exTo u H 8⟩, u, H⟩ : Out)).u ((⟨⟨0, 0, Im.exTo u H 8⟩, u, H⟩ : Out)).H ∧ Chg q.all w w' := by
  obtain ⟨k, oa, ob, oc, os, ot⟩ := o
  simp only at hk hos ⊢
  subst hk
  unfold opV anV
  have g0 : w.cell? ⟨db, p, none⟩ = some (.int .i64 h.k) := (cell_of hb _).trans hd.k
  have g1 : w.cell? ⟨db, p + 1, none⟩ = some (.int .i64 h.d) := (cell_of hb _).trans hd.d
  have g2 : w.cell? ⟨db, p + 2, none⟩ = some (.int .i64 h.l) := (cell_of hb _).trans hd.l
  have g3 : w.cell? ⟨db, p + 3, none⟩ = some (.int .i64 h.f) := (cell_of hb _).trans hd.f
  have g4 : w.cell? ⟨db, p + 4, none⟩ = some (.int .i64 h.s) := (cell_of hb _).trans hd.s
  have g5 : w.cell? ⟨db, p + 5, none⟩ = some (.string img) := (cell_of hb _).trans hd.i
  have hbl := lt_of_heap hb
  have HS : Hid (StAt w q u H) := hst
  have nI : w.heap.size + 1 ∉ q.all := notIn hst (by omega)
  have HN : Hid (w.heap.size + 1 ∉ q.all) := nI
  clear hst hb hd
  go_enter Try.func29, Try.ntmps29
  go_wp2_with fail
  refine (export_any _ q u H (HS.out.ext (((Ext.refl w).alloc _).alloc _))).mono ?_
  rintro e w1 ⟨rfl, x1⟩
  have c1 := Chg.of_ext (S := q.all) x1
  have s1 := (HS.out.ext (((Ext.refl w).alloc _).alloc _)).ext x1
  have z := c1.heap (heap_alloc2 w _ _) nI
  obtain ⟨zc, zf⟩ := res_cells z
  have z0 := zc 0
  have z1 := zc 1
  have z2 := zc 2
  have z3 := zc 3
  have H1 : Hid (StAt w1 q ((⟨⟨0, 0, Im.exTo u H 8⟩, u, H⟩ : Out)).u ((⟨⟨0, 0, Im.exTo u H 8⟩, u, H⟩ : Out)).H ∧ Chg q.all w w1 ∧ Value.string (st ((⟨⟨0, 0, Im.exTo u H 8⟩, u, H⟩ : Out)).a.s) = .string (st (Im.exTo u H 8))) := ⟨s1, ((Chg.of_ext (((Ext.refl w).alloc _).alloc _))).trans c1, by first | rfl | (unfold sPut; split <;> (try split) <;> rfl)⟩
  have HR : Hid _ := lay4 z (.int .i64 0) (.int .i64 0) (.int .i64 0) (.string (st (Im.exTo u H 8)))
  clear zc s1 c1 z nI
  go_wp2
  obtain ⟨r0, r1, r2, r3⟩ := HR.out
  apply bodyPost_ret
  focus (simp [results, Try.results29, go_sem, r0, r1, r2, r3]; rfl)
  focus rfl
  first | rw [H1.out.2.2] | skip
  exact ⟨rfl, fin4 H1.out.1 H1.out.2.1 HN.out (by omega) _ _ _ _⟩
set_option maxHeartbeats 1000000 in
theorem do_imp (w : World) (q : SId) (u : Nat) (H : Nat → Hd) (db p : Nat) (C : Array Value) (ty : TypeId) (h : Hd) (img : ByteArray) (o : Stp) (hst : StAt w q u H) (hb : w.heap[db]? = some (.cells C ty)) (hd : DkIn C p h img) (hos : o.s.size ≤ 9223372036854775807) (him : img.size ≤ 64) (hk : o.k = 10) :
    Calls Try.prog 29 #[.pointer (some ⟨q.s, 0, none⟩), .pointer (some ⟨db, p, none⟩), opV o] w fun e w' => e = .returned (anV (sImp u H o.s).a) ∧ StAt w' q (sImp u H o.s).u (sImp u H o.s).H ∧ Chg q.all w w' := by
  obtain ⟨k, oa, ob, oc, os, ot⟩ := o
  simp only at hk hos ⊢
  subst hk
  unfold opV anV
  have g0 : w.cell? ⟨db, p, none⟩ = some (.int .i64 h.k) := (cell_of hb _).trans hd.k
  have g1 : w.cell? ⟨db, p + 1, none⟩ = some (.int .i64 h.d) := (cell_of hb _).trans hd.d
  have g2 : w.cell? ⟨db, p + 2, none⟩ = some (.int .i64 h.l) := (cell_of hb _).trans hd.l
  have g3 : w.cell? ⟨db, p + 3, none⟩ = some (.int .i64 h.f) := (cell_of hb _).trans hd.f
  have g4 : w.cell? ⟨db, p + 4, none⟩ = some (.int .i64 h.s) := (cell_of hb _).trans hd.s
  have g5 : w.cell? ⟨db, p + 5, none⟩ = some (.string img) := (cell_of hb _).trans hd.i
  have hbl := lt_of_heap hb
  have HS : Hid (StAt w q u H) := hst
  have nI : w.heap.size + 1 ∉ q.all := notIn hst (by omega)
  have HN : Hid (w.heap.size + 1 ∉ q.all) := nI
  clear hst hb hd
  go_enter Try.func29, Try.ntmps29
  go_wp2_with fail
  refine (imp_any _ q u H os (HS.out.ext (((Ext.refl w).alloc _).alloc _)) hos).mono ?_
  rintro e w1 ⟨rfl, s1, c1⟩
  have z := c1.heap (heap_alloc2 w _ _) nI
  obtain ⟨zc, zf⟩ := res_cells z
  have z0 := zc 0
  have z1 := zc 1
  have z2 := zc 2
  have z3 := zc 3
  have H1 : Hid (StAt w1 q (sImp u H os).u (sImp u H os).H ∧ Chg q.all w w1 ∧ Value.string (st (sImp u H os).a.s) = .string ⟨#[]⟩) := ⟨s1, ((Chg.of_ext (((Ext.refl w).alloc _).alloc _))).trans c1, by first | rfl | (unfold sPut; split <;> (try split) <;> rfl)⟩
  have HR : Hid _ := lay4 z (.int .i64 (sImp u H os).a.e) (.int .i64 0) (.int .i64 0) (.string ⟨#[]⟩)
  clear zc s1 c1 z nI
  go_wp2
  obtain ⟨r0, r1, r2, r3⟩ := HR.out
  apply bodyPost_ret
  focus (simp [results, Try.results29, go_sem, r0, r1, r2, r3]; rfl)
  focus rfl
  first | rw [H1.out.2.2] | skip
  exact ⟨rfl, fin4 H1.out.1 H1.out.2.1 HN.out (by omega) _ _ _ _⟩
set_option maxHeartbeats 1000000 in
theorem do_again (w : World) (q : SId) (u : Nat) (H : Nat → Hd) (db p : Nat) (C : Array Value) (ty : TypeId) (h : Hd) (img : ByteArray) (o : Stp) (hst : StAt w q u H) (hb : w.heap[db]? = some (.cells C ty)) (hd : DkIn C p h img) (hos : o.s.size ≤ 9223372036854775807) (him : img.size ≤ 64) (hk : o.k = 11) :
    Calls Try.prog 29 #[.pointer (some ⟨q.s, 0, none⟩), .pointer (some ⟨db, p, none⟩), opV o] w fun e w' => e = .returned (anV (sImp u H img).a) ∧ StAt w' q (sImp u H img).u (sImp u H img).H ∧ Chg q.all w w' := by
  obtain ⟨k, oa, ob, oc, os, ot⟩ := o
  simp only at hk hos ⊢
  subst hk
  unfold opV anV
  have g0 : w.cell? ⟨db, p, none⟩ = some (.int .i64 h.k) := (cell_of hb _).trans hd.k
  have g1 : w.cell? ⟨db, p + 1, none⟩ = some (.int .i64 h.d) := (cell_of hb _).trans hd.d
  have g2 : w.cell? ⟨db, p + 2, none⟩ = some (.int .i64 h.l) := (cell_of hb _).trans hd.l
  have g3 : w.cell? ⟨db, p + 3, none⟩ = some (.int .i64 h.f) := (cell_of hb _).trans hd.f
  have g4 : w.cell? ⟨db, p + 4, none⟩ = some (.int .i64 h.s) := (cell_of hb _).trans hd.s
  have g5 : w.cell? ⟨db, p + 5, none⟩ = some (.string img) := (cell_of hb _).trans hd.i
  have hbl := lt_of_heap hb
  have HS : Hid (StAt w q u H) := hst
  have nI : w.heap.size + 1 ∉ q.all := notIn hst (by omega)
  have HN : Hid (w.heap.size + 1 ∉ q.all) := nI
  clear hst hb hd
  go_enter Try.func29, Try.ntmps29
  go_wp2_with fail
  refine (imp_any _ q u H img (HS.out.ext (((Ext.refl w).alloc _).alloc _)) (by omega)).mono ?_
  rintro e w1 ⟨rfl, s1, c1⟩
  have z := c1.heap (heap_alloc2 w _ _) nI
  obtain ⟨zc, zf⟩ := res_cells z
  have z0 := zc 0
  have z1 := zc 1
  have z2 := zc 2
  have z3 := zc 3
  have H1 : Hid (StAt w1 q (sImp u H img).u (sImp u H img).H ∧ Chg q.all w w1 ∧ Value.string (st (sImp u H img).a.s) = .string ⟨#[]⟩) := ⟨s1, ((Chg.of_ext (((Ext.refl w).alloc _).alloc _))).trans c1, by first | rfl | (unfold sPut; split <;> (try split) <;> rfl)⟩
  have HR : Hid _ := lay4 z (.int .i64 (sImp u H img).a.e) (.int .i64 0) (.int .i64 0) (.string ⟨#[]⟩)
  clear zc s1 c1 z nI
  go_wp2
  obtain ⟨r0, r1, r2, r3⟩ := HR.out
  apply bodyPost_ret
  focus (simp [results, Try.results29, go_sem, r0, r1, r2, r3]; rfl)
  focus rfl
  first | rw [H1.out.2.2] | skip
  exact ⟨rfl, fin4 H1.out.1 H1.out.2.1 HN.out (by omega) _ _ _ _⟩
set_option maxHeartbeats 1000000 in
theorem do_show (w : World) (q : SId) (u : Nat) (H : Nat → Hd) (db p : Nat) (C : Array Value) (ty : TypeId) (h : Hd) (img : ByteArray) (o : Stp) (hst : StAt w q u H) (hb : w.heap[db]? = some (.cells C ty)) (hd : DkIn C p h img) (hos : o.s.size ≤ 9223372036854775807) (him : img.size ≤ 64) (hk : o.k = 14) :
    Calls Try.prog 29 #[.pointer (some ⟨q.s, 0, none⟩), .pointer (some ⟨db, p, none⟩), opV o] w fun e w' => e = .returned (anV ((⟨⟨0, 0, Tx.showTo u H 8⟩, u, H⟩ : Out)).a) ∧ StAt w' q ((⟨⟨0, 0, Tx.showTo u H 8⟩, u, H⟩ : Out)).u ((⟨⟨0, 0, Tx.showTo u H 8⟩, u, H⟩ : Out)).H ∧ Chg q.all w w' := by
  obtain ⟨k, oa, ob, oc, os, ot⟩ := o
  simp only at hk hos ⊢
  subst hk
  unfold opV anV
  have g0 : w.cell? ⟨db, p, none⟩ = some (.int .i64 h.k) := (cell_of hb _).trans hd.k
  have g1 : w.cell? ⟨db, p + 1, none⟩ = some (.int .i64 h.d) := (cell_of hb _).trans hd.d
  have g2 : w.cell? ⟨db, p + 2, none⟩ = some (.int .i64 h.l) := (cell_of hb _).trans hd.l
  have g3 : w.cell? ⟨db, p + 3, none⟩ = some (.int .i64 h.f) := (cell_of hb _).trans hd.f
  have g4 : w.cell? ⟨db, p + 4, none⟩ = some (.int .i64 h.s) := (cell_of hb _).trans hd.s
  have g5 : w.cell? ⟨db, p + 5, none⟩ = some (.string img) := (cell_of hb _).trans hd.i
  have hbl := lt_of_heap hb
  have HS : Hid (StAt w q u H) := hst
  have nI : w.heap.size + 1 ∉ q.all := notIn hst (by omega)
  have HN : Hid (w.heap.size + 1 ∉ q.all) := nI
  clear hst hb hd
  go_enter Try.func29, Try.ntmps29
  go_wp2_with fail
  refine (show_any _ q u H (HS.out.ext (((Ext.refl w).alloc _).alloc _))).mono ?_
  rintro e w1 ⟨rfl, x1⟩
  have c1 := Chg.of_ext (S := q.all) x1
  have s1 := (HS.out.ext (((Ext.refl w).alloc _).alloc _)).ext x1
  have z := c1.heap (heap_alloc2 w _ _) nI
  obtain ⟨zc, zf⟩ := res_cells z
  have z0 := zc 0
  have z1 := zc 1
  have z2 := zc 2
  have z3 := zc 3
  have H1 : Hid (StAt w1 q ((⟨⟨0, 0, Tx.showTo u H 8⟩, u, H⟩ : Out)).u ((⟨⟨0, 0, Tx.showTo u H 8⟩, u, H⟩ : Out)).H ∧ Chg q.all w w1 ∧ Value.string (st ((⟨⟨0, 0, Tx.showTo u H 8⟩, u, H⟩ : Out)).a.s) = .string (st (Tx.showTo u H 8))) := ⟨s1, ((Chg.of_ext (((Ext.refl w).alloc _).alloc _))).trans c1, by first | rfl | (unfold sPut; split <;> (try split) <;> rfl)⟩
  have HR : Hid _ := lay4 z (.int .i64 0) (.int .i64 0) (.int .i64 0) (.string (st (Tx.showTo u H 8)))
  clear zc s1 c1 z nI
  go_wp2
  obtain ⟨r0, r1, r2, r3⟩ := HR.out
  apply bodyPost_ret
  focus (simp [results, Try.results29, go_sem, r0, r1, r2, r3]; rfl)
  focus rfl
  first | rw [H1.out.2.2] | skip
  exact ⟨rfl, fin4 H1.out.1 H1.out.2.1 HN.out (by omega) _ _ _ _⟩
set_option maxHeartbeats 1000000 in
theorem do_check (w : World) (q : SId) (u : Nat) (H : Nat → Hd) (db p : Nat) (C : Array Value) (ty : TypeId) (h : Hd) (img : ByteArray) (o : Stp) (hst : StAt w q u H) (hb : w.heap[db]? = some (.cells C ty)) (hd : DkIn C p h img) (hos : o.s.size ≤ 9223372036854775807) (him : img.size ≤ 64) (hk : o.k = 15) :
    Calls Try.prog 29 #[.pointer (some ⟨q.s, 0, none⟩), .pointer (some ⟨db, p, none⟩), opV o] w fun e w' => e = .returned (anV ((⟨⟨0, 1, []⟩, u, H⟩ : Out)).a) ∧ StAt w' q ((⟨⟨0, 1, []⟩, u, H⟩ : Out)).u ((⟨⟨0, 1, []⟩, u, H⟩ : Out)).H ∧ Chg q.all w w' := by
  obtain ⟨k, oa, ob, oc, os, ot⟩ := o
  simp only at hk hos ⊢
  subst hk
  unfold opV anV
  have g0 : w.cell? ⟨db, p, none⟩ = some (.int .i64 h.k) := (cell_of hb _).trans hd.k
  have g1 : w.cell? ⟨db, p + 1, none⟩ = some (.int .i64 h.d) := (cell_of hb _).trans hd.d
  have g2 : w.cell? ⟨db, p + 2, none⟩ = some (.int .i64 h.l) := (cell_of hb _).trans hd.l
  have g3 : w.cell? ⟨db, p + 3, none⟩ = some (.int .i64 h.f) := (cell_of hb _).trans hd.f
  have g4 : w.cell? ⟨db, p + 4, none⟩ = some (.int .i64 h.s) := (cell_of hb _).trans hd.s
  have g5 : w.cell? ⟨db, p + 5, none⟩ = some (.string img) := (cell_of hb _).trans hd.i
  have hbl := lt_of_heap hb
  have HS : Hid (StAt w q u H) := hst
  have nI : w.heap.size + 1 ∉ q.all := notIn hst (by omega)
  have HN : Hid (w.heap.size + 1 ∉ q.all) := nI
  clear hst hb hd
  go_enter Try.func29, Try.ntmps29
  go_wp2_with fail
  refine (check_any _ q u H (HS.out.ext (((Ext.refl w).alloc _).alloc _))).mono ?_
  rintro e w1 ⟨rfl, x1⟩
  have c1 := Chg.of_ext (S := q.all) x1
  have s1 := (HS.out.ext (((Ext.refl w).alloc _).alloc _)).ext x1
  have z := c1.heap (heap_alloc2 w _ _) nI
  obtain ⟨zc, zf⟩ := res_cells z
  have z0 := zc 0
  have z1 := zc 1
  have z2 := zc 2
  have z3 := zc 3
  have H1 : Hid (StAt w1 q ((⟨⟨0, 1, []⟩, u, H⟩ : Out)).u ((⟨⟨0, 1, []⟩, u, H⟩ : Out)).H ∧ Chg q.all w w1 ∧ Value.string (st ((⟨⟨0, 1, []⟩, u, H⟩ : Out)).a.s) = .string ⟨#[]⟩) := ⟨s1, ((Chg.of_ext (((Ext.refl w).alloc _).alloc _))).trans c1, by first | rfl | (unfold sPut; split <;> (try split) <;> rfl)⟩
  have HR : Hid _ := lay4 z (.int .i64 0) (.int .i64 1) (.int .i64 0) (.string ⟨#[]⟩)
  clear zc s1 c1 z nI
  go_wp2
  obtain ⟨r0, r1, r2, r3⟩ := HR.out
  apply bodyPost_ret
  focus (simp [results, Try.results29, go_sem, r0, r1, r2, r3]; rfl)
  focus rfl
  first | rw [H1.out.2.2] | skip
  exact ⟨rfl, fin4 H1.out.1 H1.out.2.1 HN.out (by omega) _ _ _ _⟩
set_option maxHeartbeats 1000000 in
theorem do_get (w : World) (q : SId) (u : Nat) (H : Nat → Hd) (db p : Nat) (C : Array Value) (ty : TypeId) (h : Hd) (img : ByteArray) (o : Stp) (hst : StAt w q u H) (hb : w.heap[db]? = some (.cells C ty)) (hd : DkIn C p h img) (hos : o.s.size ≤ 9223372036854775807) (him : img.size ≤ 64) (hk : o.k = 5) :
    Calls Try.prog 29 #[.pointer (some ⟨q.s, 0, none⟩), .pointer (some ⟨db, p, none⟩), opV o] w fun e w' => e = .returned (anV (sGet u H o.a).a) ∧ StAt w' q (sGet u H o.a).u (sGet u H o.a).H ∧ Chg q.all w w' := by
  obtain ⟨k, oa, ob, oc, os, ot⟩ := o
  simp only at hk hos ⊢
  subst hk
  unfold opV anV
  have g0 : w.cell? ⟨db, p, none⟩ = some (.int .i64 h.k) := (cell_of hb _).trans hd.k
  have g1 : w.cell? ⟨db, p + 1, none⟩ = some (.int .i64 h.d) := (cell_of hb _).trans hd.d
  have g2 : w.cell? ⟨db, p + 2, none⟩ = some (.int .i64 h.l) := (cell_of hb _).trans hd.l
  have g3 : w.cell? ⟨db, p + 3, none⟩ = some (.int .i64 h.f) := (cell_of hb _).trans hd.f
  have g4 : w.cell? ⟨db, p + 4, none⟩ = some (.int .i64 h.s) := (cell_of hb _).trans hd.s
  have g5 : w.cell? ⟨db, p + 5, none⟩ = some (.string img) := (cell_of hb _).trans hd.i
  have hbl := lt_of_heap hb
  have HS : Hid (StAt w q u H) := hst
  have nI : w.heap.size + 1 ∉ q.all := notIn hst (by omega)
  have HN : Hid (w.heap.size + 1 ∉ q.all) := nI
  clear hst hb hd
  go_enter Try.func29, Try.ntmps29
  go_wp2_with fail
  refine (get_any _ q u H oa (HS.out.ext (((Ext.refl w).alloc _).alloc _))).mono ?_
  rintro e w1 ⟨rfl, x1⟩
  have c1 := Chg.of_ext (S := q.all) x1
  have s1 := (HS.out.ext (((Ext.refl w).alloc _).alloc _)).ext x1
  have hh := getH64 s1 oa
  have HH : Hid (sGet u H oa = ⟨⟨atE u oa, 0, Tx.showH (getH u H oa)⟩, u, H⟩) := rfl
  generalize hX : getH u H oa = X at *
  unfold hdV
  have HX : Hid (getH u H oa = X) := hX
  clear hX
  have C1 : Hid (Chg q.all _ w1 ∧ StAt w1 q u H) := ⟨c1, s1⟩
  clear c1 s1 x1
  go_wp2_with fail
  refine (showh_any X hh _).mono ?_
  rintro e w2 ⟨rfl, x2⟩
  have c1 := C1.out.1.then (((Ext.refl w1).alloc _).trans x2)
  have s1 := C1.out.2.ext (((Ext.refl w1).alloc _).trans x2)
  clear x2
  have z := c1.heap (heap_alloc2 w _ _) nI
  obtain ⟨zc, zf⟩ := res_cells z
  have z0 := zc 0
  have z1 := zc 1
  have z2 := zc 2
  have z3 := zc 3
  have H1 : Hid (StAt w2 q (sGet u H oa).u (sGet u H oa).H ∧ Chg q.all w w2 ∧ Value.string (st (sGet u H oa).a.s) = .string (st (Tx.showH X))) := ⟨s1, ((Chg.of_ext (((Ext.refl w).alloc _).alloc _))).trans c1, by first | (show Value.string (st (Tx.showH (getH u H oa))) = _; rw [HX.out]) | rfl | (unfold sPut; split <;> (try split) <;> rfl)⟩
  have HR : Hid _ := lay4 z (.int .i64 (atE u oa)) (.int .i64 0) (.int .i64 0) (.string (st (Tx.showH X)))
  clear zc s1 c1 z nI
  go_wp2
  obtain ⟨r0, r1, r2, r3⟩ := HR.out
  apply bodyPost_ret
  focus (simp [results, Try.results29, go_sem, r0, r1, r2, r3]; rfl)
  focus rfl
  first | rw [H1.out.2.2] | skip
  exact ⟨rfl, fin4 H1.out.1 H1.out.2.1 HN.out (by omega) _ _ _ _⟩
set_option maxHeartbeats 1000000 in
theorem do_else (w : World) (q : SId) (u : Nat) (H : Nat → Hd) (db p : Nat) (o : Stp) (hst : StAt w q u H) (h4 : o.k ≠ 4) (h5 : o.k ≠ 5) (h6 : o.k ≠ 6) (h7 : o.k ≠ 7) (h8 : o.k ≠ 8) (h9 : o.k ≠ 9) (h10 : o.k ≠ 10) (h11 : o.k ≠ 11) (h14 : o.k ≠ 14) (h15 : o.k ≠ 15) :
    Calls Try.prog 29 #[.pointer (some ⟨q.s, 0, none⟩), .pointer (some ⟨db, p, none⟩), opV o] w fun e w' => e = .returned (anV ⟨0, 0, []⟩) ∧ StAt w' q u H ∧ Chg q.all w w' := by
  obtain ⟨k, oa, ob, oc, os, ot⟩ := o
  simp only at h4 h5 h6 h7 h8 h9 h10 h11 h14 h15
  unfold opV anV
  have e4 : (k == 4) = false := beq_false_of_ne h4
  have e5 : (k == 5) = false := beq_false_of_ne h5
  have e6 : (k == 6) = false := beq_false_of_ne h6
  have e7 : (k == 7) = false := beq_false_of_ne h7
  have e8 : (k == 8) = false := beq_false_of_ne h8
  have e9 : (k == 9) = false := beq_false_of_ne h9
  have e10 : (k == 10) = false := beq_false_of_ne h10
  have e11 : (k == 11) = false := beq_false_of_ne h11
  have e14 : (k == 14) = false := beq_false_of_ne h14
  have e15 : (k == 15) = false := beq_false_of_ne h15
  have HS : Hid (StAt w q u H) := hst
  clear hst h4 h5 h6 h7 h8 h9 h10 h11 h14 h15
  go_enter Try.func29, Try.ntmps29
  go_wp2
  apply bodyPost_ret
  focus (simp [results, Try.results29, go_sem]; rfl)
  focus rfl
  exact ⟨rfl, HS.out.ext (((Ext.refl w).alloc _).alloc _), Chg.of_ext (((Ext.refl w).alloc _).alloc _)⟩
theorem do_any (w : World) (q : SId) (u : Nat) (H : Nat → Hd) (db p : Nat) (C : Array Value) (ty : TypeId) (h : Hd) (img : ByteArray) (o : Stp) (hst : StAt w q u H) (hb : w.heap[db]? = some (.cells C ty)) (hd : DkIn C p h img) (hos : o.s.size ≤ 9223372036854775807) (him : img.size ≤ 64) :
    Calls Try.prog 29 #[.pointer (some ⟨q.s, 0, none⟩), .pointer (some ⟨db, p, none⟩), opV o] w fun e w' => e = .returned (anV (step u H h img o).a) ∧ StAt w' q (step u H h img o).u (step u H h img o).H ∧ Chg q.all w w' := by
  unfold step
  split
  · rename_i hk; exact do_put w q u H db p C ty h img o hst hb hd hos him hk
  split
  · rename_i hk; exact do_get w q u H db p C ty h img o hst hb hd hos him hk
  split
  · rename_i hk; exact do_drop w q u H db p C ty h img o hst hb hd hos him hk
  split
  · rename_i hk; exact do_bump w q u H db p C ty h img o hst hb hd hos him hk
  split
  · rename_i hk; exact do_len w q u H db p C ty h img o hst hb hd hos him hk
  split
  · rename_i hk; exact do_export w q u H db p C ty h img o hst hb hd hos him hk
  split
  · rename_i hk; exact do_imp w q u H db p C ty h img o hst hb hd hos him hk
  split
  · rename_i hk; exact do_again w q u H db p C ty h img o hst hb hd hos him hk
  split
  · rename_i hk; exact do_show w q u H db p C ty h img o hst hb hd hos him hk
  split
  · rename_i hk; exact do_check w q u H db p C ty h img o hst hb hd hos him hk
  rename_i a b c d e f g i j k
  exact do_else w q u H db p o hst a b c d e f g i j k
end Go.Proofs.Qxb6500342a
