/-
  The model's player, DoM.
-/
import Derived.Test.Qxb6500342aM7
import Derived.Test.Qxb6500342aM4
import Derived.Test.Qxb6500342aM5
namespace Go.Proofs.Qxb6500342a
open Go.RowKit
open Go.Proofs
open Pl (Hd)
open Tx (st)
set_option linter.unusedSimpArgs false
set_option linter.unusedVariables false
attribute [local go_sem] alloc_drewN setCell_drewN shape?_drewN

/-- The model's store, its cells not named. -/
def MX (w : World) (m u : Nat) (G : Nat → Hd) : Prop := ∃ C, MAt w m C u G
theorem MX.ext {w w' : World} {m u : Nat} {G : Nat → Hd} (h : MX w m u G) (hx : Ext w w') : MX w' m u G := by obtain ⟨C, h⟩ := h; exact ⟨C, h.ext hx⟩
theorem MX.chg {S : List Nat} {w w' : World} {m u : Nat} {G : Nat → Hd} (h : MX w m u G) (hx : Chg S w w') (hn : m ∉ S) : MX w' m u G := by obtain ⟨C, h⟩ := h; exact ⟨C, h.chg hx hn⟩
theorem MX.lt {w : World} {m u : Nat} {G : Nat → Hd} (h : MX w m u G) : m < w.heap.size := by obtain ⟨C, h⟩ := h; exact lt_of_heap h.heap
def Gd (u : Nat) (G : Nat → Hd) : Prop := u < 256 ∧ ∀ i, i < 8 → u.testBit i = true → Pl.good (G i) = true
def mDrop (u : Nat) (G : Nat → Hd) (n : Int) : Out := ⟨⟨atE u n, 0, []⟩, if atE u n = 0 then remB u n.toNat else u, if atE u n = 0 then upd G n.toNat Pl.zeroH else G⟩
def stepM (u : Nat) (H : Nat → Hd) (h : Hd) (img : ByteArray) (o : Stp) : Out :=
  if o.k = 4 then sPut u H h else if o.k = 5 then sGet u H o.a else if o.k = 6 then mDrop u H o.a else if o.k = 7 then sBump u H o.a o.b
  else if o.k = 8 then ⟨⟨0, Bd.cnt u, []⟩, u, H⟩ else if o.k = 9 then ⟨⟨0, 0, Im.exTo u H 8⟩, u, H⟩ else if o.k = 10 then mImp u H o.s else if o.k = 11 then mImp u H img
  else if o.k = 14 then ⟨⟨0, 0, Tx.showTo u H 8⟩, u, H⟩ else if o.k = 15 then ⟨⟨0, 1, []⟩, u, H⟩ else ⟨⟨0, 0, []⟩, u, H⟩
theorem xput (w : World) (m u : Nat) (G : Nat → Hd) (h : Hd) (hg : Gd u G) (hm : MX w m u G) : Calls Try.prog 63 #[.pointer (some ⟨m, 0, none⟩), hdV h] w fun e w' => e = .returned (.tuple #[.int .i64 (sPut u G h).a.n, .int .i64 (sPut u G h).a.e]) ∧ MX w' m (sPut u G h).u (sPut u G h).H ∧ Chg [m] w w' := by
  obtain ⟨C, hm⟩ := hm; exact mput_any w m C u G h hm hg.1
theorem xget (w : World) (m u : Nat) (G : Nat → Hd) (n : Int) (hg : Gd u G) (hm : MX w m u G) : Calls Try.prog 64 #[.pointer (some ⟨m, 0, none⟩), .int .i64 n] w fun e w' => e = .returned (.tuple #[hdV (getH u G n), .int .i64 (atE u n)]) ∧ Ext w w' := by
  obtain ⟨C, hm⟩ := hm; exact mget_any w m C u G n hm
theorem xdrop (w : World) (m u : Nat) (G : Nat → Hd) (n : Int) (hg : Gd u G) (hm : MX w m u G) : Calls Try.prog 65 #[.pointer (some ⟨m, 0, none⟩), .int .i64 n] w fun e w' => e = .returned (.int .i64 (mDrop u G n).a.e) ∧ MX w' m (mDrop u G n).u (mDrop u G n).H ∧ Chg [m] w w' := by
  obtain ⟨C, hm⟩ := hm; exact mdrop_any w m C u G n hm hg.1
theorem xbump (w : World) (m u : Nat) (G : Nat → Hd) (n d : Int) (hd : in64 d) (hg : Gd u G) (hm : MX w m u G) : Calls Try.prog 66 #[.pointer (some ⟨m, 0, none⟩), .int .i64 n, .int .i64 d] w fun e w' => e = .returned (.int .i64 (sBump u G n d).a.e) ∧ MX w' m (sBump u G n d).u (sBump u G n d).H ∧ Chg [m] w w' := by
  obtain ⟨C, hm⟩ := hm; exact mbump_any w m C u G n d hm hd hg.2
theorem xlen (w : World) (m u : Nat) (G : Nat → Hd) (hg : Gd u G) (hm : MX w m u G) : Calls Try.prog 67 #[.pointer (some ⟨m, 0, none⟩)] w fun e w' => e = .returned (.int .i64 (Bd.cnt u)) ∧ Ext w w' := by
  obtain ⟨C, hm⟩ := hm; exact mlen_any w m C u G hm
theorem xexport (w : World) (m u : Nat) (G : Nat → Hd) (hg : Gd u G) (hm : MX w m u G) : Calls Try.prog 68 #[.pointer (some ⟨m, 0, none⟩)] w fun e w' => e = .returned (.string (st (Im.exTo u G 8))) ∧ Ext w w' := by
  obtain ⟨C, hm⟩ := hm; exact mexport_any w m C u G hm hg.2
theorem xshow (w : World) (m u : Nat) (G : Nat → Hd) (hg : Gd u G) (hm : MX w m u G) : Calls Try.prog 50 #[.pointer (some ⟨m, 0, none⟩)] w fun e w' => e = .returned (.string (st (Tx.showTo u G 8))) ∧ Ext w w' := by
  obtain ⟨C, hm⟩ := hm; exact mshow_any w m C u G hm hg.2
theorem ximp (w : World) (m u : Nat) (G : Nat → Hd) (s : ByteArray) (hs : s.size ≤ 9223372036854775807) (hg : Gd u G) (hm : MX w m u G) : Calls Try.prog 69 #[.pointer (some ⟨m, 0, none⟩), .string s] w fun e w' => e = .returned (.int .i64 (mImp u G s).a.e) ∧ MX w' m (mImp u G s).u (mImp u G s).H ∧ Chg [m] w w' := by
  obtain ⟨C, hm⟩ := hm; exact mimp_any w m C u G s hm hg.1 hs
theorem xfin4 {w w1 : World} {m u : Nat} {H : Nat → Hd} (h : MX w1 m u H) (hc : Chg [m] w w1) {n : Nat} (nI : n ∉ [m]) (hn : w.heap.size ≤ n) (x y z v : Value) :
    MX ((((w1.setCell ⟨n, 0, none⟩ x).setCell ⟨n, 1, none⟩ y).setCell ⟨n, 2, none⟩ z).setCell ⟨n, 3, none⟩ v) m u H ∧ Chg [m] w ((((w1.setCell ⟨n, 0, none⟩ x).setCell ⟨n, 1, none⟩ y).setCell ⟨n, 2, none⟩ z).setCell ⟨n, 3, none⟩ v) := by
  refine ⟨h.chg (S := [n]) (((((Chg.refl _ _).setCell (by simp) _).setCell (by simp) _).setCell (by simp) _).setCell (by simp) _) ?_, (((hc.setCell (.inr hn) _).setCell (.inr hn) _).setCell (.inr hn) _).setCell (.inr hn) _⟩
  simp only [List.mem_singleton] at nI ⊢
  exact fun e => nI e.symm
theorem getG64 {u : Nat} {G : Nat → Hd} (hg : Gd u G) (n : Int) : hd64 (getH u G n) := by
  unfold getH
  split
  · rename_i hz
    obtain ⟨m, rfl, hm, hb⟩ := atE_zero hz
    exact hd64_good (hg.2 m hm hb)
  · exact hd64_zero
set_option maxHeartbeats 1000000 in
theorem dom_put (w : World) (m u : Nat) (H : Nat → Hd) (db p : Nat) (C : Array Value) (ty : TypeId) (h : Hd) (img : ByteArray) (o : Stp) (hst : MX w m u H) (hg : Gd u H) (hb : w.heap[db]? = some (.cells C ty)) (hd : DkIn C p h img) (hos : o.s.size ≤ 9223372036854775807) (him : img.size ≤ 64) (hob : in64 o.b) (hk : o.k = 4) :
    Calls Try.prog 48 #[.pointer (some ⟨m, 0, none⟩), .pointer (some ⟨db, p, none⟩), opV o] w fun e w' => e = .returned (anV (sPut u H h).a) ∧ MX w' m (sPut u H h).u (sPut u H h).H ∧ Chg [m] w w' := by
  obtain ⟨k, oa, ob, oc, os, ot⟩ := o
  simp only at hk hos hob ⊢
  subst hk
  unfold opV anV
  have g0 : w.cell? ⟨db, p, none⟩ = some (.int .i64 h.k) := (cell_of hb _).trans hd.k
  have g1 : w.cell? ⟨db, p + 1, none⟩ = some (.int .i64 h.d) := (cell_of hb _).trans hd.d
  have g2 : w.cell? ⟨db, p + 2, none⟩ = some (.int .i64 h.l) := (cell_of hb _).trans hd.l
  have g3 : w.cell? ⟨db, p + 3, none⟩ = some (.int .i64 h.f) := (cell_of hb _).trans hd.f
  have g4 : w.cell? ⟨db, p + 4, none⟩ = some (.int .i64 h.s) := (cell_of hb _).trans hd.s
  have g5 : w.cell? ⟨db, p + 5, none⟩ = some (.string img) := (cell_of hb _).trans hd.i
  have hbl := lt_of_heap hb
  have HS : Hid (MX w m u H ∧ Gd u H ∧ in64 ob) := ⟨hst, hg, hob⟩
  have nI : w.heap.size + 1 ∉ [m] := by have := hst.lt; simp only [List.mem_singleton]; omega
  have HN : Hid (w.heap.size + 1 ∉ [m]) := nI
  clear hst hb hd hg hob
  go_enter Try.func48, Try.ntmps48
  go_wp2_with fail
  refine (xput _ m u H h HS.out.2.1 (HS.out.1.ext (((Ext.refl w).alloc _).alloc _))).mono ?_
  rintro e w1 ⟨rfl, s1, c1⟩
  have z := c1.heap (heap_alloc2 w _ _) nI
  obtain ⟨zc, zf⟩ := res_cells z
  have z0 := zc 0
  have z1 := zc 1
  have z2 := zc 2
  have z3 := zc 3
  have H1 : Hid (MX w1 m (sPut u H h).u (sPut u H h).H ∧ Chg [m] w w1 ∧ Value.string (st (sPut u H h).a.s) = .string ⟨#[]⟩) := ⟨s1, ((Chg.of_ext (((Ext.refl w).alloc _).alloc _))).trans c1, by first | rfl | (unfold sPut; split <;> (try split) <;> rfl)⟩
  have HR : Hid _ := lay4 z (.int .i64 (sPut u H h).a.e) (.int .i64 (sPut u H h).a.n) (.int .i64 0) (.string ⟨#[]⟩)
  clear zc s1 c1 z nI
  go_wp2
  obtain ⟨r0, r1, r2, r3⟩ := HR.out
  apply bodyPost_ret
  focus (simp [results, Try.results48, go_sem, r0, r1, r2, r3]; rfl)
  focus rfl
  first | rw [H1.out.2.2] | skip
  exact ⟨rfl, xfin4 H1.out.1 H1.out.2.1 HN.out (by omega) _ _ _ _⟩
set_option maxHeartbeats 1000000 in
theorem dom_drop (w : World) (m u : Nat) (H : Nat → Hd) (db p : Nat) (C : Array Value) (ty : TypeId) (h : Hd) (img : ByteArray) (o : Stp) (hst : MX w m u H) (hg : Gd u H) (hb : w.heap[db]? = some (.cells C ty)) (hd : DkIn C p h img) (hos : o.s.size ≤ 9223372036854775807) (him : img.size ≤ 64) (hob : in64 o.b) (hk : o.k = 6) :
    Calls Try.prog 48 #[.pointer (some ⟨m, 0, none⟩), .pointer (some ⟨db, p, none⟩), opV o] w fun e w' => e = .returned (anV (mDrop u H o.a).a) ∧ MX w' m (mDrop u H o.a).u (mDrop u H o.a).H ∧ Chg [m] w w' := by
  obtain ⟨k, oa, ob, oc, os, ot⟩ := o
  simp only at hk hos hob ⊢
  subst hk
  unfold opV anV
  have g0 : w.cell? ⟨db, p, none⟩ = some (.int .i64 h.k) := (cell_of hb _).trans hd.k
  have g1 : w.cell? ⟨db, p + 1, none⟩ = some (.int .i64 h.d) := (cell_of hb _).trans hd.d
  have g2 : w.cell? ⟨db, p + 2, none⟩ = some (.int .i64 h.l) := (cell_of hb _).trans hd.l
  have g3 : w.cell? ⟨db, p + 3, none⟩ = some (.int .i64 h.f) := (cell_of hb _).trans hd.f
  have g4 : w.cell? ⟨db, p + 4, none⟩ = some (.int .i64 h.s) := (cell_of hb _).trans hd.s
  have g5 : w.cell? ⟨db, p + 5, none⟩ = some (.string img) := (cell_of hb _).trans hd.i
  have hbl := lt_of_heap hb
  have HS : Hid (MX w m u H ∧ Gd u H ∧ in64 ob) := ⟨hst, hg, hob⟩
  have nI : w.heap.size + 1 ∉ [m] := by have := hst.lt; simp only [List.mem_singleton]; omega
  have HN : Hid (w.heap.size + 1 ∉ [m]) := nI
  clear hst hb hd hg hob
  go_enter Try.func48, Try.ntmps48
  go_wp2_with fail
  refine (xdrop _ m u H oa HS.out.2.1 (HS.out.1.ext (((Ext.refl w).alloc _).alloc _))).mono ?_
  rintro e w1 ⟨rfl, s1, c1⟩
  have z := c1.heap (heap_alloc2 w _ _) nI
  obtain ⟨zc, zf⟩ := res_cells z
  have z0 := zc 0
  have z1 := zc 1
  have z2 := zc 2
  have z3 := zc 3
  have H1 : Hid (MX w1 m (mDrop u H oa).u (mDrop u H oa).H ∧ Chg [m] w w1 ∧ Value.string (st (mDrop u H oa).a.s) = .string ⟨#[]⟩) := ⟨s1, ((Chg.of_ext (((Ext.refl w).alloc _).alloc _))).trans c1, by first | rfl | (unfold sPut; split <;> (try split) <;> rfl)⟩
  have HR : Hid _ := lay4 z (.int .i64 (mDrop u H oa).a.e) (.int .i64 0) (.int .i64 0) (.string ⟨#[]⟩)
  clear zc s1 c1 z nI
  go_wp2
  obtain ⟨r0, r1, r2, r3⟩ := HR.out
  apply bodyPost_ret
  focus (simp [results, Try.results48, go_sem, r0, r1, r2, r3]; rfl)
  focus rfl
  first | rw [H1.out.2.2] | skip
  exact ⟨rfl, xfin4 H1.out.1 H1.out.2.1 HN.out (by omega) _ _ _ _⟩
set_option maxHeartbeats 1000000 in
theorem dom_bump (w : World) (m u : Nat) (H : Nat → Hd) (db p : Nat) (C : Array Value) (ty : TypeId) (h : Hd) (img : ByteArray) (o : Stp) (hst : MX w m u H) (hg : Gd u H) (hb : w.heap[db]? = some (.cells C ty)) (hd : DkIn C p h img) (hos : o.s.size ≤ 9223372036854775807) (him : img.size ≤ 64) (hob : in64 o.b) (hk : o.k = 7) :
    Calls Try.prog 48 #[.pointer (some ⟨m, 0, none⟩), .pointer (some ⟨db, p, none⟩), opV o] w fun e w' => e = .returned (anV (sBump u H o.a o.b).a) ∧ MX w' m (sBump u H o.a o.b).u (sBump u H o.a o.b).H ∧ Chg [m] w w' := by
  obtain ⟨k, oa, ob, oc, os, ot⟩ := o
  simp only at hk hos hob ⊢
  subst hk
  unfold opV anV
  have g0 : w.cell? ⟨db, p, none⟩ = some (.int .i64 h.k) := (cell_of hb _).trans hd.k
  have g1 : w.cell? ⟨db, p + 1, none⟩ = some (.int .i64 h.d) := (cell_of hb _).trans hd.d
  have g2 : w.cell? ⟨db, p + 2, none⟩ = some (.int .i64 h.l) := (cell_of hb _).trans hd.l
  have g3 : w.cell? ⟨db, p + 3, none⟩ = some (.int .i64 h.f) := (cell_of hb _).trans hd.f
  have g4 : w.cell? ⟨db, p + 4, none⟩ = some (.int .i64 h.s) := (cell_of hb _).trans hd.s
  have g5 : w.cell? ⟨db, p + 5, none⟩ = some (.string img) := (cell_of hb _).trans hd.i
  have hbl := lt_of_heap hb
  have HS : Hid (MX w m u H ∧ Gd u H ∧ in64 ob) := ⟨hst, hg, hob⟩
  have nI : w.heap.size + 1 ∉ [m] := by have := hst.lt; simp only [List.mem_singleton]; omega
  have HN : Hid (w.heap.size + 1 ∉ [m]) := nI
  clear hst hb hd hg hob
  go_enter Try.func48, Try.ntmps48
  go_wp2_with fail
  refine (xbump _ m u H oa ob HS.out.2.2 HS.out.2.1 (HS.out.1.ext (((Ext.refl w).alloc _).alloc _))).mono ?_
  rintro e w1 ⟨rfl, s1, c1⟩
  have z := c1.heap (heap_alloc2 w _ _) nI
  obtain ⟨zc, zf⟩ := res_cells z
  have z0 := zc 0
  have z1 := zc 1
  have z2 := zc 2
  have z3 := zc 3
  have H1 : Hid (MX w1 m (sBump u H oa ob).u (sBump u H oa ob).H ∧ Chg [m] w w1 ∧ Value.string (st (sBump u H oa ob).a.s) = .string ⟨#[]⟩) := ⟨s1, ((Chg.of_ext (((Ext.refl w).alloc _).alloc _))).trans c1, by first | rfl | (unfold sPut; split <;> (try split) <;> rfl)⟩
  have HR : Hid _ := lay4 z (.int .i64 (sBump u H oa ob).a.e) (.int .i64 0) (.int .i64 0) (.string ⟨#[]⟩)
  clear zc s1 c1 z nI
  go_wp2
  obtain ⟨r0, r1, r2, r3⟩ := HR.out
  apply bodyPost_ret
  focus (simp [results, Try.results48, go_sem, r0, r1, r2, r3]; rfl)
  focus rfl
  first | rw [H1.out.2.2] | skip
  exact ⟨rfl, xfin4 H1.out.1 H1.out.2.1 HN.out (by omega) _ _ _ _⟩
set_option maxHeartbeats 1000000 in
theorem dom_len (w : World) (m u : Nat) (H : Nat → Hd) (db p : Nat) (C : Array Value) (ty : TypeId) (h : Hd) (img : ByteArray) (o : Stp) (hst : MX w m u H) (hg : Gd u H) (hb : w.heap[db]? = some (.cells C ty)) (hd : DkIn C p h img) (hos : o.s.size ≤ 9223372036854775807) (him : img.size ≤ 64) (hob : in64 o.b) (hk : o.k = 8) :
    Calls Try.prog 48 #[.pointer (some ⟨m, 0, none⟩), .pointer (some ⟨db, p, none⟩), opV o] w fun e w' => e = .returned (anV ((⟨⟨0, Bd.cnt u, []⟩, u, H⟩ : Out)).a) ∧ MX w' m ((⟨⟨0, Bd.cnt u, []⟩, u, H⟩ : Out)).u ((⟨⟨0, Bd.cnt u, []⟩, u, H⟩ : Out)).H ∧ Chg [m] w w' := by
  obtain ⟨k, oa, ob, oc, os, ot⟩ := o
  simp only at hk hos hob ⊢
  subst hk
  unfold opV anV
  have g0 : w.cell? ⟨db, p, none⟩ = some (.int .i64 h.k) := (cell_of hb _).trans hd.k
  have g1 : w.cell? ⟨db, p + 1, none⟩ = some (.int .i64 h.d) := (cell_of hb _).trans hd.d
  have g2 : w.cell? ⟨db, p + 2, none⟩ = some (.int .i64 h.l) := (cell_of hb _).trans hd.l
  have g3 : w.cell? ⟨db, p + 3, none⟩ = some (.int .i64 h.f) := (cell_of hb _).trans hd.f
  have g4 : w.cell? ⟨db, p + 4, none⟩ = some (.int .i64 h.s) := (cell_of hb _).trans hd.s
  have g5 : w.cell? ⟨db, p + 5, none⟩ = some (.string img) := (cell_of hb _).trans hd.i
  have hbl := lt_of_heap hb
  have HS : Hid (MX w m u H ∧ Gd u H ∧ in64 ob) := ⟨hst, hg, hob⟩
  have nI : w.heap.size + 1 ∉ [m] := by have := hst.lt; simp only [List.mem_singleton]; omega
  have HN : Hid (w.heap.size + 1 ∉ [m]) := nI
  clear hst hb hd hg hob
  go_enter Try.func48, Try.ntmps48
  go_wp2_with fail
  refine (xlen _ m u H HS.out.2.1 (HS.out.1.ext (((Ext.refl w).alloc _).alloc _))).mono ?_
  rintro e w1 ⟨rfl, x1⟩
  have c1 := Chg.of_ext (S := [m]) x1
  have s1 := (HS.out.1.ext (((Ext.refl w).alloc _).alloc _)).ext x1
  have z := c1.heap (heap_alloc2 w _ _) nI
  obtain ⟨zc, zf⟩ := res_cells z
  have z0 := zc 0
  have z1 := zc 1
  have z2 := zc 2
  have z3 := zc 3
  have H1 : Hid (MX w1 m ((⟨⟨0, Bd.cnt u, []⟩, u, H⟩ : Out)).u ((⟨⟨0, Bd.cnt u, []⟩, u, H⟩ : Out)).H ∧ Chg [m] w w1 ∧ Value.string (st ((⟨⟨0, Bd.cnt u, []⟩, u, H⟩ : Out)).a.s) = .string ⟨#[]⟩) := ⟨s1, ((Chg.of_ext (((Ext.refl w).alloc _).alloc _))).trans c1, by first | rfl | (unfold sPut; split <;> (try split) <;> rfl)⟩
  have HR : Hid _ := lay4 z (.int .i64 0) (.int .i64 (Bd.cnt u)) (.int .i64 0) (.string ⟨#[]⟩)
  clear zc s1 c1 z nI
  go_wp2
  obtain ⟨r0, r1, r2, r3⟩ := HR.out
  apply bodyPost_ret
  focus (simp [results, Try.results48, go_sem, r0, r1, r2, r3]; rfl)
  focus rfl
  first | rw [H1.out.2.2] | skip
  exact ⟨rfl, xfin4 H1.out.1 H1.out.2.1 HN.out (by omega) _ _ _ _⟩
set_option maxHeartbeats 1000000 in
theorem dom_export (w : World) (m u : Nat) (H : Nat → Hd) (db p : Nat) (C : Array Value) (ty : TypeId) (h : Hd) (img : ByteArray) (o : Stp) (hst : MX w m u H) (hg : Gd u H) (hb : w.heap[db]? = some (.cells C ty)) (hd : DkIn C p h img) (hos : o.s.size ≤ 9223372036854775807) (him : img.size ≤ 64) (hob : in64 o.b) (hk : o.k = 9) :
    Calls Try.prog 48 #[.pointer (some ⟨m, 0, none⟩), .pointer (some ⟨db, p, none⟩), opV o] w fun e w' => e = .returned (anV ((⟨⟨0, 0, Im.exTo u H 8⟩, u, H⟩ : Out)).a) ∧ MX w' m ((⟨⟨0, 0, Im.exTo u H 8⟩, u, H⟩ : Out)).u ((⟨⟨0, 0, Im.exTo u H 8⟩, u, H⟩ : Out)).H ∧ Chg [m] w w' := by
  obtain ⟨k, oa, ob, oc, os, ot⟩ := o
  simp only at hk hos hob ⊢
  subst hk
  unfold opV anV
  have g0 : w.cell? ⟨db, p, none⟩ = some (.int .i64 h.k) := (cell_of hb _).trans hd.k
  have g1 : w.cell? ⟨db, p + 1, none⟩ = some (.int .i64 h.d) := (cell_of hb _).trans hd.d
  have g2 : w.cell? ⟨db, p + 2, none⟩ = some (.int .i64 h.l) := (cell_of hb _).trans hd.l
  have g3 : w.cell? ⟨db, p + 3, none⟩ = some (.int .i64 h.f) := (cell_of hb _).trans hd.f
  have g4 : w.cell? ⟨db, p + 4, none⟩ = some (.int .i64 h.s) := (cell_of hb _).trans hd.s
  have g5 : w.cell? ⟨db, p + 5, none⟩ = some (.string img) := (cell_of hb _).trans hd.i
  have hbl := lt_of_heap hb
  have HS : Hid (MX w m u H ∧ Gd u H ∧ in64 ob) := ⟨hst, hg, hob⟩
  have nI : w.heap.size + 1 ∉ [m] := by have := hst.lt; simp only [List.mem_singleton]; omega
  have HN : Hid (w.heap.size + 1 ∉ [m]) := nI
  clear hst hb hd hg hob
  go_enter Try.func48, Try.ntmps48
  go_wp2_with fail
  refine (xexport _ m u H HS.out.2.1 (HS.out.1.ext (((Ext.refl w).alloc _).alloc _))).mono ?_
  rintro e w1 ⟨rfl, x1⟩
  have c1 := Chg.of_ext (S := [m]) x1
  have s1 := (HS.out.1.ext (((Ext.refl w).alloc _).alloc _)).ext x1
  have z := c1.heap (heap_alloc2 w _ _) nI
  obtain ⟨zc, zf⟩ := res_cells z
  have z0 := zc 0
  have z1 := zc 1
  have z2 := zc 2
  have z3 := zc 3
  have H1 : Hid (MX w1 m ((⟨⟨0, 0, Im.exTo u H 8⟩, u, H⟩ : Out)).u ((⟨⟨0, 0, Im.exTo u H 8⟩, u, H⟩ : Out)).H ∧ Chg [m] w w1 ∧ Value.string (st ((⟨⟨0, 0, Im.exTo u H 8⟩, u, H⟩ : Out)).a.s) = .string (st (Im.exTo u H 8))) := ⟨s1, ((Chg.of_ext (((Ext.refl w).alloc _).alloc _))).trans c1, by first | rfl | (unfold sPut; split <;> (try split) <;> rfl)⟩
  have HR : Hid _ := lay4 z (.int .i64 0) (.int .i64 0) (.int .i64 0) (.string (st (Im.exTo u H 8)))
  clear zc s1 c1 z nI
  go_wp2
  obtain ⟨r0, r1, r2, r3⟩ := HR.out
  apply bodyPost_ret
  focus (simp [results, Try.results48, go_sem, r0, r1, r2, r3]; rfl)
  focus rfl
  first | rw [H1.out.2.2] | skip
  exact ⟨rfl, xfin4 H1.out.1 H1.out.2.1 HN.out (by omega) _ _ _ _⟩
set_option maxHeartbeats 1000000 in
theorem dom_imp (w : World) (m u : Nat) (H : Nat → Hd) (db p : Nat) (C : Array Value) (ty : TypeId) (h : Hd) (img : ByteArray) (o : Stp) (hst : MX w m u H) (hg : Gd u H) (hb : w.heap[db]? = some (.cells C ty)) (hd : DkIn C p h img) (hos : o.s.size ≤ 9223372036854775807) (him : img.size ≤ 64) (hob : in64 o.b) (hk : o.k = 10) :
    Calls Try.prog 48 #[.pointer (some ⟨m, 0, none⟩), .pointer (some ⟨db, p, none⟩), opV o] w fun e w' => e = .returned (anV (mImp u H o.s).a) ∧ MX w' m (mImp u H o.s).u (mImp u H o.s).H ∧ Chg [m] w w' := by
  obtain ⟨k, oa, ob, oc, os, ot⟩ := o
  simp only at hk hos hob ⊢
  subst hk
  unfold opV anV
  have g0 : w.cell? ⟨db, p, none⟩ = some (.int .i64 h.k) := (cell_of hb _).trans hd.k
  have g1 : w.cell? ⟨db, p + 1, none⟩ = some (.int .i64 h.d) := (cell_of hb _).trans hd.d
  have g2 : w.cell? ⟨db, p + 2, none⟩ = some (.int .i64 h.l) := (cell_of hb _).trans hd.l
  have g3 : w.cell? ⟨db, p + 3, none⟩ = some (.int .i64 h.f) := (cell_of hb _).trans hd.f
  have g4 : w.cell? ⟨db, p + 4, none⟩ = some (.int .i64 h.s) := (cell_of hb _).trans hd.s
  have g5 : w.cell? ⟨db, p + 5, none⟩ = some (.string img) := (cell_of hb _).trans hd.i
  have hbl := lt_of_heap hb
  have HS : Hid (MX w m u H ∧ Gd u H ∧ in64 ob) := ⟨hst, hg, hob⟩
  have nI : w.heap.size + 1 ∉ [m] := by have := hst.lt; simp only [List.mem_singleton]; omega
  have HN : Hid (w.heap.size + 1 ∉ [m]) := nI
  clear hst hb hd hg hob
  go_enter Try.func48, Try.ntmps48
  go_wp2_with fail
  refine (ximp _ m u H os hos HS.out.2.1 (HS.out.1.ext (((Ext.refl w).alloc _).alloc _))).mono ?_
  rintro e w1 ⟨rfl, s1, c1⟩
  have z := c1.heap (heap_alloc2 w _ _) nI
  obtain ⟨zc, zf⟩ := res_cells z
  have z0 := zc 0
  have z1 := zc 1
  have z2 := zc 2
  have z3 := zc 3
  have H1 : Hid (MX w1 m (mImp u H os).u (mImp u H os).H ∧ Chg [m] w w1 ∧ Value.string (st (mImp u H os).a.s) = .string ⟨#[]⟩) := ⟨s1, ((Chg.of_ext (((Ext.refl w).alloc _).alloc _))).trans c1, by first | rfl | (unfold sPut; split <;> (try split) <;> rfl)⟩
  have HR : Hid _ := lay4 z (.int .i64 (mImp u H os).a.e) (.int .i64 0) (.int .i64 0) (.string ⟨#[]⟩)
  clear zc s1 c1 z nI
  go_wp2
  obtain ⟨r0, r1, r2, r3⟩ := HR.out
  apply bodyPost_ret
  focus (simp [results, Try.results48, go_sem, r0, r1, r2, r3]; rfl)
  focus rfl
  first | rw [H1.out.2.2] | skip
  exact ⟨rfl, xfin4 H1.out.1 H1.out.2.1 HN.out (by omega) _ _ _ _⟩
set_option maxHeartbeats 1000000 in
theorem dom_again (w : World) (m u : Nat) (H : Nat → Hd) (db p : Nat) (C : Array Value) (ty : TypeId) (h : Hd) (img : ByteArray) (o : Stp) (hst : MX w m u H) (hg : Gd u H) (hb : w.heap[db]? = some (.cells C ty)) (hd : DkIn C p h img) (hos : o.s.size ≤ 9223372036854775807) (him : img.size ≤ 64) (hob : in64 o.b) (hk : o.k = 11) :
    Calls Try.prog 48 #[.pointer (some ⟨m, 0, none⟩), .pointer (some ⟨db, p, none⟩), opV o] w fun e w' => e = .returned (anV (mImp u H img).a) ∧ MX w' m (mImp u H img).u (mImp u H img).H ∧ Chg [m] w w' := by
  obtain ⟨k, oa, ob, oc, os, ot⟩ := o
  simp only at hk hos hob ⊢
  subst hk
  unfold opV anV
  have g0 : w.cell? ⟨db, p, none⟩ = some (.int .i64 h.k) := (cell_of hb _).trans hd.k
  have g1 : w.cell? ⟨db, p + 1, none⟩ = some (.int .i64 h.d) := (cell_of hb _).trans hd.d
  have g2 : w.cell? ⟨db, p + 2, none⟩ = some (.int .i64 h.l) := (cell_of hb _).trans hd.l
  have g3 : w.cell? ⟨db, p + 3, none⟩ = some (.int .i64 h.f) := (cell_of hb _).trans hd.f
  have g4 : w.cell? ⟨db, p + 4, none⟩ = some (.int .i64 h.s) := (cell_of hb _).trans hd.s
  have g5 : w.cell? ⟨db, p + 5, none⟩ = some (.string img) := (cell_of hb _).trans hd.i
  have hbl := lt_of_heap hb
  have HS : Hid (MX w m u H ∧ Gd u H ∧ in64 ob) := ⟨hst, hg, hob⟩
  have nI : w.heap.size + 1 ∉ [m] := by have := hst.lt; simp only [List.mem_singleton]; omega
  have HN : Hid (w.heap.size + 1 ∉ [m]) := nI
  clear hst hb hd hg hob
  go_enter Try.func48, Try.ntmps48
  go_wp2_with fail
  refine (ximp _ m u H img (by omega) HS.out.2.1 (HS.out.1.ext (((Ext.refl w).alloc _).alloc _))).mono ?_
  rintro e w1 ⟨rfl, s1, c1⟩
  have z := c1.heap (heap_alloc2 w _ _) nI
  obtain ⟨zc, zf⟩ := res_cells z
  have z0 := zc 0
  have z1 := zc 1
  have z2 := zc 2
  have z3 := zc 3
  have H1 : Hid (MX w1 m (mImp u H img).u (mImp u H img).H ∧ Chg [m] w w1 ∧ Value.string (st (mImp u H img).a.s) = .string ⟨#[]⟩) := ⟨s1, ((Chg.of_ext (((Ext.refl w).alloc _).alloc _))).trans c1, by first | rfl | (unfold sPut; split <;> (try split) <;> rfl)⟩
  have HR : Hid _ := lay4 z (.int .i64 (mImp u H img).a.e) (.int .i64 0) (.int .i64 0) (.string ⟨#[]⟩)
  clear zc s1 c1 z nI
  go_wp2
  obtain ⟨r0, r1, r2, r3⟩ := HR.out
  apply bodyPost_ret
  focus (simp [results, Try.results48, go_sem, r0, r1, r2, r3]; rfl)
  focus rfl
  first | rw [H1.out.2.2] | skip
  exact ⟨rfl, xfin4 H1.out.1 H1.out.2.1 HN.out (by omega) _ _ _ _⟩
set_option maxHeartbeats 1000000 in
theorem dom_show (w : World) (m u : Nat) (H : Nat → Hd) (db p : Nat) (C : Array Value) (ty : TypeId) (h : Hd) (img : ByteArray) (o : Stp) (hst : MX w m u H) (hg : Gd u H) (hb : w.heap[db]? = some (.cells C ty)) (hd : DkIn C p h img) (hos : o.s.size ≤ 9223372036854775807) (him : img.size ≤ 64) (hob : in64 o.b) (hk : o.k = 14) :
    Calls Try.prog 48 #[.pointer (some ⟨m, 0, none⟩), .pointer (some ⟨db, p, none⟩), opV o] w fun e w' => e = .returned (anV ((⟨⟨0, 0, Tx.showTo u H 8⟩, u, H⟩ : Out)).a) ∧ MX w' m ((⟨⟨0, 0, Tx.showTo u H 8⟩, u, H⟩ : Out)).u ((⟨⟨0, 0, Tx.showTo u H 8⟩, u, H⟩ : Out)).H ∧ Chg [m] w w' := by
  obtain ⟨k, oa, ob, oc, os, ot⟩ := o
  simp only at hk hos hob ⊢
  subst hk
  unfold opV anV
  have g0 : w.cell? ⟨db, p, none⟩ = some (.int .i64 h.k) := (cell_of hb _).trans hd.k
  have g1 : w.cell? ⟨db, p + 1, none⟩ = some (.int .i64 h.d) := (cell_of hb _).trans hd.d
  have g2 : w.cell? ⟨db, p + 2, none⟩ = some (.int .i64 h.l) := (cell_of hb _).trans hd.l
  have g3 : w.cell? ⟨db, p + 3, none⟩ = some (.int .i64 h.f) := (cell_of hb _).trans hd.f
  have g4 : w.cell? ⟨db, p + 4, none⟩ = some (.int .i64 h.s) := (cell_of hb _).trans hd.s
  have g5 : w.cell? ⟨db, p + 5, none⟩ = some (.string img) := (cell_of hb _).trans hd.i
  have hbl := lt_of_heap hb
  have HS : Hid (MX w m u H ∧ Gd u H ∧ in64 ob) := ⟨hst, hg, hob⟩
  have nI : w.heap.size + 1 ∉ [m] := by have := hst.lt; simp only [List.mem_singleton]; omega
  have HN : Hid (w.heap.size + 1 ∉ [m]) := nI
  clear hst hb hd hg hob
  go_enter Try.func48, Try.ntmps48
  go_wp2_with fail
  refine (xshow _ m u H HS.out.2.1 (HS.out.1.ext (((Ext.refl w).alloc _).alloc _))).mono ?_
  rintro e w1 ⟨rfl, x1⟩
  have c1 := Chg.of_ext (S := [m]) x1
  have s1 := (HS.out.1.ext (((Ext.refl w).alloc _).alloc _)).ext x1
  have z := c1.heap (heap_alloc2 w _ _) nI
  obtain ⟨zc, zf⟩ := res_cells z
  have z0 := zc 0
  have z1 := zc 1
  have z2 := zc 2
  have z3 := zc 3
  have H1 : Hid (MX w1 m ((⟨⟨0, 0, Tx.showTo u H 8⟩, u, H⟩ : Out)).u ((⟨⟨0, 0, Tx.showTo u H 8⟩, u, H⟩ : Out)).H ∧ Chg [m] w w1 ∧ Value.string (st ((⟨⟨0, 0, Tx.showTo u H 8⟩, u, H⟩ : Out)).a.s) = .string (st (Tx.showTo u H 8))) := ⟨s1, ((Chg.of_ext (((Ext.refl w).alloc _).alloc _))).trans c1, by first | rfl | (unfold sPut; split <;> (try split) <;> rfl)⟩
  have HR : Hid _ := lay4 z (.int .i64 0) (.int .i64 0) (.int .i64 0) (.string (st (Tx.showTo u H 8)))
  clear zc s1 c1 z nI
  go_wp2
  obtain ⟨r0, r1, r2, r3⟩ := HR.out
  apply bodyPost_ret
  focus (simp [results, Try.results48, go_sem, r0, r1, r2, r3]; rfl)
  focus rfl
  first | rw [H1.out.2.2] | skip
  exact ⟨rfl, xfin4 H1.out.1 H1.out.2.1 HN.out (by omega) _ _ _ _⟩
set_option maxHeartbeats 1000000 in
theorem dom_get (w : World) (m u : Nat) (H : Nat → Hd) (db p : Nat) (C : Array Value) (ty : TypeId) (h : Hd) (img : ByteArray) (o : Stp) (hst : MX w m u H) (hg : Gd u H) (hb : w.heap[db]? = some (.cells C ty)) (hd : DkIn C p h img) (hos : o.s.size ≤ 9223372036854775807) (him : img.size ≤ 64) (hob : in64 o.b) (hk : o.k = 5) :
    Calls Try.prog 48 #[.pointer (some ⟨m, 0, none⟩), .pointer (some ⟨db, p, none⟩), opV o] w fun e w' => e = .returned (anV (sGet u H o.a).a) ∧ MX w' m (sGet u H o.a).u (sGet u H o.a).H ∧ Chg [m] w w' := by
  obtain ⟨k, oa, ob, oc, os, ot⟩ := o
  simp only at hk hos hob ⊢
  subst hk
  unfold opV anV
  have g0 : w.cell? ⟨db, p, none⟩ = some (.int .i64 h.k) := (cell_of hb _).trans hd.k
  have g1 : w.cell? ⟨db, p + 1, none⟩ = some (.int .i64 h.d) := (cell_of hb _).trans hd.d
  have g2 : w.cell? ⟨db, p + 2, none⟩ = some (.int .i64 h.l) := (cell_of hb _).trans hd.l
  have g3 : w.cell? ⟨db, p + 3, none⟩ = some (.int .i64 h.f) := (cell_of hb _).trans hd.f
  have g4 : w.cell? ⟨db, p + 4, none⟩ = some (.int .i64 h.s) := (cell_of hb _).trans hd.s
  have g5 : w.cell? ⟨db, p + 5, none⟩ = some (.string img) := (cell_of hb _).trans hd.i
  have hbl := lt_of_heap hb
  have HS : Hid (MX w m u H ∧ Gd u H ∧ in64 ob) := ⟨hst, hg, hob⟩
  have nI : w.heap.size + 1 ∉ [m] := by have := hst.lt; simp only [List.mem_singleton]; omega
  have HN : Hid (w.heap.size + 1 ∉ [m]) := nI
  clear hst hb hd hg hob
  go_enter Try.func48, Try.ntmps48
  go_wp2_with fail
  refine (xget _ m u H oa HS.out.2.1 (HS.out.1.ext (((Ext.refl w).alloc _).alloc _))).mono ?_
  rintro e w1 ⟨rfl, x1⟩
  have c1 := Chg.of_ext (S := [m]) x1
  have s1 := (HS.out.1.ext (((Ext.refl w).alloc _).alloc _)).ext x1
  have hh := getG64 HS.out.2.1 oa
  have HH : Hid (sGet u H oa = ⟨⟨atE u oa, 0, Tx.showH (getH u H oa)⟩, u, H⟩) := rfl
  generalize hX : getH u H oa = X at *
  unfold hdV
  have HX : Hid (getH u H oa = X) := hX
  clear hX
  have C1 : Hid (Chg [m] _ w1 ∧ MX w1 m u H) := ⟨c1, s1⟩
  clear c1 s1 x1
  go_wp2_with fail
  refine (showh_any X hh _).mono ?_
  rintro e w2 ⟨rfl, x2⟩
  have c1 := C1.out.1.then (((Ext.refl w1).alloc _).trans x2)
  have s1 := C1.out.2.ext (((Ext.refl w1).alloc _).trans x2)
  clear x2
  have z := c1.heap (heap_alloc2 w _ _) nI
  obtain ⟨zc, zf⟩ := res_cells z
  have z0 := zc 0
  have z1 := zc 1
  have z2 := zc 2
  have z3 := zc 3
  have H1 : Hid (MX w2 m (sGet u H oa).u (sGet u H oa).H ∧ Chg [m] w w2 ∧ Value.string (st (sGet u H oa).a.s) = .string (st (Tx.showH X))) := ⟨s1, ((Chg.of_ext (((Ext.refl w).alloc _).alloc _))).trans c1, by first | (show Value.string (st (Tx.showH (getH u H oa))) = _; rw [HX.out]) | rfl | (unfold sPut; split <;> (try split) <;> rfl)⟩
  have HR : Hid _ := lay4 z (.int .i64 (atE u oa)) (.int .i64 0) (.int .i64 0) (.string (st (Tx.showH X)))
  clear zc s1 c1 z nI
  go_wp2
  obtain ⟨r0, r1, r2, r3⟩ := HR.out
  apply bodyPost_ret
  focus (simp [results, Try.results48, go_sem, r0, r1, r2, r3]; rfl)
  focus rfl
  first | rw [H1.out.2.2] | skip
  exact ⟨rfl, xfin4 H1.out.1 H1.out.2.1 HN.out (by omega) _ _ _ _⟩
set_option maxHeartbeats 1000000 in
theorem dom_check (w : World) (m u : Nat) (H : Nat → Hd) (db p : Nat) (o : Stp) (hst : MX w m u H) (hk : o.k = 15) :
    Calls Try.prog 48 #[.pointer (some ⟨m, 0, none⟩), .pointer (some ⟨db, p, none⟩), opV o] w fun e w' => e = .returned (anV ⟨0, 1, []⟩) ∧ MX w' m u H ∧ Chg [m] w w' := by
  obtain ⟨k, oa, ob, oc, os, ot⟩ := o
  simp only at hk
  subst hk
  unfold opV anV
  have HS : Hid (MX w m u H) := hst
  clear hst 
  go_enter Try.func48, Try.ntmps48
  go_wp2
  apply bodyPost_ret
  focus (simp [results, Try.results48, go_sem]; rfl)
  focus rfl
  exact ⟨rfl, HS.out.ext (((Ext.refl w).alloc _).alloc _), Chg.of_ext (((Ext.refl w).alloc _).alloc _)⟩
set_option maxHeartbeats 1000000 in
theorem dom_else (w : World) (m u : Nat) (H : Nat → Hd) (db p : Nat) (o : Stp) (hst : MX w m u H) (h4 : o.k ≠ 4) (h5 : o.k ≠ 5) (h6 : o.k ≠ 6) (h7 : o.k ≠ 7) (h8 : o.k ≠ 8) (h9 : o.k ≠ 9) (h10 : o.k ≠ 10) (h11 : o.k ≠ 11) (h14 : o.k ≠ 14) (h15 : o.k ≠ 15) :
    Calls Try.prog 48 #[.pointer (some ⟨m, 0, none⟩), .pointer (some ⟨db, p, none⟩), opV o] w fun e w' => e = .returned (anV ⟨0, 0, []⟩) ∧ MX w' m u H ∧ Chg [m] w w' := by
  obtain ⟨k, oa, ob, oc, os, ot⟩ := o
  simp only at h4 h5 h6 h7 h8 h9 h10 h11 h14 h15
  have e4 : (k == 4) = false := beq_false_of_ne h4
  have e5 : (k == 5) = false := beq_false_of_ne h5
  have e6 : (k == 6) = false := beq_false_of_ne h6
  have e7 : (k == 7) = false := beq_false_of_ne h7
  have e8 : (k == 8) = false := beq_false_of_ne h8
  have e9 : (k == 9) = false := beq_false_of_ne h9
  have e10 : (k == 10) = false := beq_false_of_ne h10
  have e11 : (k == 11) = false := beq_false_of_ne h11
  have e14 : (k == 14) = false := beq_false_of_ne h14
  have e15 : (k == 15) = false := beq_false_of_ne h15
  unfold opV anV
  have HS : Hid (MX w m u H) := hst
  clear hst h4 h5 h6 h7 h8 h9 h10 h11 h14 h15
  go_enter Try.func48, Try.ntmps48
  go_wp2
  apply bodyPost_ret
  focus (simp [results, Try.results48, go_sem]; rfl)
  focus rfl
  exact ⟨rfl, HS.out.ext (((Ext.refl w).alloc _).alloc _), Chg.of_ext (((Ext.refl w).alloc _).alloc _)⟩
theorem dom_any (w : World) (m u : Nat) (H : Nat → Hd) (db p : Nat) (C : Array Value) (ty : TypeId) (h : Hd) (img : ByteArray) (o : Stp) (hst : MX w m u H) (hg : Gd u H) (hb : w.heap[db]? = some (.cells C ty)) (hd : DkIn C p h img) (hos : o.s.size ≤ 9223372036854775807) (him : img.size ≤ 64) (hob : in64 o.b) :
    Calls Try.prog 48 #[.pointer (some ⟨m, 0, none⟩), .pointer (some ⟨db, p, none⟩), opV o] w fun e w' => e = .returned (anV (stepM u H h img o).a) ∧ MX w' m (stepM u H h img o).u (stepM u H h img o).H ∧ Chg [m] w w' := by
  unfold stepM
  split
  · rename_i hk; exact dom_put w m u H db p C ty h img o hst hg hb hd hos him hob hk
  split
  · rename_i hk; exact dom_get w m u H db p C ty h img o hst hg hb hd hos him hob hk
  split
  · rename_i hk; exact dom_drop w m u H db p C ty h img o hst hg hb hd hos him hob hk
  split
  · rename_i hk; exact dom_bump w m u H db p C ty h img o hst hg hb hd hos him hob hk
  split
  · rename_i hk; exact dom_len w m u H db p C ty h img o hst hg hb hd hos him hob hk
  split
  · rename_i hk; exact dom_export w m u H db p C ty h img o hst hg hb hd hos him hob hk
  split
  · rename_i hk; exact dom_imp w m u H db p C ty h img o hst hg hb hd hos him hob hk
  split
  · rename_i hk; exact dom_again w m u H db p C ty h img o hst hg hb hd hos him hob hk
  split
  · rename_i hk; exact dom_show w m u H db p C ty h img o hst hg hb hd hos him hob hk
  split
  · rename_i hk; exact dom_check w m u H db p o hst hk
  rename_i a b c d e f g i j k
  exact dom_else w m u H db p o hst a b c d e f g i j k
end Go.Proofs.Qxb6500342a

