/-
  Walks of Keeps 14: Means, whole.
-/
import Derived.Test.Qxb6500343aK12
import Derived.Test.Qxb6500343aR4
import Derived.Test.Qxb6500343aK13a
import Derived.Test.Qxb6500343aK13b
import Derived.Test.Qxb6500343aK13c
import Derived.Test.Qxb6500343aK13d
import Derived.Test.Qxb6500343aK13e
import Derived.Test.Qxb6500343aK13f
namespace Go.Proofs.Qxb6500343a
open Go.RowKit
open Go.Proofs
open Ieee (Datum)
open Fl
open Tx (st)
open Ff (in64)
set_option linter.unusedSimpArgs false
set_option linter.unusedVariables false
attribute [local go_sem] run_fadd run_fsub run_fmul run_fquo run_store_float alloc_drewN setCell_drewN shape?_drewN tape_alloc drawn_alloc tape_setCell drawn_setCell drawn_drewN drawn_drew run_fneg

theorem means_cell (w : World) (i : BId) (xs ys : List Datum) (a b c was : Int) (os ot : ByteArray) (hbx : BoxAt w i (Pl.lv xs) (Pl.lv ys)) (hn : 0 < xs.length) (ha : in64 a) (hb : in64 b) (hc : in64 c) :
    Calls Try.prog 24 #[.pointer (some ⟨i.b, 0, none⟩), .agg #[.int .i64 8, .int .i64 a, .int .i64 b, .int .i64 c, .string os, .string ot], .int .i64 was] w fun e w' => e = .returned (.bool true) ∧ Ext w w' := by
  have hlen := hbx.len
  rw [Pl.lv_len, Pl.lv_len] at hlen
  have hx : xs ≠ [] := by rintro rfl; simp at hn
  have hy : ys ≠ [] := by rintro rfl; simp at hlen; omega
  obtain ⟨K, F, hKF⟩ : ∃ K F, Pl.cellA (AX xs) (AX ys) (Pl.coord a c) (Pl.coord b c) = (K, F) := ⟨_, _, rfl⟩
  obtain ⟨how, hh⟩ := cell_facts hx hy _ _ K F hKF
  rcases hh with ⟨rfl, rfl⟩ | ⟨rfl, rfl⟩ | ⟨rfl, row, col, hK, hcol, hrow, rcol, rrow, g1, g2, g3, g4⟩
  · exact means_cell_e5 w i xs ys a b c was os ot hbx hn ha hb hc hKF how
  · exact means_cell_e6 w i xs ys a b c was os ot hbx hn ha hb hc hKF how
  · rw [rc_eq rcol rrow] at hK
    rcases six rcol g1 g2 with ⟨rfl, e1, e2⟩ | ⟨rfl, e1, e2⟩ | ⟨rfl, e1, e2⟩ | ⟨rfl, e1, e2⟩ | ⟨rfl, e1, e2⟩ | ⟨rfl, e1, e2⟩
    · exact means_cell_a w i xs ys a b c was os ot hbx hn ha hb hc K row hKF how hK hcol hrow rrow e1 e2 g3 g4
    · exact means_cell_b w i xs ys a b c was os ot hbx hn ha hb hc K row hKF how hK hcol hrow rrow e1 e2 g3 g4
    · exact means_cell_c w i xs ys a b c was os ot hbx hn ha hb hc K row hKF how hK hcol hrow rrow e1 e2 g3 g4
    · exact means_cell_d w i xs ys a b c was os ot hbx hn ha hb hc K row hKF how hK hcol hrow rrow e1 e2 g3 g4
    · exact means_cell_e w i xs ys a b c was os ot hbx hn ha hb hc K row hKF how hK hcol hrow rrow e1 e2 g3 g4
    · exact means_cell_f w i xs ys a b c was os ot hbx hn ha hb hc K row hKF how hK hcol hrow rrow e1 e2 g3 g4
theorem means_any (w : World) (i : BId) (xs ys : List Datum) (o : Stp) (was : Int) (hbx : BoxAt w i (Pl.lv xs) (Pl.lv ys)) (ha : in64 o.a) (hb : in64 o.b) (hc : in64 o.c) (hadd : o.k = 1 → was = 0 → Pl.ratio o.a o.c ∈ xs ∧ Pl.ratio o.b o.c ∈ ys) :
    Calls Try.prog 24 #[.pointer (some ⟨i.b, 0, none⟩), opV o, .int .i64 was] w fun e w' => e = .returned (.bool true) ∧ Ext w w' := by
  have hlen := hbx.len
  rw [Pl.lv_len, Pl.lv_len] at hlen
  by_cases hn : xs.length = 0
  · have e1 := nil_of hn
    have e2 := nil_of (hlen.trans hn)
    subst e1 e2
    exact means_none w i o was hbx
  obtain ⟨k, a, b, c, os, ot⟩ := o
  unfold opV
  simp only at ha hb hc hadd ⊢
  have hn0 : 0 < xs.length := by omega
  by_cases h1 : k = 1
  · subst h1; exact means_add w i xs ys a b c was os ot hbx hn0 ha hb hc (hadd rfl)
  by_cases h5 : k = 5
  · subst h5; exact means_ins w i xs ys a b c was os ot hbx hn0 ha hb hc
  by_cases h6 : k = 6
  · subst h6; exact means_clamp w i xs ys a b c was os ot hbx hn0 ha hb hc
  by_cases h7 : k = 7
  · subst h7; exact means_along w i xs ys a b c was os ot hbx hn0 ha hb hc
  by_cases h8 : k = 8
  · subst h8; exact means_cell w i xs ys a b c was os ot hbx hn0 ha hb hc
  exact means_else w i xs ys a b c was os ot k hbx hn0 ha hb hc h1 h5 h6 h7 h8
theorem add_mem {xs ys : List Datum} {o : Stp} (hk : o.k = 1) (h0 : (bstep xs ys o).e = 0) : Pl.ratio o.a o.c ∈ (bstep xs ys o).xs ∧ Pl.ratio o.b o.c ∈ (bstep xs ys o).ys := by
  unfold bstep at h0 ⊢
  rw [if_pos hk] at h0 ⊢
  simp only at h0 ⊢
  unfold aE at h0
  by_cases h8 : xs.length < 8
  · unfold aX
    rw [if_pos h8, if_pos h8]
    simp
  · rw [if_neg h8] at h0
    cases h0
/-- What stands within a round: box, pair, and blocks that are kept. -/
structure Mst (w W : World) (kept : List (Nat × Array Value × TypeId)) (i : BId) (h : HId) (xs ys us vs : List Datum) : Prop where
  b : BoxAt W i (Pl.lv xs) (Pl.lv ys)
  p : PairAt W w.heap.size h us vs
  dis : ∀ k, k ∈ i.all → k ∉ h.all
  kp : ∀ t, t ∈ kept → W.heap[t.1]? = some (.cells t.2.1 t.2.2) ∧ t.1 ∉ i.all ∧ t.1 ∉ h.all
  ext : Ext w W
  ni : ∀ k, k ∈ i.all → w.heap.size ≤ k
variable {w W W' : World} {kept : List (Nat × Array Value × TypeId)} {i : BId} {h : HId} {xs ys us vs xs' ys' us' vs' : List Datum}
theorem Mst.up (m : Mst w W kept i h xs ys us vs) (hx : Ext W W') : Mst w W' kept i h xs ys us vs :=
  ⟨m.b.ext hx, m.p.ext hx, m.dis, fun t ht => ⟨hx.heap (m.kp t ht).1, (m.kp t ht).2⟩, m.ext.trans hx, m.ni⟩
theorem Mst.push (m : Mst w W kept i h xs ys us vs) (c : Array Value) (t : TypeId) : Mst w (W.alloc (.cells c t)) ((W.heap.size, c, t) :: kept) i h xs ys us vs := by
  have hx : Ext W (W.alloc (.cells c t)) := (Ext.refl W).alloc _
  refine ⟨m.b.ext hx, m.p.ext hx, m.dis, fun t' ht => ?_, m.ext.trans hx, m.ni⟩
  rcases List.mem_cons.1 ht with rfl | ht
  · exact ⟨heap_alloc_new W _, fun hk => by have := m.b.lt _ hk; simp only at this; omega, fun hk => by have := (m.p.lt _ hk).1; simp only at this; omega⟩
  · exact ⟨hx.heap (m.kp t' ht).1, (m.kp t' ht).2⟩
theorem Mst.step (m : Mst w W kept i h xs ys us vs) (r : RP i W W' xs' ys') : Mst w W' kept i h xs' ys' us vs :=
  ⟨r.1, m.p.chg r.2 (fun k hk hi => m.dis k hi hk), m.dis, fun t ht => ⟨r.2.heap (m.kp t ht).1 (m.kp t ht).2.1, (m.kp t ht).2⟩, m.ext.chg r.2 m.ni, m.ni⟩
theorem Mst.look (m : Mst w W kept i h xs ys us vs) (b : BoxAt W' i (Pl.lv xs) (Pl.lv ys)) (p : PairAt W' w.heap.size h us vs) (c : Chg [h.mx, h.my] W W') : Mst w W' kept i h xs ys us vs := by
  have hs : ∀ k, k ∈ [h.mx, h.my] → k ∈ h.all := by intro k hk; simp [HId.all] at hk ⊢; rcases hk with rfl | rfl <;> simp
  exact ⟨b, p, m.dis, fun t ht => ⟨c.heap (m.kp t ht).1 (fun hk => (m.kp t ht).2.2 (hs _ hk)), (m.kp t ht).2⟩, m.ext.chg c (fun k hk => (m.p.lt k (hs k hk)).2), m.ni⟩
theorem Mst.note (m : Mst w W kept i h xs ys us vs) (n : NP w.heap.size h W W' us' vs') : ∃ vx vy, Mst w W' kept i ⟨h.mx, h.my, vx, vy⟩ xs ys us' vs' := by
  obtain ⟨⟨mx, my, vx, vy⟩, e1, e2, p, c, k⟩ := n
  simp only at e1 e2
  subst e1 e2
  refine ⟨vx, vy, m.b.chg c (fun k hk hh => m.dis k hk hh), p, fun g hg hh => ?_, fun t ht => ⟨c.heap (m.kp t ht).1 (m.kp t ht).2.2, (m.kp t ht).2.1, fun hh => ?_⟩, m.ext.chg c (fun k hk => (m.p.lt k hk).2), m.ni⟩
  · rcases k g hh with h1 | h1
    · exact m.dis g hg h1
    · have := m.b.lt g hg; omega
  · rcases k _ hh with h1 | h1
    · exact (m.kp t ht).2.2 h1
    · have := lt_of_heap (m.kp t ht).1; omega
theorem Mst.drop {t : Nat × Array Value × TypeId} (m : Mst w W (t :: kept) i h xs ys us vs) : Mst w W kept i h xs ys us vs :=
  ⟨m.b, m.p, m.dis, fun t' ht => m.kp t' (List.mem_cons_of_mem _ ht), m.ext, m.ni⟩
end Go.Proofs.Qxb6500343a
