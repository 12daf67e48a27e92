/-
  Walks 24: Owed: Drop and Bump.
-/
import Derived.Test.Qxb6500342aGh
import Derived.Test.Qxb6500342aV17
import Derived.Test.Qxb6500342aPeel
namespace Go.Proofs.Qxb6500342a
open Go.RowKit
open Go.Proofs
open Pl (Hd)
open Tx (st)
set_option linter.unusedSimpArgs false
set_option linter.unusedVariables false
attribute [local go_sem] alloc_drewN setCell_drewN shape?_drewN

set_option maxRecDepth 100000 in
set_option maxHeartbeats 2000000 in
theorem owed_dropneg (w : World) (g : Nat) (C : Array Value) (u : Nat) (H : Nat → Hd) (h : Hd) (img : ByteArray) (o : Stp) (hg : GhAt w g C u H h img) (hu : u < 256) (hk : o.k = 6) (ha : in64 o.a) (hb : in64 o.b) (hgd : ∀ i, i < 8 → u.testBit i = true → Pl.good (H i) = true) (hneg : o.a < 0) :
    Calls Try.prog 43 #[.pointer (some ⟨g, 0, none⟩), opV o] w fun e w' => e = .returned (anV ((⟨⟨2, 0, []⟩, u, H⟩ : Out)).a) ∧ (∃ C', GhAt w' g C' ((⟨⟨2, 0, []⟩, u, H⟩ : Out)).u ((⟨⟨2, 0, []⟩, u, H⟩ : Out)).H h img) ∧ Chg [g] w w' := by
  obtain ⟨k, oa, ob, oc, os, ot⟩ := o
  simp only at *
  subst hk
  unfold opV anV
  have hbl := lt_of_heap hg.heap
  have hbl1 : g < w.heap.size + 1 := by omega
  have hbl2 : g < w.heap.size + 2 := by omega
  have hbl3 : g < w.heap.size + 3 := by omega
  have hbl1' : g < w.heap.size + 1 + 1 := by omega
  have hbl2' : g < w.heap.size + 1 + 1 + 1 := by omega
  have HG : Hid (GhAt w g C u H h img) := hg
  have gf : ∀ i, w.frozen? ⟨g, i, none⟩ = false := fun i => frozen_of hg.heap i
  have k0 : w.cell? ⟨g, 48, none⟩ = some (.int .i64 h.k) := (cell_of hg.heap _).trans hg.dk.k
  have k1 : w.cell? ⟨g, 49, none⟩ = some (.int .i64 h.d) := (cell_of hg.heap _).trans hg.dk.d
  have k2 : w.cell? ⟨g, 50, none⟩ = some (.int .i64 h.l) := (cell_of hg.heap _).trans hg.dk.l
  have k3 : w.cell? ⟨g, 51, none⟩ = some (.int .i64 h.f) := (cell_of hg.heap _).trans hg.dk.f
  have k4 : w.cell? ⟨g, 52, none⟩ = some (.int .i64 h.s) := (cell_of hg.heap _).trans hg.dk.s
  have HA : Hid (in64 oa ∧ in64 ob ∧ ∀ i, i < 8 → u.testBit i = true → Pl.good (H i) = true) := ⟨ha, hb, hgd⟩
  clear hg ha hb hgd
  go_enter Try.func43, Try.ntmps43
  go_wp2
  go_loop [5, 6, 7] (fun n f i => OwR u n f i) (fun _ _ i => (intOf i + 1).toNat)
  case atStart => exact ⟨8, by omega, rfl, by rw [(cF_8 u hu).1]; rfl, by rw [(cF_8 u hu).2]⟩
  case round =>
    obtain ⟨m, hm, rfl, rfl, rfl⟩ := hrel
    by_cases hm0 : 0 < m
    · obtain ⟨m, rfl⟩ : ∃ m', m = m' + 1 := ⟨m - 1, by omega⟩
      have gu := (HG.out.rd (n := m) (by omega)).u
      have em : (((m + 1 : Nat) : Int) - 1) = (m : Int) := by omega
      rw [em]
      have hc := cF_le u (m + 1)
      have hm8 : (m : Int) < 8 := by omega
      have hd : decide (0 ≤ (m : Int)) = true := decide_eq_true (by omega)
      cases hb : u.testBit m
      · have HT : Hid (cF u m = cF u (m + 1) ∧ lF u m = (m : Int)) := cF_off u m hu (by omega) hb
        rw [hb] at gu
        clear hb
        generalize cF u (m + 1) = c at *
        generalize lF u (m + 1) = l at *
        go_wp2
        go_round
        case rel =>
          have hrel' : OwR u (.int .i64 (c : Int)) (.int .i64 (m : Int)) (.int .i64 ((m : Int) - 1)) := ⟨m, by omega, rfl, by rw [HT.out.1], by rw [HT.out.2]⟩
          first | exact hrel' | (refine ⟨trivial, ?_⟩; (repeat apply Exists.intro); exact ⟨hrel', rfl⟩)
        case measure => first | (simp [intOf]; done) | (simp [intOf]; omega)
      · have HT : Hid (cF u m = cF u (m + 1) + 1 ∧ lF u m = lF u (m + 1)) := cF_on u m hu (by omega) hb
        rw [hb] at gu
        clear hb
        generalize cF u (m + 1) = c at *
        generalize lF u (m + 1) = l at *
        go_wp2
        go_round
        case rel =>
          have hrel' : OwR u (.int .i64 ((c : Int) + 1)) (.int .i64 l) (.int .i64 ((m : Int) - 1)) := ⟨m, by omega, rfl, by rw [HT.out.1]; go_num, by rw [HT.out.2]⟩
          first | exact hrel' | (refine ⟨trivial, ?_⟩; (repeat apply Exists.intro); exact ⟨hrel', rfl⟩)
        case measure => first | (simp [intOf]; done) | (simp [intOf]; omega)
    · have hm00 : m = 0 := by omega
      subst hm00
      obtain ⟨ec, el⟩ := cF_end u hu
      rw [ec]
      have hcl := Bd.cnt_le u
      have HF : Hid (lF u 0 = if Bd.low u < 8 then (Bd.low u : Int) else -1) := el
      clear ec el
      have t0 : decide (oa < 0) = true := decide_eq_true hneg
      generalize Bd.cnt u = c at *
      generalize lF u 0 = F at *
      clear HF
      go_wp2
      apply bodyPost_ret
      focus (simp [results, Try.results43, go_sem]; rfl)
      focus rfl
      exact ⟨rfl, ⟨C, HG.out.ext (((((Ext.refl w).alloc _).alloc _).alloc _).alloc _)⟩, Chg.of_ext (((((Ext.refl w).alloc _).alloc _).alloc _).alloc _)⟩
set_option maxRecDepth 100000 in
set_option maxHeartbeats 2000000 in
theorem owed_dropbig (w : World) (g : Nat) (C : Array Value) (u : Nat) (H : Nat → Hd) (h : Hd) (img : ByteArray) (o : Stp) (hg : GhAt w g C u H h img) (hu : u < 256) (hk : o.k = 6) (ha : in64 o.a) (hb : in64 o.b) (hgd : ∀ i, i < 8 → u.testBit i = true → Pl.good (H i) = true) (hbig : 8 ≤ o.a) :
    Calls Try.prog 43 #[.pointer (some ⟨g, 0, none⟩), opV o] w fun e w' => e = .returned (anV ((⟨⟨2, 0, []⟩, u, H⟩ : Out)).a) ∧ (∃ C', GhAt w' g C' ((⟨⟨2, 0, []⟩, u, H⟩ : Out)).u ((⟨⟨2, 0, []⟩, u, H⟩ : Out)).H h img) ∧ Chg [g] w w' := by
  obtain ⟨k, oa, ob, oc, os, ot⟩ := o
  simp only at *
  subst hk
  unfold opV anV
  have hbl := lt_of_heap hg.heap
  have hbl1 : g < w.heap.size + 1 := by omega
  have hbl2 : g < w.heap.size + 2 := by omega
  have hbl3 : g < w.heap.size + 3 := by omega
  have hbl1' : g < w.heap.size + 1 + 1 := by omega
  have hbl2' : g < w.heap.size + 1 + 1 + 1 := by omega
  have HG : Hid (GhAt w g C u H h img) := hg
  have gf : ∀ i, w.frozen? ⟨g, i, none⟩ = false := fun i => frozen_of hg.heap i
  have k0 : w.cell? ⟨g, 48, none⟩ = some (.int .i64 h.k) := (cell_of hg.heap _).trans hg.dk.k
  have k1 : w.cell? ⟨g, 49, none⟩ = some (.int .i64 h.d) := (cell_of hg.heap _).trans hg.dk.d
  have k2 : w.cell? ⟨g, 50, none⟩ = some (.int .i64 h.l) := (cell_of hg.heap _).trans hg.dk.l
  have k3 : w.cell? ⟨g, 51, none⟩ = some (.int .i64 h.f) := (cell_of hg.heap _).trans hg.dk.f
  have k4 : w.cell? ⟨g, 52, none⟩ = some (.int .i64 h.s) := (cell_of hg.heap _).trans hg.dk.s
  have HA : Hid (in64 oa ∧ in64 ob ∧ ∀ i, i < 8 → u.testBit i = true → Pl.good (H i) = true) := ⟨ha, hb, hgd⟩
  clear hg ha hb hgd
  go_enter Try.func43, Try.ntmps43
  go_wp2
  go_loop [5, 6, 7] (fun n f i => OwR u n f i) (fun _ _ i => (intOf i + 1).toNat)
  case atStart => exact ⟨8, by omega, rfl, by rw [(cF_8 u hu).1]; rfl, by rw [(cF_8 u hu).2]⟩
  case round =>
    obtain ⟨m, hm, rfl, rfl, rfl⟩ := hrel
    by_cases hm0 : 0 < m
    · obtain ⟨m, rfl⟩ : ∃ m', m = m' + 1 := ⟨m - 1, by omega⟩
      have gu := (HG.out.rd (n := m) (by omega)).u
      have em : (((m + 1 : Nat) : Int) - 1) = (m : Int) := by omega
      rw [em]
      have hc := cF_le u (m + 1)
      have hm8 : (m : Int) < 8 := by omega
      have hd : decide (0 ≤ (m : Int)) = true := decide_eq_true (by omega)
      cases hb : u.testBit m
      · have HT : Hid (cF u m = cF u (m + 1) ∧ lF u m = (m : Int)) := cF_off u m hu (by omega) hb
        rw [hb] at gu
        clear hb
        generalize cF u (m + 1) = c at *
        generalize lF u (m + 1) = l at *
        go_wp2
        go_round
        case rel =>
          have hrel' : OwR u (.int .i64 (c : Int)) (.int .i64 (m : Int)) (.int .i64 ((m : Int) - 1)) := ⟨m, by omega, rfl, by rw [HT.out.1], by rw [HT.out.2]⟩
          first | exact hrel' | (refine ⟨trivial, ?_⟩; (repeat apply Exists.intro); exact ⟨hrel', rfl⟩)
        case measure => first | (simp [intOf]; done) | (simp [intOf]; omega)
      · have HT : Hid (cF u m = cF u (m + 1) + 1 ∧ lF u m = lF u (m + 1)) := cF_on u m hu (by omega) hb
        rw [hb] at gu
        clear hb
        generalize cF u (m + 1) = c at *
        generalize lF u (m + 1) = l at *
        go_wp2
        go_round
        case rel =>
          have hrel' : OwR u (.int .i64 ((c : Int) + 1)) (.int .i64 l) (.int .i64 ((m : Int) - 1)) := ⟨m, by omega, rfl, by rw [HT.out.1]; go_num, by rw [HT.out.2]⟩
          first | exact hrel' | (refine ⟨trivial, ?_⟩; (repeat apply Exists.intro); exact ⟨hrel', rfl⟩)
        case measure => first | (simp [intOf]; done) | (simp [intOf]; omega)
    · have hm00 : m = 0 := by omega
      subst hm00
      obtain ⟨ec, el⟩ := cF_end u hu
      rw [ec]
      have hcl := Bd.cnt_le u
      have HF : Hid (lF u 0 = if Bd.low u < 8 then (Bd.low u : Int) else -1) := el
      clear ec el
      have t0 : decide (oa < 0) = false := decide_eq_false (by omega)
      have t1 : decide (8 ≤ oa) = true := decide_eq_true hbig
      generalize Bd.cnt u = c at *
      generalize lF u 0 = F at *
      clear HF
      go_wp2
      apply bodyPost_ret
      focus (simp [results, Try.results43, go_sem]; rfl)
      focus rfl
      exact ⟨rfl, ⟨C, HG.out.ext (((((Ext.refl w).alloc _).alloc _).alloc _).alloc _)⟩, Chg.of_ext (((((Ext.refl w).alloc _).alloc _).alloc _).alloc _)⟩
set_option maxRecDepth 100000 in
set_option maxHeartbeats 2000000 in
theorem owed_dropoff (w : World) (g : Nat) (C : Array Value) (u : Nat) (H : Nat → Hd) (h : Hd) (img : ByteArray) (o : Stp) (hg : GhAt w g C u H h img) (hu : u < 256) (hk : o.k = 6) (ha : in64 o.a) (hb : in64 o.b) (hgd : ∀ i, i < 8 → u.testBit i = true → Pl.good (H i) = true) (n : Nat) (hn : n < 8) (hoa : o.a = n) (hbit : u.testBit n = false) :
    Calls Try.prog 43 #[.pointer (some ⟨g, 0, none⟩), opV o] w fun e w' => e = .returned (anV ((⟨⟨8, 0, []⟩, u, H⟩ : Out)).a) ∧ (∃ C', GhAt w' g C' ((⟨⟨8, 0, []⟩, u, H⟩ : Out)).u ((⟨⟨8, 0, []⟩, u, H⟩ : Out)).H h img) ∧ Chg [g] w w' := by
  obtain ⟨k, oa, ob, oc, os, ot⟩ := o
  simp only at *
  subst hk
  unfold opV anV
  have hbl := lt_of_heap hg.heap
  have hbl1 : g < w.heap.size + 1 := by omega
  have hbl2 : g < w.heap.size + 2 := by omega
  have hbl3 : g < w.heap.size + 3 := by omega
  have hbl1' : g < w.heap.size + 1 + 1 := by omega
  have hbl2' : g < w.heap.size + 1 + 1 + 1 := by omega
  have HG : Hid (GhAt w g C u H h img) := hg
  have gf : ∀ i, w.frozen? ⟨g, i, none⟩ = false := fun i => frozen_of hg.heap i
  have k0 : w.cell? ⟨g, 48, none⟩ = some (.int .i64 h.k) := (cell_of hg.heap _).trans hg.dk.k
  have k1 : w.cell? ⟨g, 49, none⟩ = some (.int .i64 h.d) := (cell_of hg.heap _).trans hg.dk.d
  have k2 : w.cell? ⟨g, 50, none⟩ = some (.int .i64 h.l) := (cell_of hg.heap _).trans hg.dk.l
  have k3 : w.cell? ⟨g, 51, none⟩ = some (.int .i64 h.f) := (cell_of hg.heap _).trans hg.dk.f
  have k4 : w.cell? ⟨g, 52, none⟩ = some (.int .i64 h.s) := (cell_of hg.heap _).trans hg.dk.s
  have HA : Hid (in64 oa ∧ in64 ob ∧ ∀ i, i < 8 → u.testBit i = true → Pl.good (H i) = true) := ⟨ha, hb, hgd⟩
  clear hg ha hb hgd
  go_enter Try.func43, Try.ntmps43
  go_wp2
  go_loop [5, 6, 7] (fun n f i => OwR u n f i) (fun _ _ i => (intOf i + 1).toNat)
  case atStart => exact ⟨8, by omega, rfl, by rw [(cF_8 u hu).1]; rfl, by rw [(cF_8 u hu).2]⟩
  case round =>
    obtain ⟨m, hm, rfl, rfl, rfl⟩ := hrel
    by_cases hm0 : 0 < m
    · obtain ⟨m, rfl⟩ : ∃ m', m = m' + 1 := ⟨m - 1, by omega⟩
      have gu := (HG.out.rd (n := m) (by omega)).u
      have em : (((m + 1 : Nat) : Int) - 1) = (m : Int) := by omega
      rw [em]
      have hc := cF_le u (m + 1)
      have hm8 : (m : Int) < 8 := by omega
      have hd : decide (0 ≤ (m : Int)) = true := decide_eq_true (by omega)
      cases hb : u.testBit m
      · have HT : Hid (cF u m = cF u (m + 1) ∧ lF u m = (m : Int)) := cF_off u m hu (by omega) hb
        rw [hb] at gu
        clear hb
        generalize cF u (m + 1) = c at *
        generalize lF u (m + 1) = l at *
        go_wp2
        go_round
        case rel =>
          have hrel' : OwR u (.int .i64 (c : Int)) (.int .i64 (m : Int)) (.int .i64 ((m : Int) - 1)) := ⟨m, by omega, rfl, by rw [HT.out.1], by rw [HT.out.2]⟩
          first | exact hrel' | (refine ⟨trivial, ?_⟩; (repeat apply Exists.intro); exact ⟨hrel', rfl⟩)
        case measure => first | (simp [intOf]; done) | (simp [intOf]; omega)
      · have HT : Hid (cF u m = cF u (m + 1) + 1 ∧ lF u m = lF u (m + 1)) := cF_on u m hu (by omega) hb
        rw [hb] at gu
        clear hb
        generalize cF u (m + 1) = c at *
        generalize lF u (m + 1) = l at *
        go_wp2
        go_round
        case rel =>
          have hrel' : OwR u (.int .i64 ((c : Int) + 1)) (.int .i64 l) (.int .i64 ((m : Int) - 1)) := ⟨m, by omega, rfl, by rw [HT.out.1]; go_num, by rw [HT.out.2]⟩
          first | exact hrel' | (refine ⟨trivial, ?_⟩; (repeat apply Exists.intro); exact ⟨hrel', rfl⟩)
        case measure => first | (simp [intOf]; done) | (simp [intOf]; omega)
    · have hm00 : m = 0 := by omega
      subst hm00
      obtain ⟨ec, el⟩ := cF_end u hu
      rw [ec]
      have hcl := Bd.cnt_le u
      have HF : Hid (lF u 0 = if Bd.low u < 8 then (Bd.low u : Int) else -1) := el
      clear ec el
      subst hoa
      have t0 : decide ((n : Int) < 0) = false := decide_eq_false (by omega)
      have t1 : decide (8 ≤ (n : Int)) = false := decide_eq_false (by omega)
      have hn8 : (n : Int) < 8 := by omega
      obtain ⟨q0, q1, q2, q3, q4, q5⟩ := HG.out.rd hn
      rw [hbit] at q0
      generalize Bd.cnt u = c at *
      generalize lF u 0 = F at *
      clear HF
      go_wp2_with fail
      go_region
      go_wp2
      apply bodyPost_ret
      focus (simp [results, Try.results43, go_sem]; rfl)
      focus rfl
      exact ⟨rfl, ⟨C, HG.out.ext (((((Ext.refl w).alloc _).alloc _).alloc _).alloc _).drew⟩, Chg.of_ext (((((Ext.refl w).alloc _).alloc _).alloc _).alloc _).drew⟩
set_option maxRecDepth 100000 in
set_option maxHeartbeats 2000000 in
theorem owed_bumpneg (w : World) (g : Nat) (C : Array Value) (u : Nat) (H : Nat → Hd) (h : Hd) (img : ByteArray) (o : Stp) (hg : GhAt w g C u H h img) (hu : u < 256) (hk : o.k = 7) (ha : in64 o.a) (hb : in64 o.b) (hgd : ∀ i, i < 8 → u.testBit i = true → Pl.good (H i) = true) (hneg : o.a < 0) :
    Calls Try.prog 43 #[.pointer (some ⟨g, 0, none⟩), opV o] w fun e w' => e = .returned (anV ((⟨⟨2, 0, []⟩, u, H⟩ : Out)).a) ∧ (∃ C', GhAt w' g C' ((⟨⟨2, 0, []⟩, u, H⟩ : Out)).u ((⟨⟨2, 0, []⟩, u, H⟩ : Out)).H h img) ∧ Chg [g] w w' := by
  obtain ⟨k, oa, ob, oc, os, ot⟩ := o
  simp only at *
  subst hk
  unfold opV anV
  have hbl := lt_of_heap hg.heap
  have hbl1 : g < w.heap.size + 1 := by omega
  have hbl2 : g < w.heap.size + 2 := by omega
  have hbl3 : g < w.heap.size + 3 := by omega
  have hbl1' : g < w.heap.size + 1 + 1 := by omega
  have hbl2' : g < w.heap.size + 1 + 1 + 1 := by omega
  have HG : Hid (GhAt w g C u H h img) := hg
  have gf : ∀ i, w.frozen? ⟨g, i, none⟩ = false := fun i => frozen_of hg.heap i
  have k0 : w.cell? ⟨g, 48, none⟩ = some (.int .i64 h.k) := (cell_of hg.heap _).trans hg.dk.k
  have k1 : w.cell? ⟨g, 49, none⟩ = some (.int .i64 h.d) := (cell_of hg.heap _).trans hg.dk.d
  have k2 : w.cell? ⟨g, 50, none⟩ = some (.int .i64 h.l) := (cell_of hg.heap _).trans hg.dk.l
  have k3 : w.cell? ⟨g, 51, none⟩ = some (.int .i64 h.f) := (cell_of hg.heap _).trans hg.dk.f
  have k4 : w.cell? ⟨g, 52, none⟩ = some (.int .i64 h.s) := (cell_of hg.heap _).trans hg.dk.s
  have HA : Hid (in64 oa ∧ in64 ob ∧ ∀ i, i < 8 → u.testBit i = true → Pl.good (H i) = true) := ⟨ha, hb, hgd⟩
  clear hg ha hb hgd
  go_enter Try.func43, Try.ntmps43
  go_wp2
  go_loop [5, 6, 7] (fun n f i => OwR u n f i) (fun _ _ i => (intOf i + 1).toNat)
  case atStart => exact ⟨8, by omega, rfl, by rw [(cF_8 u hu).1]; rfl, by rw [(cF_8 u hu).2]⟩
  case round =>
    obtain ⟨m, hm, rfl, rfl, rfl⟩ := hrel
    by_cases hm0 : 0 < m
    · obtain ⟨m, rfl⟩ : ∃ m', m = m' + 1 := ⟨m - 1, by omega⟩
      have gu := (HG.out.rd (n := m) (by omega)).u
      have em : (((m + 1 : Nat) : Int) - 1) = (m : Int) := by omega
      rw [em]
      have hc := cF_le u (m + 1)
      have hm8 : (m : Int) < 8 := by omega
      have hd : decide (0 ≤ (m : Int)) = true := decide_eq_true (by omega)
      cases hb : u.testBit m
      · have HT : Hid (cF u m = cF u (m + 1) ∧ lF u m = (m : Int)) := cF_off u m hu (by omega) hb
        rw [hb] at gu
        clear hb
        generalize cF u (m + 1) = c at *
        generalize lF u (m + 1) = l at *
        go_wp2
        go_round
        case rel =>
          have hrel' : OwR u (.int .i64 (c : Int)) (.int .i64 (m : Int)) (.int .i64 ((m : Int) - 1)) := ⟨m, by omega, rfl, by rw [HT.out.1], by rw [HT.out.2]⟩
          first | exact hrel' | (refine ⟨trivial, ?_⟩; (repeat apply Exists.intro); exact ⟨hrel', rfl⟩)
        case measure => first | (simp [intOf]; done) | (simp [intOf]; omega)
      · have HT : Hid (cF u m = cF u (m + 1) + 1 ∧ lF u m = lF u (m + 1)) := cF_on u m hu (by omega) hb
        rw [hb] at gu
        clear hb
        generalize cF u (m + 1) = c at *
        generalize lF u (m + 1) = l at *
        go_wp2
        go_round
        case rel =>
          have hrel' : OwR u (.int .i64 ((c : Int) + 1)) (.int .i64 l) (.int .i64 ((m : Int) - 1)) := ⟨m, by omega, rfl, by rw [HT.out.1]; go_num, by rw [HT.out.2]⟩
          first | exact hrel' | (refine ⟨trivial, ?_⟩; (repeat apply Exists.intro); exact ⟨hrel', rfl⟩)
        case measure => first | (simp [intOf]; done) | (simp [intOf]; omega)
    · have hm00 : m = 0 := by omega
      subst hm00
      obtain ⟨ec, el⟩ := cF_end u hu
      rw [ec]
      have hcl := Bd.cnt_le u
      have HF : Hid (lF u 0 = if Bd.low u < 8 then (Bd.low u : Int) else -1) := el
      clear ec el
      have t0 : decide (oa < 0) = true := decide_eq_true hneg
      generalize Bd.cnt u = c at *
      generalize lF u 0 = F at *
      clear HF
      go_wp2
      apply bodyPost_ret
      focus (simp [results, Try.results43, go_sem]; rfl)
      focus rfl
      exact ⟨rfl, ⟨C, HG.out.ext (((((Ext.refl w).alloc _).alloc _).alloc _).alloc _)⟩, Chg.of_ext (((((Ext.refl w).alloc _).alloc _).alloc _).alloc _)⟩
set_option maxRecDepth 100000 in
set_option maxHeartbeats 2000000 in
theorem owed_bumpbig (w : World) (g : Nat) (C : Array Value) (u : Nat) (H : Nat → Hd) (h : Hd) (img : ByteArray) (o : Stp) (hg : GhAt w g C u H h img) (hu : u < 256) (hk : o.k = 7) (ha : in64 o.a) (hb : in64 o.b) (hgd : ∀ i, i < 8 → u.testBit i = true → Pl.good (H i) = true) (hbig : 8 ≤ o.a) :
    Calls Try.prog 43 #[.pointer (some ⟨g, 0, none⟩), opV o] w fun e w' => e = .returned (anV ((⟨⟨2, 0, []⟩, u, H⟩ : Out)).a) ∧ (∃ C', GhAt w' g C' ((⟨⟨2, 0, []⟩, u, H⟩ : Out)).u ((⟨⟨2, 0, []⟩, u, H⟩ : Out)).H h img) ∧ Chg [g] w w' := by
  obtain ⟨k, oa, ob, oc, os, ot⟩ := o
  simp only at *
  subst hk
  unfold opV anV
  have hbl := lt_of_heap hg.heap
  have hbl1 : g < w.heap.size + 1 := by omega
  have hbl2 : g < w.heap.size + 2 := by omega
  have hbl3 : g < w.heap.size + 3 := by omega
  have hbl1' : g < w.heap.size + 1 + 1 := by omega
  have hbl2' : g < w.heap.size + 1 + 1 + 1 := by omega
  have HG : Hid (GhAt w g C u H h img) := hg
  have gf : ∀ i, w.frozen? ⟨g, i, none⟩ = false := fun i => frozen_of hg.heap i
  have k0 : w.cell? ⟨g, 48, none⟩ = some (.int .i64 h.k) := (cell_of hg.heap _).trans hg.dk.k
  have k1 : w.cell? ⟨g, 49, none⟩ = some (.int .i64 h.d) := (cell_of hg.heap _).trans hg.dk.d
  have k2 : w.cell? ⟨g, 50, none⟩ = some (.int .i64 h.l) := (cell_of hg.heap _).trans hg.dk.l
  have k3 : w.cell? ⟨g, 51, none⟩ = some (.int .i64 h.f) := (cell_of hg.heap _).trans hg.dk.f
  have k4 : w.cell? ⟨g, 52, none⟩ = some (.int .i64 h.s) := (cell_of hg.heap _).trans hg.dk.s
  have HA : Hid (in64 oa ∧ in64 ob ∧ ∀ i, i < 8 → u.testBit i = true → Pl.good (H i) = true) := ⟨ha, hb, hgd⟩
  clear hg ha hb hgd
  go_enter Try.func43, Try.ntmps43
  go_wp2
  go_loop [5, 6, 7] (fun n f i => OwR u n f i) (fun _ _ i => (intOf i + 1).toNat)
  case atStart => exact ⟨8, by omega, rfl, by rw [(cF_8 u hu).1]; rfl, by rw [(cF_8 u hu).2]⟩
  case round =>
    obtain ⟨m, hm, rfl, rfl, rfl⟩ := hrel
    by_cases hm0 : 0 < m
    · obtain ⟨m, rfl⟩ : ∃ m', m = m' + 1 := ⟨m - 1, by omega⟩
      have gu := (HG.out.rd (n := m) (by omega)).u
      have em : (((m + 1 : Nat) : Int) - 1) = (m : Int) := by omega
      rw [em]
      have hc := cF_le u (m + 1)
      have hm8 : (m : Int) < 8 := by omega
      have hd : decide (0 ≤ (m : Int)) = true := decide_eq_true (by omega)
      cases hb : u.testBit m
      · have HT : Hid (cF u m = cF u (m + 1) ∧ lF u m = (m : Int)) := cF_off u m hu (by omega) hb
        rw [hb] at gu
        clear hb
        generalize cF u (m + 1) = c at *
        generalize lF u (m + 1) = l at *
        go_wp2
        go_round
        case rel =>
          have hrel' : OwR u (.int .i64 (c : Int)) (.int .i64 (m : Int)) (.int .i64 ((m : Int) - 1)) := ⟨m, by omega, rfl, by rw [HT.out.1], by rw [HT.out.2]⟩
          first | exact hrel' | (refine ⟨trivial, ?_⟩; (repeat apply Exists.intro); exact ⟨hrel', rfl⟩)
        case measure => first | (simp [intOf]; done) | (simp [intOf]; omega)
      · have HT : Hid (cF u m = cF u (m + 1) + 1 ∧ lF u m = lF u (m + 1)) := cF_on u m hu (by omega) hb
        rw [hb] at gu
        clear hb
        generalize cF u (m + 1) = c at *
        generalize lF u (m + 1) = l at *
        go_wp2
        go_round
        case rel =>
          have hrel' : OwR u (.int .i64 ((c : Int) + 1)) (.int .i64 l) (.int .i64 ((m : Int) - 1)) := ⟨m, by omega, rfl, by rw [HT.out.1]; go_num, by rw [HT.out.2]⟩
          first | exact hrel' | (refine ⟨trivial, ?_⟩; (repeat apply Exists.intro); exact ⟨hrel', rfl⟩)
        case measure => first | (simp [intOf]; done) | (simp [intOf]; omega)
    · have hm00 : m = 0 := by omega
      subst hm00
      obtain ⟨ec, el⟩ := cF_end u hu
      rw [ec]
      have hcl := Bd.cnt_le u
      have HF : Hid (lF u 0 = if Bd.low u < 8 then (Bd.low u : Int) else -1) := el
      clear ec el
      have t0 : decide (oa < 0) = false := decide_eq_false (by omega)
      have t1 : decide (8 ≤ oa) = true := decide_eq_true hbig
      generalize Bd.cnt u = c at *
      generalize lF u 0 = F at *
      clear HF
      go_wp2
      apply bodyPost_ret
      focus (simp [results, Try.results43, go_sem]; rfl)
      focus rfl
      exact ⟨rfl, ⟨C, HG.out.ext (((((Ext.refl w).alloc _).alloc _).alloc _).alloc _)⟩, Chg.of_ext (((((Ext.refl w).alloc _).alloc _).alloc _).alloc _)⟩
set_option maxRecDepth 100000 in
set_option maxHeartbeats 2000000 in
theorem owed_bumpoff (w : World) (g : Nat) (C : Array Value) (u : Nat) (H : Nat → Hd) (h : Hd) (img : ByteArray) (o : Stp) (hg : GhAt w g C u H h img) (hu : u < 256) (hk : o.k = 7) (ha : in64 o.a) (hb : in64 o.b) (hgd : ∀ i, i < 8 → u.testBit i = true → Pl.good (H i) = true) (n : Nat) (hn : n < 8) (hoa : o.a = n) (hbit : u.testBit n = false) :
    Calls Try.prog 43 #[.pointer (some ⟨g, 0, none⟩), opV o] w fun e w' => e = .returned (anV ((⟨⟨8, 0, []⟩, u, H⟩ : Out)).a) ∧ (∃ C', GhAt w' g C' ((⟨⟨8, 0, []⟩, u, H⟩ : Out)).u ((⟨⟨8, 0, []⟩, u, H⟩ : Out)).H h img) ∧ Chg [g] w w' := by
  obtain ⟨k, oa, ob, oc, os, ot⟩ := o
  simp only at *
  subst hk
  unfold opV anV
  have hbl := lt_of_heap hg.heap
  have hbl1 : g < w.heap.size + 1 := by omega
  have hbl2 : g < w.heap.size + 2 := by omega
  have hbl3 : g < w.heap.size + 3 := by omega
  have hbl1' : g < w.heap.size + 1 + 1 := by omega
  have hbl2' : g < w.heap.size + 1 + 1 + 1 := by omega
  have HG : Hid (GhAt w g C u H h img) := hg
  have gf : ∀ i, w.frozen? ⟨g, i, none⟩ = false := fun i => frozen_of hg.heap i
  have k0 : w.cell? ⟨g, 48, none⟩ = some (.int .i64 h.k) := (cell_of hg.heap _).trans hg.dk.k
  have k1 : w.cell? ⟨g, 49, none⟩ = some (.int .i64 h.d) := (cell_of hg.heap _).trans hg.dk.d
  have k2 : w.cell? ⟨g, 50, none⟩ = some (.int .i64 h.l) := (cell_of hg.heap _).trans hg.dk.l
  have k3 : w.cell? ⟨g, 51, none⟩ = some (.int .i64 h.f) := (cell_of hg.heap _).trans hg.dk.f
  have k4 : w.cell? ⟨g, 52, none⟩ = some (.int .i64 h.s) := (cell_of hg.heap _).trans hg.dk.s
  have HA : Hid (in64 oa ∧ in64 ob ∧ ∀ i, i < 8 → u.testBit i = true → Pl.good (H i) = true) := ⟨ha, hb, hgd⟩
  clear hg ha hb hgd
  go_enter Try.func43, Try.ntmps43
  go_wp2
  go_loop [5, 6, 7] (fun n f i => OwR u n f i) (fun _ _ i => (intOf i + 1).toNat)
  case atStart => exact ⟨8, by omega, rfl, by rw [(cF_8 u hu).1]; rfl, by rw [(cF_8 u hu).2]⟩
  case round =>
    obtain ⟨m, hm, rfl, rfl, rfl⟩ := hrel
    by_cases hm0 : 0 < m
    · obtain ⟨m, rfl⟩ : ∃ m', m = m' + 1 := ⟨m - 1, by omega⟩
      have gu := (HG.out.rd (n := m) (by omega)).u
      have em : (((m + 1 : Nat) : Int) - 1) = (m : Int) := by omega
      rw [em]
      have hc := cF_le u (m + 1)
      have hm8 : (m : Int) < 8 := by omega
      have hd : decide (0 ≤ (m : Int)) = true := decide_eq_true (by omega)
      cases hb : u.testBit m
      · have HT : Hid (cF u m = cF u (m + 1) ∧ lF u m = (m : Int)) := cF_off u m hu (by omega) hb
        rw [hb] at gu
        clear hb
        generalize cF u (m + 1) = c at *
        generalize lF u (m + 1) = l at *
        go_wp2
        go_round
        case rel =>
          have hrel' : OwR u (.int .i64 (c : Int)) (.int .i64 (m : Int)) (.int .i64 ((m : Int) - 1)) := ⟨m, by omega, rfl, by rw [HT.out.1], by rw [HT.out.2]⟩
          first | exact hrel' | (refine ⟨trivial, ?_⟩; (repeat apply Exists.intro); exact ⟨hrel', rfl⟩)
        case measure => first | (simp [intOf]; done) | (simp [intOf]; omega)
      · have HT : Hid (cF u m = cF u (m + 1) + 1 ∧ lF u m = lF u (m + 1)) := cF_on u m hu (by omega) hb
        rw [hb] at gu
        clear hb
        generalize cF u (m + 1) = c at *
        generalize lF u (m + 1) = l at *
        go_wp2
        go_round
        case rel =>
          have hrel' : OwR u (.int .i64 ((c : Int) + 1)) (.int .i64 l) (.int .i64 ((m : Int) - 1)) := ⟨m, by omega, rfl, by rw [HT.out.1]; go_num, by rw [HT.out.2]⟩
          first | exact hrel' | (refine ⟨trivial, ?_⟩; (repeat apply Exists.intro); exact ⟨hrel', rfl⟩)
        case measure => first | (simp [intOf]; done) | (simp [intOf]; omega)
    · have hm00 : m = 0 := by omega
      subst hm00
      obtain ⟨ec, el⟩ := cF_end u hu
      rw [ec]
      have hcl := Bd.cnt_le u
      have HF : Hid (lF u 0 = if Bd.low u < 8 then (Bd.low u : Int) else -1) := el
      clear ec el
      subst hoa
      have t0 : decide ((n : Int) < 0) = false := decide_eq_false (by omega)
      have t1 : decide (8 ≤ (n : Int)) = false := decide_eq_false (by omega)
      have hn8 : (n : Int) < 8 := by omega
      obtain ⟨q0, q1, q2, q3, q4, q5⟩ := HG.out.rd hn
      rw [hbit] at q0
      generalize Bd.cnt u = c at *
      generalize lF u 0 = F at *
      clear HF
      go_wp2_with fail
      go_region
      go_wp2
      apply bodyPost_ret
      focus (simp [results, Try.results43, go_sem]; rfl)
      focus rfl
      exact ⟨rfl, ⟨C, HG.out.ext (((((Ext.refl w).alloc _).alloc _).alloc _).alloc _).drew⟩, Chg.of_ext (((((Ext.refl w).alloc _).alloc _).alloc _).alloc _).drew⟩
set_option maxRecDepth 100000 in
set_option maxHeartbeats 2000000 in
theorem owed_dropon (w : World) (g : Nat) (C : Array Value) (u : Nat) (H : Nat → Hd) (h : Hd) (img : ByteArray) (o : Stp) (hg : GhAt w g C u H h img) (hu : u < 256) (hk : o.k = 6) (ha : in64 o.a) (hb : in64 o.b) (hgd : ∀ i, i < 8 → u.testBit i = true → Pl.good (H i) = true) (n : Nat) (hn : n < 8) (hoa : o.a = n) (hbit : u.testBit n = true) :
    Calls Try.prog 43 #[.pointer (some ⟨g, 0, none⟩), opV o] w fun e w' => e = .returned (anV ((⟨⟨0, 0, []⟩, remB u n, H⟩ : Out)).a) ∧ (∃ C', GhAt w' g C' ((⟨⟨0, 0, []⟩, remB u n, H⟩ : Out)).u ((⟨⟨0, 0, []⟩, remB u n, H⟩ : Out)).H h img) ∧ Chg [g] w w' := by
  obtain ⟨k, oa, ob, oc, os, ot⟩ := o
  simp only at *
  subst hk
  unfold opV anV
  have hbl := lt_of_heap hg.heap
  have hbl1 : g < w.heap.size + 1 := by omega
  have hbl2 : g < w.heap.size + 2 := by omega
  have hbl3 : g < w.heap.size + 3 := by omega
  have hbl1' : g < w.heap.size + 1 + 1 := by omega
  have hbl2' : g < w.heap.size + 1 + 1 + 1 := by omega
  have HG : Hid (GhAt w g C u H h img) := hg
  have gf : ∀ i, w.frozen? ⟨g, i, none⟩ = false := fun i => frozen_of hg.heap i
  have k0 : w.cell? ⟨g, 48, none⟩ = some (.int .i64 h.k) := (cell_of hg.heap _).trans hg.dk.k
  have k1 : w.cell? ⟨g, 49, none⟩ = some (.int .i64 h.d) := (cell_of hg.heap _).trans hg.dk.d
  have k2 : w.cell? ⟨g, 50, none⟩ = some (.int .i64 h.l) := (cell_of hg.heap _).trans hg.dk.l
  have k3 : w.cell? ⟨g, 51, none⟩ = some (.int .i64 h.f) := (cell_of hg.heap _).trans hg.dk.f
  have k4 : w.cell? ⟨g, 52, none⟩ = some (.int .i64 h.s) := (cell_of hg.heap _).trans hg.dk.s
  have HA : Hid (in64 oa ∧ in64 ob ∧ ∀ i, i < 8 → u.testBit i = true → Pl.good (H i) = true) := ⟨ha, hb, hgd⟩
  clear hg ha hb hgd
  go_enter Try.func43, Try.ntmps43
  go_wp2
  go_loop [5, 6, 7] (fun n f i => OwR u n f i) (fun _ _ i => (intOf i + 1).toNat)
  case atStart => exact ⟨8, by omega, rfl, by rw [(cF_8 u hu).1]; rfl, by rw [(cF_8 u hu).2]⟩
  case round =>
    obtain ⟨m, hm, rfl, rfl, rfl⟩ := hrel
    by_cases hm0 : 0 < m
    · obtain ⟨m, rfl⟩ : ∃ m', m = m' + 1 := ⟨m - 1, by omega⟩
      have gu := (HG.out.rd (n := m) (by omega)).u
      have em : (((m + 1 : Nat) : Int) - 1) = (m : Int) := by omega
      rw [em]
      have hc := cF_le u (m + 1)
      have hm8 : (m : Int) < 8 := by omega
      have hd : decide (0 ≤ (m : Int)) = true := decide_eq_true (by omega)
      cases hb : u.testBit m
      · have HT : Hid (cF u m = cF u (m + 1) ∧ lF u m = (m : Int)) := cF_off u m hu (by omega) hb
        rw [hb] at gu
        clear hb
        generalize cF u (m + 1) = c at *
        generalize lF u (m + 1) = l at *
        go_wp2
        go_round
        case rel =>
          have hrel' : OwR u (.int .i64 (c : Int)) (.int .i64 (m : Int)) (.int .i64 ((m : Int) - 1)) := ⟨m, by omega, rfl, by rw [HT.out.1], by rw [HT.out.2]⟩
          first | exact hrel' | (refine ⟨trivial, ?_⟩; (repeat apply Exists.intro); exact ⟨hrel', rfl⟩)
        case measure => first | (simp [intOf]; done) | (simp [intOf]; omega)
      · have HT : Hid (cF u m = cF u (m + 1) + 1 ∧ lF u m = lF u (m + 1)) := cF_on u m hu (by omega) hb
        rw [hb] at gu
        clear hb
        generalize cF u (m + 1) = c at *
        generalize lF u (m + 1) = l at *
        go_wp2
        go_round
        case rel =>
          have hrel' : OwR u (.int .i64 ((c : Int) + 1)) (.int .i64 l) (.int .i64 ((m : Int) - 1)) := ⟨m, by omega, rfl, by rw [HT.out.1]; go_num, by rw [HT.out.2]⟩
          first | exact hrel' | (refine ⟨trivial, ?_⟩; (repeat apply Exists.intro); exact ⟨hrel', rfl⟩)
        case measure => first | (simp [intOf]; done) | (simp [intOf]; omega)
    · have hm00 : m = 0 := by omega
      subst hm00
      obtain ⟨ec, el⟩ := cF_end u hu
      rw [ec]
      have hcl := Bd.cnt_le u
      have HF : Hid (lF u 0 = if Bd.low u < 8 then (Bd.low u : Int) else -1) := el
      clear ec el
      subst hoa
      have t0 : decide ((n : Int) < 0) = false := decide_eq_false (by omega)
      have t1 : decide (8 ≤ (n : Int)) = false := decide_eq_false (by omega)
      have hn8 : (n : Int) < 8 := by omega
      obtain ⟨q0, q1, q2, q3, q4, q5⟩ := HG.out.rd hn
      rw [hbit] at q0
      generalize Bd.cnt u = c at *
      generalize lF u 0 = F at *
      clear HF
      go_wp2_with fail
      go_region
      go_wp2_with fail
      go_region
      go_wp2
      apply bodyPost_ret
      focus (simp [results, Try.results43, go_sem]; rfl)
      focus rfl
      have g1 := HG.out
      refine ⟨rfl, ⟨_, g1.use (v := remB u n) hn false (fun i hi => ?_) (heap_alloc_lt (heap_alloc_lt (heap_alloc_lt (heap_alloc_lt (heap_set g1.heap n _)))))⟩, ?_⟩
      · unfold remB
        rw [Bd.rem_bit u n i hu hn hi]
        by_cases e : i = n
        · rw [if_pos e]; simp [e]
        · rw [if_neg e]; simp [e]
      · exact ((((((Chg.refl [g] w).setCell (by simp) _).alloc _).alloc _).alloc _).alloc _).drew.drew
end Go.Proofs.Qxb6500342a
