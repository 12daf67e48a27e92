/-
  Walks 22: Owed: Len and Put.
-/
import Derived.Test.Qxb6500342aGh
import Derived.Test.Qxb6500342aV17
import Derived.Test.Qxb6500342aPeel
namespace Go.Proofs.Qxb6500342a
open Go.RowKit
open Go.Proofs
open Pl (Hd)
open Tx (st)
set_option linter.unusedSimpArgs false
set_option linter.unusedVariables false
attribute [local go_sem] alloc_drewN setCell_drewN shape?_drewN

set_option maxRecDepth 100000 in
set_option maxHeartbeats 2000000 in
theorem owed_len (w : World) (g : Nat) (C : Array Value) (u : Nat) (H : Nat → Hd) (h : Hd) (img : ByteArray) (o : Stp) (hg : GhAt w g C u H h img) (hu : u < 256) (hk : o.k = 8) (ha : in64 o.a) (hb : in64 o.b) (hgd : ∀ i, i < 8 → u.testBit i = true → Pl.good (H i) = true) :
    Calls Try.prog 43 #[.pointer (some ⟨g, 0, none⟩), opV o] w fun e w' => e = .returned (anV ((⟨⟨0, Bd.cnt u, []⟩, u, H⟩ : Out)).a) ∧ (∃ C', GhAt w' g C' ((⟨⟨0, Bd.cnt u, []⟩, u, H⟩ : Out)).u ((⟨⟨0, Bd.cnt u, []⟩, u, H⟩ : Out)).H h img) ∧ Chg [g] w w' := by
  obtain ⟨k, oa, ob, oc, os, ot⟩ := o
  simp only at hk ha hb ⊢
  subst hk
  unfold opV anV
  have hbl := lt_of_heap hg.heap
  have HG : Hid (GhAt w g C u H h img) := hg
  have gf : ∀ i, w.frozen? ⟨g, i, none⟩ = false := fun i => frozen_of hg.heap i
  have k0 : w.cell? ⟨g, 48, none⟩ = some (.int .i64 h.k) := (cell_of hg.heap _).trans hg.dk.k
  have k1 : w.cell? ⟨g, 49, none⟩ = some (.int .i64 h.d) := (cell_of hg.heap _).trans hg.dk.d
  have k2 : w.cell? ⟨g, 50, none⟩ = some (.int .i64 h.l) := (cell_of hg.heap _).trans hg.dk.l
  have k3 : w.cell? ⟨g, 51, none⟩ = some (.int .i64 h.f) := (cell_of hg.heap _).trans hg.dk.f
  have k4 : w.cell? ⟨g, 52, none⟩ = some (.int .i64 h.s) := (cell_of hg.heap _).trans hg.dk.s
  have HA : Hid (in64 oa ∧ in64 ob ∧ ∀ i, i < 8 → u.testBit i = true → Pl.good (H i) = true) := ⟨ha, hb, hgd⟩
  clear hg ha hb hgd
  go_enter Try.func43, Try.ntmps43
  go_wp2
  go_loop [5, 6, 7] (fun n f i => OwR u n f i) (fun _ _ i => (intOf i + 1).toNat)
  case atStart => exact ⟨8, by omega, rfl, by rw [(cF_8 u hu).1]; rfl, by rw [(cF_8 u hu).2]⟩
  case round =>
    obtain ⟨m, hm, rfl, rfl, rfl⟩ := hrel
    by_cases hm0 : 0 < m
    · obtain ⟨m, rfl⟩ : ∃ m', m = m' + 1 := ⟨m - 1, by omega⟩
      have gu := (HG.out.rd (n := m) (by omega)).u
      have em : (((m + 1 : Nat) : Int) - 1) = (m : Int) := by omega
      rw [em]
      have hc := cF_le u (m + 1)
      have hm8 : (m : Int) < 8 := by omega
      have hd : decide (0 ≤ (m : Int)) = true := decide_eq_true (by omega)
      cases hb : u.testBit m
      · have HT : Hid (cF u m = cF u (m + 1) ∧ lF u m = (m : Int)) := cF_off u m hu (by omega) hb
        rw [hb] at gu
        clear hb
        generalize cF u (m + 1) = c at *
        generalize lF u (m + 1) = l at *
        go_wp2
        go_round
        case rel =>
          have hrel' : OwR u (.int .i64 (c : Int)) (.int .i64 (m : Int)) (.int .i64 ((m : Int) - 1)) := ⟨m, by omega, rfl, by rw [HT.out.1], by rw [HT.out.2]⟩
          first | exact hrel' | (refine ⟨trivial, ?_⟩; (repeat apply Exists.intro); exact ⟨hrel', rfl⟩)
        case measure => first | (simp [intOf]; done) | (simp [intOf]; omega)
      · have HT : Hid (cF u m = cF u (m + 1) + 1 ∧ lF u m = lF u (m + 1)) := cF_on u m hu (by omega) hb
        rw [hb] at gu
        clear hb
        generalize cF u (m + 1) = c at *
        generalize lF u (m + 1) = l at *
        go_wp2
        go_round
        case rel =>
          have hrel' : OwR u (.int .i64 ((c : Int) + 1)) (.int .i64 l) (.int .i64 ((m : Int) - 1)) := ⟨m, by omega, rfl, by rw [HT.out.1]; go_num, by rw [HT.out.2]⟩
          first | exact hrel' | (refine ⟨trivial, ?_⟩; (repeat apply Exists.intro); exact ⟨hrel', rfl⟩)
        case measure => first | (simp [intOf]; done) | (simp [intOf]; omega)
    · have hm00 : m = 0 := by omega
      subst hm00
      obtain ⟨ec, el⟩ := cF_end u hu
      rw [ec]
      have hcl := Bd.cnt_le u
      have HF : Hid (lF u 0 = if Bd.low u < 8 then (Bd.low u : Int) else -1) := el
      clear ec el
      generalize hC : Bd.cnt u = c at *
      have HC : Hid (Bd.cnt u = c) := hC
      clear hC
      generalize lF u 0 = F at *
      go_wp2
      apply bodyPost_ret
      focus (simp [results, Try.results43, go_sem]; rfl)
      focus rfl
      have x1 : Ext w _ := ((Ext.refl w).alloc (.cells #[.int .i64 8, .int .i64 oa, .int .i64 ob, .int .i64 oc, .string os, .string ot] 38)).alloc (.cells #[.int .i64 0, .int .i64 c, .int .i64 0, .string ⟨#[]⟩] 42)
      exact ⟨by rw [HC.out]; rfl, ⟨C, HG.out.ext x1⟩, Chg.of_ext x1⟩
set_option maxRecDepth 100000 in
set_option maxHeartbeats 2000000 in
theorem owed_putbad (w : World) (g : Nat) (C : Array Value) (u : Nat) (H : Nat → Hd) (h : Hd) (img : ByteArray) (o : Stp) (hg : GhAt w g C u H h img) (hu : u < 256) (hk : o.k = 4) (ha : in64 o.a) (hb : in64 o.b) (hgd : ∀ i, i < 8 → u.testBit i = true → Pl.good (H i) = true) (hgo : Pl.good h = false) :
    Calls Try.prog 43 #[.pointer (some ⟨g, 0, none⟩), opV o] w fun e w' => e = .returned (anV ((⟨⟨6, 0, []⟩, u, H⟩ : Out)).a) ∧ (∃ C', GhAt w' g C' ((⟨⟨6, 0, []⟩, u, H⟩ : Out)).u ((⟨⟨6, 0, []⟩, u, H⟩ : Out)).H h img) ∧ Chg [g] w w' := by
  obtain ⟨k, oa, ob, oc, os, ot⟩ := o
  simp only at hk ha hb ⊢
  subst hk
  unfold opV anV
  have hbl := lt_of_heap hg.heap
  have HG : Hid (GhAt w g C u H h img) := hg
  have gf : ∀ i, w.frozen? ⟨g, i, none⟩ = false := fun i => frozen_of hg.heap i
  have k0 : w.cell? ⟨g, 48, none⟩ = some (.int .i64 h.k) := (cell_of hg.heap _).trans hg.dk.k
  have k1 : w.cell? ⟨g, 49, none⟩ = some (.int .i64 h.d) := (cell_of hg.heap _).trans hg.dk.d
  have k2 : w.cell? ⟨g, 50, none⟩ = some (.int .i64 h.l) := (cell_of hg.heap _).trans hg.dk.l
  have k3 : w.cell? ⟨g, 51, none⟩ = some (.int .i64 h.f) := (cell_of hg.heap _).trans hg.dk.f
  have k4 : w.cell? ⟨g, 52, none⟩ = some (.int .i64 h.s) := (cell_of hg.heap _).trans hg.dk.s
  have HA : Hid (in64 oa ∧ in64 ob ∧ ∀ i, i < 8 → u.testBit i = true → Pl.good (H i) = true) := ⟨ha, hb, hgd⟩
  clear hg ha hb hgd
  go_enter Try.func43, Try.ntmps43
  go_wp2
  go_loop [5, 6, 7] (fun n f i => OwR u n f i) (fun _ _ i => (intOf i + 1).toNat)
  case atStart => exact ⟨8, by omega, rfl, by rw [(cF_8 u hu).1]; rfl, by rw [(cF_8 u hu).2]⟩
  case round =>
    obtain ⟨m, hm, rfl, rfl, rfl⟩ := hrel
    by_cases hm0 : 0 < m
    · obtain ⟨m, rfl⟩ : ∃ m', m = m' + 1 := ⟨m - 1, by omega⟩
      have gu := (HG.out.rd (n := m) (by omega)).u
      have em : (((m + 1 : Nat) : Int) - 1) = (m : Int) := by omega
      rw [em]
      have hc := cF_le u (m + 1)
      have hm8 : (m : Int) < 8 := by omega
      have hd : decide (0 ≤ (m : Int)) = true := decide_eq_true (by omega)
      cases hb : u.testBit m
      · have HT : Hid (cF u m = cF u (m + 1) ∧ lF u m = (m : Int)) := cF_off u m hu (by omega) hb
        rw [hb] at gu
        clear hb
        generalize cF u (m + 1) = c at *
        generalize lF u (m + 1) = l at *
        go_wp2
        go_round
        case rel =>
          have hrel' : OwR u (.int .i64 (c : Int)) (.int .i64 (m : Int)) (.int .i64 ((m : Int) - 1)) := ⟨m, by omega, rfl, by rw [HT.out.1], by rw [HT.out.2]⟩
          first | exact hrel' | (refine ⟨trivial, ?_⟩; (repeat apply Exists.intro); exact ⟨hrel', rfl⟩)
        case measure => first | (simp [intOf]; done) | (simp [intOf]; omega)
      · have HT : Hid (cF u m = cF u (m + 1) + 1 ∧ lF u m = lF u (m + 1)) := cF_on u m hu (by omega) hb
        rw [hb] at gu
        clear hb
        generalize cF u (m + 1) = c at *
        generalize lF u (m + 1) = l at *
        go_wp2
        go_round
        case rel =>
          have hrel' : OwR u (.int .i64 ((c : Int) + 1)) (.int .i64 l) (.int .i64 ((m : Int) - 1)) := ⟨m, by omega, rfl, by rw [HT.out.1]; go_num, by rw [HT.out.2]⟩
          first | exact hrel' | (refine ⟨trivial, ?_⟩; (repeat apply Exists.intro); exact ⟨hrel', rfl⟩)
        case measure => first | (simp [intOf]; done) | (simp [intOf]; omega)
    · have hm00 : m = 0 := by omega
      subst hm00
      obtain ⟨ec, el⟩ := cF_end u hu
      rw [ec]
      have hcl := Bd.cnt_le u
      have HF : Hid (lF u 0 = if Bd.low u < 8 then (Bd.low u : Int) else -1) := el
      clear ec el
      generalize Bd.cnt u = c at *
      generalize lF u 0 = F at *
      go_wp2_with fail
      refine (goodh_any h _).mono ?_
      rintro e w1 ⟨rfl, x1⟩
      rw [hgo]
      have z := x1.heap (heap_alloc2 w _ _)
      obtain ⟨zc, zf⟩ := res_cells z
      have z0 := zc 0
      have z1 := zc 1
      have z2 := zc 2
      have z3 := zc 3
      have X1 : Hid (Ext w w1) := (((Ext.refl w).alloc _).alloc _).trans x1
      have hx1 := X1.out
      have HR : Hid _ := lay4 z (.int .i64 6) (.int .i64 0) (.int .i64 0) (.string ⟨#[]⟩)
      clear zc z x1
      go_wp2
      obtain ⟨r0, r1, r2, r3⟩ := HR.out
      apply bodyPost_ret
      focus (simp [results, Try.results43, go_sem, r0, r1, r2, r3]; rfl)
      focus rfl
      have hn : w.heap.size ≤ w.heap.size + 1 := by omega
      have x2 := (((X1.out.setCell (p := ⟨w.heap.size + 1, 0, none⟩) hn (.int .i64 6)).setCell (p := ⟨w.heap.size + 1, 1, none⟩) hn (.int .i64 0)).setCell (p := ⟨w.heap.size + 1, 2, none⟩) hn (.int .i64 0)).setCell (p := ⟨w.heap.size + 1, 3, none⟩) hn (.string ⟨#[]⟩)
      exact ⟨rfl, ⟨C, HG.out.ext x2⟩, Chg.of_ext x2⟩
set_option maxRecDepth 100000 in
set_option maxHeartbeats 2000000 in
theorem owed_putfull (w : World) (g : Nat) (C : Array Value) (u : Nat) (H : Nat → Hd) (h : Hd) (img : ByteArray) (o : Stp) (hg : GhAt w g C u H h img) (hu : u < 256) (hk : o.k = 4) (ha : in64 o.a) (hb : in64 o.b) (hgd : ∀ i, i < 8 → u.testBit i = true → Pl.good (H i) = true) (hgo : Pl.good h = true) (hlow : ¬ Bd.low u < 8) :
    Calls Try.prog 43 #[.pointer (some ⟨g, 0, none⟩), opV o] w fun e w' => e = .returned (anV ((⟨⟨7, 0, []⟩, u, H⟩ : Out)).a) ∧ (∃ C', GhAt w' g C' ((⟨⟨7, 0, []⟩, u, H⟩ : Out)).u ((⟨⟨7, 0, []⟩, u, H⟩ : Out)).H h img) ∧ Chg [g] w w' := by
  obtain ⟨k, oa, ob, oc, os, ot⟩ := o
  simp only at hk ha hb ⊢
  subst hk
  unfold opV anV
  have hbl := lt_of_heap hg.heap
  have HG : Hid (GhAt w g C u H h img) := hg
  have gf : ∀ i, w.frozen? ⟨g, i, none⟩ = false := fun i => frozen_of hg.heap i
  have k0 : w.cell? ⟨g, 48, none⟩ = some (.int .i64 h.k) := (cell_of hg.heap _).trans hg.dk.k
  have k1 : w.cell? ⟨g, 49, none⟩ = some (.int .i64 h.d) := (cell_of hg.heap _).trans hg.dk.d
  have k2 : w.cell? ⟨g, 50, none⟩ = some (.int .i64 h.l) := (cell_of hg.heap _).trans hg.dk.l
  have k3 : w.cell? ⟨g, 51, none⟩ = some (.int .i64 h.f) := (cell_of hg.heap _).trans hg.dk.f
  have k4 : w.cell? ⟨g, 52, none⟩ = some (.int .i64 h.s) := (cell_of hg.heap _).trans hg.dk.s
  have HA : Hid (in64 oa ∧ in64 ob ∧ ∀ i, i < 8 → u.testBit i = true → Pl.good (H i) = true) := ⟨ha, hb, hgd⟩
  clear hg ha hb hgd
  go_enter Try.func43, Try.ntmps43
  go_wp2
  go_loop [5, 6, 7] (fun n f i => OwR u n f i) (fun _ _ i => (intOf i + 1).toNat)
  case atStart => exact ⟨8, by omega, rfl, by rw [(cF_8 u hu).1]; rfl, by rw [(cF_8 u hu).2]⟩
  case round =>
    obtain ⟨m, hm, rfl, rfl, rfl⟩ := hrel
    by_cases hm0 : 0 < m
    · obtain ⟨m, rfl⟩ : ∃ m', m = m' + 1 := ⟨m - 1, by omega⟩
      have gu := (HG.out.rd (n := m) (by omega)).u
      have em : (((m + 1 : Nat) : Int) - 1) = (m : Int) := by omega
      rw [em]
      have hc := cF_le u (m + 1)
      have hm8 : (m : Int) < 8 := by omega
      have hd : decide (0 ≤ (m : Int)) = true := decide_eq_true (by omega)
      cases hb : u.testBit m
      · have HT : Hid (cF u m = cF u (m + 1) ∧ lF u m = (m : Int)) := cF_off u m hu (by omega) hb
        rw [hb] at gu
        clear hb
        generalize cF u (m + 1) = c at *
        generalize lF u (m + 1) = l at *
        go_wp2
        go_round
        case rel =>
          have hrel' : OwR u (.int .i64 (c : Int)) (.int .i64 (m : Int)) (.int .i64 ((m : Int) - 1)) := ⟨m, by omega, rfl, by rw [HT.out.1], by rw [HT.out.2]⟩
          first | exact hrel' | (refine ⟨trivial, ?_⟩; (repeat apply Exists.intro); exact ⟨hrel', rfl⟩)
        case measure => first | (simp [intOf]; done) | (simp [intOf]; omega)
      · have HT : Hid (cF u m = cF u (m + 1) + 1 ∧ lF u m = lF u (m + 1)) := cF_on u m hu (by omega) hb
        rw [hb] at gu
        clear hb
        generalize cF u (m + 1) = c at *
        generalize lF u (m + 1) = l at *
        go_wp2
        go_round
        case rel =>
          have hrel' : OwR u (.int .i64 ((c : Int) + 1)) (.int .i64 l) (.int .i64 ((m : Int) - 1)) := ⟨m, by omega, rfl, by rw [HT.out.1]; go_num, by rw [HT.out.2]⟩
          first | exact hrel' | (refine ⟨trivial, ?_⟩; (repeat apply Exists.intro); exact ⟨hrel', rfl⟩)
        case measure => first | (simp [intOf]; done) | (simp [intOf]; omega)
    · have hm00 : m = 0 := by omega
      subst hm00
      obtain ⟨ec, el⟩ := cF_end u hu
      rw [ec]
      have hcl := Bd.cnt_le u
      have HF : Hid (lF u 0 = if Bd.low u < 8 then (Bd.low u : Int) else -1) := el
      clear ec el
      generalize Bd.cnt u = c at *
      rw [show lF u 0 = -1 from by rw [HF.out, if_neg hlow]]
      clear hlow
      go_wp2_with fail
      refine (goodh_any h _).mono ?_
      rintro e w1 ⟨rfl, x1⟩
      rw [hgo]
      have z := x1.heap (heap_alloc2 w _ _)
      obtain ⟨zc, zf⟩ := res_cells z
      have z0 := zc 0
      have z1 := zc 1
      have z2 := zc 2
      have z3 := zc 3
      have X1 : Hid (Ext w w1) := (((Ext.refl w).alloc _).alloc _).trans x1
      have hx1 := X1.out
      have HR : Hid _ := lay4 z (.int .i64 7) (.int .i64 0) (.int .i64 0) (.string ⟨#[]⟩)
      clear zc z x1
      go_wp2
      obtain ⟨r0, r1, r2, r3⟩ := HR.out
      apply bodyPost_ret
      focus (simp [results, Try.results43, go_sem, r0, r1, r2, r3]; rfl)
      focus rfl
      have hn : w.heap.size ≤ w.heap.size + 1 := by omega
      have x2 := (((X1.out.setCell (p := ⟨w.heap.size + 1, 0, none⟩) hn (.int .i64 7)).setCell (p := ⟨w.heap.size + 1, 1, none⟩) hn (.int .i64 0)).setCell (p := ⟨w.heap.size + 1, 2, none⟩) hn (.int .i64 0)).setCell (p := ⟨w.heap.size + 1, 3, none⟩) hn (.string ⟨#[]⟩)
      exact ⟨rfl, ⟨C, HG.out.ext x2⟩, Chg.of_ext x2⟩
set_option maxRecDepth 100000 in
set_option maxHeartbeats 2000000 in
theorem owed_putok (w : World) (g : Nat) (C : Array Value) (u : Nat) (H : Nat → Hd) (h : Hd) (img : ByteArray) (o : Stp) (hg : GhAt w g C u H h img) (hu : u < 256) (hk : o.k = 4) (ha : in64 o.a) (hb : in64 o.b) (hgd : ∀ i, i < 8 → u.testBit i = true → Pl.good (H i) = true) (hgo : Pl.good h = true) (hlow : Bd.low u < 8) :
    Calls Try.prog 43 #[.pointer (some ⟨g, 0, none⟩), opV o] w fun e w' => e = .returned (anV ((⟨⟨0, Bd.low u, []⟩, u ||| 2 ^ Bd.low u, upd H (Bd.low u) h⟩ : Out)).a) ∧ (∃ C', GhAt w' g C' ((⟨⟨0, Bd.low u, []⟩, u ||| 2 ^ Bd.low u, upd H (Bd.low u) h⟩ : Out)).u ((⟨⟨0, Bd.low u, []⟩, u ||| 2 ^ Bd.low u, upd H (Bd.low u) h⟩ : Out)).H h img) ∧ Chg [g] w w' := by
  obtain ⟨k, oa, ob, oc, os, ot⟩ := o
  simp only at hk ha hb ⊢
  subst hk
  unfold opV anV
  have hbl := lt_of_heap hg.heap
  have HG : Hid (GhAt w g C u H h img) := hg
  have gf : ∀ i, w.frozen? ⟨g, i, none⟩ = false := fun i => frozen_of hg.heap i
  have k0 : w.cell? ⟨g, 48, none⟩ = some (.int .i64 h.k) := (cell_of hg.heap _).trans hg.dk.k
  have k1 : w.cell? ⟨g, 49, none⟩ = some (.int .i64 h.d) := (cell_of hg.heap _).trans hg.dk.d
  have k2 : w.cell? ⟨g, 50, none⟩ = some (.int .i64 h.l) := (cell_of hg.heap _).trans hg.dk.l
  have k3 : w.cell? ⟨g, 51, none⟩ = some (.int .i64 h.f) := (cell_of hg.heap _).trans hg.dk.f
  have k4 : w.cell? ⟨g, 52, none⟩ = some (.int .i64 h.s) := (cell_of hg.heap _).trans hg.dk.s
  have HA : Hid (in64 oa ∧ in64 ob ∧ ∀ i, i < 8 → u.testBit i = true → Pl.good (H i) = true) := ⟨ha, hb, hgd⟩
  clear hg ha hb hgd
  go_enter Try.func43, Try.ntmps43
  go_wp2
  go_loop [5, 6, 7] (fun n f i => OwR u n f i) (fun _ _ i => (intOf i + 1).toNat)
  case atStart => exact ⟨8, by omega, rfl, by rw [(cF_8 u hu).1]; rfl, by rw [(cF_8 u hu).2]⟩
  case round =>
    obtain ⟨m, hm, rfl, rfl, rfl⟩ := hrel
    by_cases hm0 : 0 < m
    · obtain ⟨m, rfl⟩ : ∃ m', m = m' + 1 := ⟨m - 1, by omega⟩
      have gu := (HG.out.rd (n := m) (by omega)).u
      have em : (((m + 1 : Nat) : Int) - 1) = (m : Int) := by omega
      rw [em]
      have hc := cF_le u (m + 1)
      have hm8 : (m : Int) < 8 := by omega
      have hd : decide (0 ≤ (m : Int)) = true := decide_eq_true (by omega)
      cases hb : u.testBit m
      · have HT : Hid (cF u m = cF u (m + 1) ∧ lF u m = (m : Int)) := cF_off u m hu (by omega) hb
        rw [hb] at gu
        clear hb
        generalize cF u (m + 1) = c at *
        generalize lF u (m + 1) = l at *
        go_wp2
        go_round
        case rel =>
          have hrel' : OwR u (.int .i64 (c : Int)) (.int .i64 (m : Int)) (.int .i64 ((m : Int) - 1)) := ⟨m, by omega, rfl, by rw [HT.out.1], by rw [HT.out.2]⟩
          first | exact hrel' | (refine ⟨trivial, ?_⟩; (repeat apply Exists.intro); exact ⟨hrel', rfl⟩)
        case measure => first | (simp [intOf]; done) | (simp [intOf]; omega)
      · have HT : Hid (cF u m = cF u (m + 1) + 1 ∧ lF u m = lF u (m + 1)) := cF_on u m hu (by omega) hb
        rw [hb] at gu
        clear hb
        generalize cF u (m + 1) = c at *
        generalize lF u (m + 1) = l at *
        go_wp2
        go_round
        case rel =>
          have hrel' : OwR u (.int .i64 ((c : Int) + 1)) (.int .i64 l) (.int .i64 ((m : Int) - 1)) := ⟨m, by omega, rfl, by rw [HT.out.1]; go_num, by rw [HT.out.2]⟩
          first | exact hrel' | (refine ⟨trivial, ?_⟩; (repeat apply Exists.intro); exact ⟨hrel', rfl⟩)
        case measure => first | (simp [intOf]; done) | (simp [intOf]; omega)
    · have hm00 : m = 0 := by omega
      subst hm00
      obtain ⟨ec, el⟩ := cF_end u hu
      rw [ec]
      have hcl := Bd.cnt_le u
      have HF : Hid (lF u 0 = if Bd.low u < 8 then (Bd.low u : Int) else -1) := el
      clear ec el
      generalize Bd.cnt u = c at *
      rw [show lF u 0 = (Bd.low u : Int) from by rw [HF.out, if_pos hlow]]
      clear HF
      generalize hn0 : Bd.low u = n at *
      have HN : Hid (Bd.low u = n) := hn0
      clear hn0
      go_wp2_with fail
      refine (goodh_any h _).mono ?_
      rintro e w1 ⟨rfl, x1⟩
      rw [hgo]
      have z := x1.heap (heap_alloc2 w _ _)
      obtain ⟨zc, zf⟩ := res_cells z
      have z0 := zc 0
      have z1 := zc 1
      have z2 := zc 2
      have z3 := zc 3
      have X1 : Hid (Ext w w1) := (((Ext.refl w).alloc _).alloc _).trans x1
      have hx1 := X1.out
      have HR : Hid (w1.heap[w.heap.size + 1]? = some (.cells anC 42)) := z
      have g1 := HG.out.ext hx1
      have rd := g1.rd hlow
      obtain ⟨q0, q1, q2, q3, q4, q5⟩ := rd
      have f0 : ∀ i, w1.frozen? ⟨g, i, none⟩ = false := fun i => frozen_of g1.heap i
      have j0 : w1.cell? ⟨g, 48, none⟩ = some (.int .i64 h.k) := (cell_of g1.heap _).trans g1.dk.k
      have j1 : w1.cell? ⟨g, 49, none⟩ = some (.int .i64 h.d) := (cell_of g1.heap _).trans g1.dk.d
      have j2 : w1.cell? ⟨g, 50, none⟩ = some (.int .i64 h.l) := (cell_of g1.heap _).trans g1.dk.l
      have j3 : w1.cell? ⟨g, 51, none⟩ = some (.int .i64 h.f) := (cell_of g1.heap _).trans g1.dk.f
      have j4 : w1.cell? ⟨g, 52, none⟩ = some (.int .i64 h.s) := (cell_of g1.heap _).trans g1.dk.s
      have hn8 : (n : Int) < 8 := by omega
      have hdn : decide ((n : Int) < 0) = false := decide_eq_false (by omega)
      clear zc z x1 g1
      go_wp2
      go_region
      go_wp2
      have hne : w.heap.size + 1 ≠ g := by omega
      have zr : ((((((w1.setCell ⟨g, n, none⟩ (.bool true)).setCell ⟨g, 8 + n * 5, none⟩ (.int .i64 h.k)).setCell ⟨g, 8 + n * 5 + 1, none⟩ (.int .i64 h.d)).setCell ⟨g, 8 + n * 5 + 2, none⟩ (.int .i64 h.l)).setCell ⟨g, 8 + n * 5 + 3, none⟩ (.int .i64 h.f)).setCell ⟨g, 8 + n * 5 + 4, none⟩ (.int .i64 h.s)).heap[w.heap.size + 1]? = some (.cells anC 42) := by
        rw [heap_set5_ne hne h, heap_set_ne hne]; exact HR.out
      obtain ⟨r0, r1, r2, r3⟩ := lay4 zr (.int .i64 0) (.int .i64 n) (.int .i64 0) (.string ⟨#[]⟩)
      apply bodyPost_ret
      focus (simp [results, Try.results43, go_sem, r0, r1, r2, r3]; rfl)
      focus rfl
      have hn : w.heap.size ≤ w.heap.size + 1 := by omega
      have hgn : g ≠ w.heap.size + 1 := by omega
      rw [HN.out]
      have g1 := HG.out.ext X1.out
      have ga := g1.use (v := u ||| 2 ^ n) hlow true (fun i hi => by rw [Bd.add_bit]; by_cases e : i = n; (rw [if_pos e, e]; simp); (rw [if_neg e]; simp [e])) (heap_set g1.heap n _)
      have hh := heap_set5 (heap_set g1.heap n (.bool true)) (8 + n * 5) h
      have c1 := chg_set5 (b := g) (p := 8 + n * 5) (((Chg.of_ext X1.out : Chg [g] w w1).setCell (p := ⟨g, n, none⟩) (by simp) (.bool true))) (.inl (by simp)) h
      have c2 := (chg_set4 c1 (.inr hn) (.int .i64 0) (.int .i64 n) (.int .i64 0) (.string ⟨#[]⟩)).drew
      have hh2 := (heap_set4 hgn (.int .i64 0) (.int .i64 n) (.int .i64 0) (.string ⟨#[]⟩)).trans hh
      rw [← heap_drew] at hh2
      exact ⟨rfl, ⟨_, ga.hd hlow h hh2⟩, c2⟩
end Go.Proofs.Qxb6500342a
