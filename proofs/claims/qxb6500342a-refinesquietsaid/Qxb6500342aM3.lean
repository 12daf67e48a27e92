/-
  The model: Bump, Len, Put.
-/
import Derived.Test.Qxb6500342aM2
namespace Go.Proofs.Qxb6500342a
open Go.RowKit
open Go.Proofs
open Pl (Hd)
open Tx (st)
set_option linter.unusedSimpArgs false
set_option linter.unusedVariables false
attribute [local go_sem] alloc_drewN setCell_drewN shape?_drewN

set_option maxHeartbeats 2000000 in
theorem mbump_any (w : World) (m : Nat) (C : Array Value) (u : Nat) (G : Nat → Hd) (n d : Int) (h : MAt w m C u G) (hd : in64 d) (hgd : ∀ i, i < 8 → u.testBit i = true → Pl.good (G i) = true) : Calls Try.prog 66 #[.pointer (some ⟨m, 0, none⟩), .int .i64 n, .int .i64 d] w fun e w' => e = .returned (.int .i64 (atE u n)) ∧ (∃ C', MAt w' m C' u (if atE u n = 0 then upd G n.toNat (Pl.bumpH (G n.toNat) d) else G)) ∧ Chg [m] w w' := by
  have HS : Hid (MAt w m C u G ∧ ∀ i, i < 8 → u.testBit i = true → Pl.good (G i) = true) := ⟨h, hgd⟩
  have HD : Hid (in64 d) := hd
  clear h hgd hd
  go_enter Try.func66, Try.ntmps66
  go_wp2_with fail
  refine (mat_any _ m C u G n HS.out.1).mono ?_
  rintro e w1 ⟨rfl, x1⟩
  by_cases hz : atE u n = 0
  · obtain ⟨k, rfl, hk, hb⟩ := atE_zero hz
    have HE : Hid (atE u (k : Int) = 0) := hz
    have GG := (Pl.good_iff (G k)).1 (HS.out.2 k hk hb)
    rw [hz]
    have M1 := HS.out.1.ext x1
    obtain ⟨c, c0, c1, c2, c3, c4⟩ := M1.rd hk
    have HM : Hid (MAt w1 m C u G) := M1
    have hk0 : (k : Int) < 8 := by omega
    have hml := lt_of_heap M1.heap
    clear hz hb M1 c
    have HX : Hid (upd G (k : Int).toNat (Pl.bumpH (G (k : Int).toNat) d) = upd G k (Pl.bumpH (G k) d)) := by show _ = _; rw [Int.toNat_natCast]
    generalize hGk : G k = x at *
    obtain ⟨xk, xd, xl, xf, xs⟩ := x
    simp only at c0 c1 c2 c3 c4 GG
    go_wp2_with fail
    refine (wrap16 d HD.out _).mono ?_
    rintro e w2 ⟨rfl, x2⟩
    have z2 := x2.heap (heap_alloc_new w1 _)
    have M2 := (HM.out.ext ((Ext.refl w1).alloc _)).ext x2
    have X2 : Hid (MAt w2 m C u G ∧ Ext w w2 ∧ w2.heap[w1.heap.size]? = some (.cells #[.int .i64 xk, .int .i64 xd, .int .i64 xl, .int .i64 xf, .int .i64 xs] 27) ∧ w.heap.size ≤ w1.heap.size) := ⟨M2, x1.trans (((Ext.refl w1).alloc _).trans x2), z2, x1.size⟩
    have b1 : w2.cell? ⟨w1.heap.size, 1, none⟩ = some (.int .i64 xd) := cell_of z2 1
    clear z2 M2 x2 x1 c0 c1 c2 c3 c4
    have S1 : -32768 ≤ Pl.sx16 d ∧ Pl.sx16 d ≤ 32767 := by unfold Pl.sx16; omega
    have HX2 : Hid (Pl.sx16 (xd + Pl.sx16 d) = Pl.sx16 (xd + d)) := by show _ = _; unfold Pl.sx16; omega
    generalize Pl.sx16 d = D at *
    have r1 : wrap64 (xd + D) = xd + D := IntWalk.wrap64_in _ (by omega)
    go_wp2_with fail
    refine (wrap16 (xd + D) (by unfold in64; omega) _).mono ?_
    rintro e w3 ⟨rfl, x3⟩
    rw [HX2.out]
    obtain ⟨M2, x2, z2, sz2⟩ := X2.out
    have z3 := x3.heap z2
    have M3 := M2.ext x3
    have X3 : Hid (MAt w3 m C u G ∧ Ext w w3 ∧ w3.heap[w1.heap.size]? = some (.cells #[.int .i64 xk, .int .i64 xd, .int .i64 xl, .int .i64 xf, .int .i64 xs] 27) ∧ w.heap.size ≤ w1.heap.size) := ⟨M3, x2.trans x3, z3, sz2⟩
    have a1 : w3.cell? ⟨w1.heap.size, 1, none⟩ = some (.int .i64 xd) := cell_of z3 1
    have a2 : w3.cell? ⟨w1.heap.size, 2, none⟩ = some (.int .i64 xl) := cell_of z3 2
    have af := frozen_of z3
    have r2 : wrap64 (xl + 1) = xl + 1 := IntWalk.wrap64_in _ (by omega)
    clear M2 x2 z2 z3 M3 x3 b1 r1 HX2 S1
    generalize hEE : Pl.sx16 (xd + d) = E at *
    go_wp2_with fail
    refine (clamp16 (xl + 1) (by omega) _).mono ?_
    rintro e w4 ⟨rfl, x4⟩
    obtain ⟨M3, x3, z3, sz3⟩ := X3.out
    have z4 := x4.heap (heap_set z3 1 _)
    clear a1 a2 af
    have hne : m ≠ w1.heap.size := by omega
    have M4 : MAt w4 m C u G := ⟨x4.heap (by rw [heap_set_ne hne]; exact M3.heap), M3.size, M3.gi⟩
    have X4 : Hid (MAt w4 m C u G ∧ Ext w w4 ∧ w.heap.size ≤ w1.heap.size) := ⟨M4, (x3.setCell (p := ⟨w1.heap.size, 1, none⟩) sz3 _).trans x4, sz3⟩
    have a0 : w4.cell? ⟨w1.heap.size, 0, none⟩ = some (.int .i64 xk) := cell_of z4 0
    have a1 : w4.cell? ⟨w1.heap.size, 1, none⟩ = some (.int .i64 E) := cell_of z4 1
    have a2 : w4.cell? ⟨w1.heap.size, 2, none⟩ = some (.int .i64 xl) := cell_of z4 2
    have a3 : w4.cell? ⟨w1.heap.size, 3, none⟩ = some (.int .i64 xf) := cell_of z4 3
    have a4 : w4.cell? ⟨w1.heap.size, 4, none⟩ = some (.int .i64 xs) := cell_of z4 4
    have af := frozen_of z4
    obtain ⟨c, c0, c1, c2, c3, c4⟩ := M4.rd hk
    rw [hGk] at c0 c1 c2 c3 c4
    simp only at c0 c1 c2 c3 c4
    have cf := frozen_of M4.heap
    have hm4 := lt_of_heap M4.heap
    have r5 : wrap64 (xs + 1) = xs + 1 := IntWalk.wrap64_in _ (by omega)
    have r6 : wrap64 (xf + 1) = xf + 1 := IntWalk.wrap64_in _ (by omega)
    clear M3 x3 z3 sz3 z4 M4 x4 r2 X3 X2 HM
    generalize hL : (if xl + 1 ≤ 65535 then xl + 1 else 65535) = L at *
    have HGk : Hid (G k = ⟨xk, xd, xl, xf, xs⟩) := hGk
    clear hGk
    go_wp2
    go_region
    go_wp2
    go_ret
    obtain ⟨M4, x4, sz4⟩ := X4.out
    have e5 : Pl.bumpH (G k) d = ⟨xk, E, L, xf + 1 - 2 * (xf % 2), (xs + 1) % 2048⟩ := by
      rw [HGk.out]
      unfold Pl.bumpH
      simp only
      rw [hEE, Hd.mk.injEq]
      refine ⟨rfl, rfl, ?_, ?_, rfl⟩
      · rw [← hL]
        split <;> split <;> omega
      · split <;> omega
    rw [e5]
    have ha : (((w4.setCell ⟨w1.heap.size, 2, none⟩ (.int .i64 L)).setCell ⟨w1.heap.size, 4, none⟩ (.int .i64 ((xs + 1) % 2048))).setCell ⟨w1.heap.size, 3, none⟩ (.int .i64 (xf + 1 - 2 * (xf % 2)))).heap[m]? = some (.cells C 96) := by
      rw [heap_set_ne hne, heap_set_ne hne, heap_set_ne hne]
      exact M4.heap
    have hM : MAt (((w4.setCell ⟨w1.heap.size, 2, none⟩ (.int .i64 L)).setCell ⟨w1.heap.size, 4, none⟩ (.int .i64 ((xs + 1) % 2048))).setCell ⟨w1.heap.size, 3, none⟩ (.int .i64 (xf + 1 - 2 * (xf % 2)))) m C u G := ⟨ha, M4.size, M4.gi⟩
    refine ⟨rfl, ⟨_, (hM.hd hk ⟨xk, E, L, xf + 1 - 2 * (xf % 2), (xs + 1) % 2048⟩ (heap_set5 ha (8 + k * 5) _)).ext (Ext.refl _).drew⟩, ?_⟩
    exact (chg_set5 ((((Chg.of_ext x4).setCell (.inr sz4) _).setCell (.inr sz4) _).setCell (.inr sz4) _) (by simp) ⟨xk, E, L, xf + 1 - 2 * (xf % 2), (xs + 1) % 2048⟩).drew
  · have hn0 : (atE u n != 0) = true := by rw [bne_iff_ne]; exact hz
    have HE : Hid (¬ atE u n = 0) := hz
    clear hz
    go_wp2
    go_ret
    refine ⟨rfl, ?_, Chg.of_ext x1⟩
    (try rw [if_neg HE.out])
    exact ⟨C, HS.out.1.ext x1⟩
set_option maxHeartbeats 1000000 in
theorem mlen_any (w : World) (m : Nat) (C : Array Value) (u : Nat) (G : Nat → Hd) (h : MAt w m C u G) : Calls Try.prog 67 #[.pointer (some ⟨m, 0, none⟩)] w fun e w' => e = .returned (.int .i64 (Bd.cnt u)) ∧ Ext w w' := by
  have HS : Hid (MAt w m C u G) := h
  clear h
  go_enter Try.func67, Try.ntmps67
  go_wp2
  go_loop [3, 4] (fun n i => ∃ k : Nat, k ≤ 8 ∧ i = .int .i64 k ∧ n = .int .i64 (cTo u k : Nat)) (fun _ i => 8 - (intOf i).toNat)
  case atStart => exact ⟨0, by omega, rfl, rfl⟩
  case round =>
    obtain ⟨k, hk, rfl, rfl⟩ := hrel
    by_cases hlt : k < 8
    · have gu := (HS.out.rd hlt).u
      have hk0 : (k : Int) < 8 := by omega
      have hd : decide ((k : Int) < 8) = true := decide_eq_true hk0
      have hc := cTo_le u k
      cases hb : u.testBit k
      · have HT : Hid (cTo u (k + 1) = cTo u k) := cTo_off u k hb
        rw [hb] at gu
        clear hb
        generalize cTo u k = c at *
        go_wp2
        go_round
        case rel =>
          have hrel' : ∃ k' : Nat, k' ≤ 8 ∧ (Value.int .i64 ((k : Int) + 1)) = .int .i64 k' ∧ (Value.int .i64 (c : Int)) = .int .i64 (cTo u k' : Nat) := ⟨k + 1, by omega, by go_num, by rw [HT.out]⟩
          first | exact hrel' | (refine ⟨trivial, ?_⟩; (repeat apply Exists.intro); exact ⟨hrel', rfl⟩)
        case measure => simp [intOf]; omega
      · have HT : Hid (cTo u (k + 1) = cTo u k + 1) := cTo_on u k hb
        rw [hb] at gu
        clear hb
        generalize cTo u k = c at *
        go_wp2
        go_round
        case rel =>
          have hrel' : ∃ k' : Nat, k' ≤ 8 ∧ (Value.int .i64 ((k : Int) + 1)) = .int .i64 k' ∧ (Value.int .i64 ((c : Int) + 1)) = .int .i64 (cTo u k' : Nat) := ⟨k + 1, by omega, by go_num, by rw [HT.out]; go_num⟩
          first | exact hrel' | (refine ⟨trivial, ?_⟩; (repeat apply Exists.intro); exact ⟨hrel', rfl⟩)
        case measure => simp [intOf]; omega
    · have hk8 : k = 8 := by omega
      subst hk8
      go_wp2
      go_ret
      exact ⟨rfl, Ext.refl _⟩
set_option maxHeartbeats 2000000 in
theorem mput_any (w : World) (m : Nat) (C : Array Value) (u : Nat) (G : Nat → Hd) (h : Hd) (hm : MAt w m C u G) (hu : u < 256) : Calls Try.prog 63 #[.pointer (some ⟨m, 0, none⟩), hdV h] w fun e w' => e = .returned (.tuple #[.int .i64 (sPut u G h).a.n, .int .i64 (sPut u G h).a.e]) ∧ (∃ C', MAt w' m C' (sPut u G h).u (sPut u G h).H) ∧ Chg [m] w w' := by
  have HS : Hid (MAt w m C u G) := hm
  have hml := lt_of_heap hm.heap
  clear hm
  unfold hdV
  go_enter Try.func63, Try.ntmps63
  go_wp2_with fail
  refine (goodh_any h _).mono ?_
  rintro e w1 ⟨rfl, x1⟩
  have z0 := x1.heap (heap_alloc_new w _)
  have x01 := ((Ext.refl w).alloc _).trans x1
  have HX : Hid (MAt w1 m C u G ∧ Ext w w1) := ⟨HS.out.ext x01, x01⟩
  have r0 : w1.cell? ⟨w.heap.size, 0, none⟩ = some (.int .i64 h.k) := cell_of z0 0
  have r1 : w1.cell? ⟨w.heap.size, 1, none⟩ = some (.int .i64 h.d) := cell_of z0 1
  have r2 : w1.cell? ⟨w.heap.size, 2, none⟩ = some (.int .i64 h.l) := cell_of z0 2
  have r3 : w1.cell? ⟨w.heap.size, 3, none⟩ = some (.int .i64 h.f) := cell_of z0 3
  have r4 : w1.cell? ⟨w.heap.size, 4, none⟩ = some (.int .i64 h.s) := cell_of z0 4
  clear z0 x1 x01
  cases hg : Pl.good h
  · have HE : Hid (sPut u G h = ⟨⟨6, 0, []⟩, u, G⟩) := by show _ = _; simp [sPut, hg]
    clear hg
    go_wp2
    go_ret2
    rw [HE.out]
    exact ⟨rfl, ⟨C, HX.out.1⟩, Chg.of_ext HX.out.2⟩
  · have HG : Hid (Pl.good h = true) := hg
    clear hg
    go_wp2
    go_loop [6] (fun i => ∃ k : Nat, k ≤ 8 ∧ i = .int .i64 k ∧ ∀ j, j < k → u.testBit j = true) (fun i => 8 - (intOf i).toNat)
    case atStart => exact ⟨0, by omega, rfl, fun j hj => by omega⟩
    case round =>
      obtain ⟨k, hk, rfl, hall⟩ := hrel
      have HA : Hid (∀ j, j < k → u.testBit j = true) := hall
      clear hall
      by_cases hlt : k < 8
      · obtain ⟨gu, g0, g1, g2, g3, g4⟩ := HX.out.1.rd hlt
        have gf := frozen_of HX.out.1.heap
        have hk0 : (k : Int) < 8 := by omega
        have hd : decide ((k : Int) < 8) = true := decide_eq_true hk0
        cases hb : u.testBit k
        · have HE : Hid (sPut u G h = ⟨⟨0, k, []⟩, u ||| 2 ^ k, upd G k h⟩) := by
            have hl := low_at hu hlt HA.out hb
            show _ = _
            unfold sPut
            rw [if_pos HG.out, hl, if_pos hlt]
          rw [hb] at gu
          clear hb
          have n1 : ¬ (8 + k * 5 = k) := by omega
          have n2 : ¬ (w.heap.size = m) := by omega
          have n3 : ¬ (m = w.heap.size) := by omega
          go_wp2
          go_region
          go_wp2
          go_ret2
          rw [HE.out]
          have a := HX.out.1.use hlt true (addB_bit hu hlt) (w' := w1.setCell ⟨m, k, none⟩ (.bool true)) (heap_set HX.out.1.heap _ _)
          refine ⟨rfl, ⟨_, (a.hd hlt h (heap_set5 a.heap (8 + k * 5) h)).ext (Ext.refl _).drew⟩, ?_⟩
          exact (chg_set5 ((Chg.of_ext HX.out.2).setCell (by simp) _) (by simp) h).drew
        · have HB : Hid (u.testBit k = true) := hb
          rw [hb] at gu
          clear hb
          go_wp2
          go_round
          case rel =>
            have hrel' : ∃ k' : Nat, k' ≤ 8 ∧ (Value.int .i64 ((k : Int) + 1)) = .int .i64 k' ∧ ∀ j, j < k' → u.testBit j = true := ⟨k + 1, by omega, by go_num, fun j hj => by
              by_cases e : j = k
              · subst e; exact HB.out
              · exact HA.out j (by omega)⟩
            first | exact hrel' | (refine ⟨trivial, ?_⟩; (repeat apply Exists.intro); exact ⟨hrel', rfl⟩)
          case measure => simp [intOf]; omega
      · have hk8 : k = 8 := by omega
        subst hk8
        have HE : Hid (sPut u G h = ⟨⟨7, 0, []⟩, u, G⟩) := by
          show _ = _
          unfold sPut
          rw [if_pos HG.out, if_neg (low_full hu HA.out)]
        go_wp2
        go_ret2
        rw [HE.out]
        exact ⟨rfl, ⟨C, HX.out.1⟩, Chg.of_ext HX.out.2⟩
end Go.Proofs.Qxb6500342a
