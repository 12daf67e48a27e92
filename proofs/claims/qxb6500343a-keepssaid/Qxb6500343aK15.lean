/-
  Walks of Keeps 15: KeepsUpTo.
-/
import Derived.Test.Qxb6500343aK14
namespace Go.Proofs.Qxb6500343a
open Go.RowKit
open Go.Proofs
open Ieee (Datum)
open Fl
open Tx (st)
open Ff (in64)
set_option linter.unusedSimpArgs false
set_option linter.unusedVariables false
attribute [local go_sem] run_fadd run_fsub run_fmul run_fquo run_store_float alloc_drewN setCell_drewN shape?_drewN tape_alloc drawn_alloc tape_setCell drawn_setCell drawn_drewN drawn_drew run_fneg

theorem Mst.h0 {w W : World} {kept : List (Nat × Array Value × TypeId)} {i : BId} {h : HId} {xs ys us vs : List Datum} {b : Nat} {c : Array Value} {t : TypeId} (m : Mst w W ((b, c, t) :: kept) i h xs ys us vs) : W.heap[b]? = some (.cells c t) := (m.kp _ List.mem_cons_self).1
def KpR (w : World) (len ib px Lx py Ly mx my b3 b4 : Nat) (v : Value) (wr : World) : Prop :=
  ∃ (k : Nat) (vx vy : Value) (xs ys : List Datum), k ≤ len ∧ v = .int .i64 k ∧ Pl.Rat xs ∧ Pl.Rat ys ∧ Mst w wr [(b3, #[.pointer (some ⟨px, 0, none⟩), .pointer (some ⟨py, 0, none⟩)], 27), (b4, #[.pointer (some ⟨mx, 0, none⟩), .pointer (some ⟨my, 0, none⟩)], 42)] ⟨ib, px, Lx, py, Ly⟩ ⟨mx, my, vx, vy⟩ xs ys xs ys
set_option maxRecDepth 100000 in
set_option maxHeartbeats 16000000 in
theorem upto_any (w : World) (x : Option Addr) (len cap : Nat) (hs : Scr w x len) : Calls Try.prog 7 #[.slice x len cap] w fun e w' => e = .returned (.int .i64 (-1)) ∧ Ext w w' := by
  have HS : Hid (Scr w x len) := hs
  have hlen : len ≤ 9223372036854775807 := by rcases hs with h | ⟨_, _, _, _, h, _⟩ <;> omega
  clear hs
  go_enter Try.func7, Try.ntmps7
  go_wp2_with fail
  refine (ground_any _).mono ?_
  rintro e w1 ⟨px, Lx, py, Ly, rfl, hs1, hs2, hnd, hk, hx1⟩
  have HK : Hid (SerAt w1 px Lx [] ∧ SerAt w1 py Ly [] ∧ [px, Lx, py, Ly].Nodup ∧ (∀ k, k ∈ [px, Lx, py, Ly] → w.heap.size ≤ k ∧ k < w1.heap.size) ∧ Ext w w1) := ⟨hs1, hs2, hnd, hk, hx1⟩
  clear hs1 hs2 hnd hk hx1
  go_wp2_with fail
  have xa : Ext w1 (w1.alloc (.cells #[.pointer (some ⟨px, 0, none⟩), .pointer (some ⟨py, 0, none⟩)] 27)) := (Ext.refl w1).alloc _
  have sz1 : (w1.alloc (.cells #[.pointer (some ⟨px, 0, none⟩), .pointer (some ⟨py, 0, none⟩)] 27)).heap.size = w1.heap.size + 1 := World.size_alloc _ _
  have hB : w.heap.size ≤ (w1.alloc (.cells #[.pointer (some ⟨px, 0, none⟩), .pointer (some ⟨py, 0, none⟩)] 27)).heap.size := by have := HK.out.2.2.2.2.size; omega
  refine (mine_any _ w.heap.size hB).mono ?_
  rintro e w2 ⟨mx, my, rfl, sm1, sm2, hmm, hm1, hm2, hm3, hm4, hx2⟩
  rw [sz1] at hm1 hm2
  have H2 : Hid (SmAt w2 w.heap.size mx (.slice none 0 0) [] ∧ SmAt w2 w.heap.size my (.slice none 0 0) [] ∧ mx ≠ my ∧ w1.heap.size < mx ∧ w1.heap.size < my ∧ mx < w2.heap.size ∧ my < w2.heap.size ∧ Ext w1 w2 ∧ w2.heap[w1.heap.size]? = some (.cells #[.pointer (some ⟨px, 0, none⟩), .pointer (some ⟨py, 0, none⟩)] 27)) :=
    ⟨sm1, sm2, hmm, by omega, by omega, hm3, hm4, xa.trans hx2, hx2.heap (heap_alloc_new w1 _)⟩
  clear sm1 sm2 hmm hm1 hm2 hm3 hm4 hx2 xa sz1 hB
  obtain ⟨b3, hb3⟩ : ∃ b3, b3 = w1.heap.size := ⟨_, rfl⟩
  rw [← hb3]
  have HB3 : Hid (b3 = w1.heap.size) := hb3
  clear hb3
  have g0 : w2.cell? ⟨b3, 0, none⟩ = some (.pointer (some ⟨px, 0, none⟩)) := by rw [HB3.out]; exact cell_of H2.out.2.2.2.2.2.2.2.2 0
  have g1 : w2.cell? ⟨b3, 1, none⟩ = some (.pointer (some ⟨py, 0, none⟩)) := by rw [HB3.out]; exact cell_of H2.out.2.2.2.2.2.2.2.2 1
  have hb3l : b3 < w2.heap.size := by rw [HB3.out]; exact lt_of_heap H2.out.2.2.2.2.2.2.2.2
  go_wp2_with fail
  obtain ⟨W2, hW2⟩ : ∃ W2, W2 = w2.alloc (.cells #[.pointer (some ⟨mx, 0, none⟩), .pointer (some ⟨my, 0, none⟩)] 42) := ⟨_, rfl⟩
  rw [← hW2]
  refine (mark_any _ _ W2).mono ?_
  rintro e w3 ⟨rfl, x3⟩
  obtain ⟨b4, hb4⟩ : ∃ b4, b4 = w2.heap.size := ⟨_, rfl⟩
  rw [← hb4]
  have H3 : Hid (Ext w2 w3 ∧ w3.heap[b4]? = some (.cells #[.pointer (some ⟨mx, 0, none⟩), .pointer (some ⟨my, 0, none⟩)] 42) ∧ b4 = w2.heap.size) := by
    rw [hW2] at x3
    exact ⟨((Ext.refl w2).alloc _).trans x3, by rw [hb4]; exact x3.heap (heap_alloc_new w2 _), hb4⟩
  clear hW2 hb4 x3 g0 g1
  have q0 : w3.cell? ⟨b3, 0, none⟩ = some (.pointer (some ⟨px, 0, none⟩)) := by rw [HB3.out]; exact cell_of (H3.out.1.heap H2.out.2.2.2.2.2.2.2.2) 0
  have q1 : w3.cell? ⟨b3, 1, none⟩ = some (.pointer (some ⟨py, 0, none⟩)) := by rw [HB3.out]; exact cell_of (H3.out.1.heap H2.out.2.2.2.2.2.2.2.2) 1
  go_wp2_with fail
  refine (bnew_any w3 px py).mono ?_
  rintro e w4 ⟨rfl, hb4', hx4⟩
  obtain ⟨ib, hib⟩ : ∃ ib, ib = w3.heap.size := ⟨_, rfl⟩
  rw [← hib] at hb4' ⊢
  have H4 : Hid (Mst w w4 [(b3, #[.pointer (some ⟨px, 0, none⟩), .pointer (some ⟨py, 0, none⟩)], 27), (b4, #[.pointer (some ⟨mx, 0, none⟩), .pointer (some ⟨my, 0, none⟩)], 42)] ⟨ib, px, Lx, py, Ly⟩ ⟨mx, my, .slice none 0 0, .slice none 0 0⟩ [] [] [] []) := by
    obtain ⟨h1, h2, h3, h4, h5⟩ := HK.out
    obtain ⟨m1, m2, m3, m4, m5, m6, m7, m8, m9⟩ := H2.out
    obtain ⟨r1, r2, r3⟩ := H3.out
    have a1 := h4 px (by simp)
    have a2 := h4 Lx (by simp)
    have a3 := h4 py (by simp)
    have a4 := h4 Ly (by simp)
    have e3 := HB3.out
    have s1 := h5.size
    have s2 := m8.size
    have s3 := r1.size
    have s4 := hx4.size
    have l3 := lt_of_heap r2
    have hall : (HId.mk mx my (.slice none 0 0) (.slice none 0 0)).all = [mx, my] := by simp [HId.all, blk, Value.ownBlock]
    refine ⟨⟨hb4', (((h1.ext m8).ext r1).ext hx4), (((h2.ext m8).ext r1).ext hx4), rfl, ?_⟩, ⟨(m1.ext r1).ext hx4, (m2.ext r1).ext hx4, rfl, m3, by simp [blk, Value.ownBlock], by simp [blk, Value.ownBlock], by simp [blk, Value.ownBlock]⟩, ?_, ?_, ((h5.trans m8).trans r1).trans hx4, ?_⟩
    · simp [BId.all] at h3 ⊢; omega
    · intro k hk; rw [hall]; simp [BId.all] at hk ⊢; omega
    · intro t ht
      rw [hall]
      simp only [List.mem_cons, List.not_mem_nil, or_false] at ht
      rcases ht with rfl | rfl
      · refine ⟨?_, ?_, ?_⟩
        · show w4.heap[b3]? = _
          rw [e3]; exact hx4.heap (r1.heap m9)
        · simp [BId.all]; omega
        · simp; omega
      · refine ⟨hx4.heap r2, ?_, ?_⟩
        · simp [BId.all]; omega
        · simp; omega
    · intro k hk; simp [BId.all] at hk; omega
  have z0 : w4.cell? ⟨b3, 0, none⟩ = some (.pointer (some ⟨px, 0, none⟩)) := cell_of H4.out.h0 0
  have z1 : w4.cell? ⟨b3, 1, none⟩ = some (.pointer (some ⟨py, 0, none⟩)) := cell_of H4.out.h0 1
  clear hb4' hx4 hib q0 q1 HK H2 H3 HB3 hb3l
  go_wp2_with fail
  refine (asks_any _ _ w4).mono ?_
  rintro e w5 ⟨rfl, x5⟩
  have H5 : Hid _ := H4.out.up x5
  clear x5 z0 z1 H4
  go_wp2_with fail
  refine (work_any 0 0 w5).mono ?_
  rintro e w6 ⟨rfl, hw6⟩
  subst hw6
  go_wp2
  go_loopw [7] (fun v wr => KpR w len ib px Lx py Ly mx my b3 b4 v wr) (fun v _ => len - (intOf v).toNat)
  case atStart => exact ⟨0, _, _, [], [], by omega, rfl, Pl.Rat.nil, Pl.Rat.nil, H5.out⟩
  case round =>
    obtain ⟨k, vx, vy, xs, ys, hk, rfl, rx, ry, hM⟩ := hrel
    have HM : Hid _ := hM
    have HR : Hid (Pl.Rat xs ∧ Pl.Rat ys) := ⟨rx, ry⟩
    clear hM rx ry H5
    by_cases hlt : k < len
    · have hk0 : (k : Int) < (len : Int) := by omega
      have hd : decide ((k : Int) < (len : Int)) = true := decide_eq_true hk0
      by_cases hmx : k < 4398046511104
      · have hd2 : decide ((k : Int) < 4398046511104) = true := decide_eq_true (by omega)
        obtain ⟨B, off, hx, hB, hop⟩ : ∃ B off, x = some ⟨B, off, none⟩ ∧ B < w.heap.size ∧ ∀ i, i < len → ∃ o, OpAt w B (off + i * 6) o := by
          rcases HS.out with h0 | ⟨B, off, h1, h2, _, h3⟩
          · omega
          · exact ⟨B, off, h1, h2, h3⟩
        subst hx
        obtain ⟨⟨ok, oa, ob, oc, os, ot⟩, ho⟩ := hop k hlt
        replace ho := ho.ext HM.out.ext hB
        obtain ⟨o0, o1, o2, o3, o4, o5, oia, oib, oic⟩ := ho
        simp only at o0 o1 o2 o3 o4 o5 oia oib oic
        have HO : Hid (in64 oa ∧ in64 ob ∧ in64 oc) := ⟨oia, oib, oic⟩
        clear hop oia oib oic
        obtain ⟨S, hS⟩ : ∃ S, S = bstep xs ys ⟨ok, oa, ob, oc, os, ot⟩ := ⟨_, rfl⟩
        have HST : Hid (S = bstep xs ys ⟨ok, oa, ob, oc, os, ot⟩) := hS
        clear hS
        have ya0 : wr.cell? ⟨b3, 0, none⟩ = some (.pointer (some ⟨px, 0, none⟩)) := cell_of HM.out.h0 0
        have ya1 : wr.cell? ⟨b3, 1, none⟩ = some (.pointer (some ⟨py, 0, none⟩)) := cell_of HM.out.h0 1
        have yla : b3 < wr.heap.size := lt_of_heap HM.out.h0
        have HRT : Hid (Pl.Rat S.xs ∧ Pl.Rat S.ys) := by
          have := rat_step (o := ⟨ok, oa, ob, oc, os, ot⟩) HR.out.1 HR.out.2 HO.out.1 HO.out.2.1 HO.out.2.2
          rw [← HST.out] at this
          exact this
        go_wp2_with fail
        obtain ⟨W1, hW1⟩ : ∃ W1, W1 = wr.alloc (.cells #[.int .i64 ok, .int .i64 oa, .int .i64 ob, .int .i64 oc, .string os, .string ot] 48) := ⟨_, rfl⟩
        rw [← hW1]
        obtain ⟨po, hpo⟩ : ∃ po, po = wr.heap.size := ⟨_, rfl⟩
        rw [← hpo]
        have M1 : Hid (Mst w W1 ((po, #[.int .i64 ok, .int .i64 oa, .int .i64 ob, .int .i64 oc, .string os, .string ot], 48) :: [(b3, #[.pointer (some ⟨px, 0, none⟩), .pointer (some ⟨py, 0, none⟩)], 27), (b4, #[.pointer (some ⟨mx, 0, none⟩), .pointer (some ⟨my, 0, none⟩)], 42)]) ⟨ib, px, Lx, py, Ly⟩ ⟨mx, my, vx, vy⟩ xs ys xs ys) := by
          rw [hW1, hpo]
          exact HM.out.push _ _
        clear hW1 hpo o0 o1 o2 o3 o4 o5 ya0 ya1 yla HM
        refine (mark_any _ _ W1).mono ?_
        rintro e w7 ⟨rfl, x7⟩
        have M2 : Hid _ := M1.out.up x7
        clear x7 M1
        have tb0 : w7.cell? ⟨po, 0, none⟩ = some (.int .i64 ok) := cell_of M2.out.h0 0
        have tb1 : w7.cell? ⟨po, 1, none⟩ = some (.int .i64 oa) := cell_of M2.out.h0 1
        have tb2 : w7.cell? ⟨po, 2, none⟩ = some (.int .i64 ob) := cell_of M2.out.h0 2
        have tb3 : w7.cell? ⟨po, 3, none⟩ = some (.int .i64 oc) := cell_of M2.out.h0 3
        have tb4 : w7.cell? ⟨po, 4, none⟩ = some (.string os) := cell_of M2.out.h0 4
        have tb5 : w7.cell? ⟨po, 5, none⟩ = some (.string ot) := cell_of M2.out.h0 5
        go_wp2_with fail
        have HD := do_any w7 ⟨ib, px, Lx, py, Ly⟩ xs ys ⟨ok, oa, ob, oc, os, ot⟩ M2.out.b HR.out.1 HR.out.2 HO.out.1 HO.out.2.1 HO.out.2.2
        rw [← HST.out] at HD
        unfold opV ans at HD
        refine HD.mono ?_
        rintro e w8 ⟨rfl, r8⟩
        have M3 : Hid (Mst w w8 ((po, #[.int .i64 ok, .int .i64 oa, .int .i64 ob, .int .i64 oc, .string os, .string ot], 48) :: [(b3, #[.pointer (some ⟨px, 0, none⟩), .pointer (some ⟨py, 0, none⟩)], 27), (b4, #[.pointer (some ⟨mx, 0, none⟩), .pointer (some ⟨my, 0, none⟩)], 42)]) ⟨ib, px, Lx, py, Ly⟩ ⟨mx, my, vx, vy⟩ S.xs S.ys xs ys) := M2.out.step r8
        clear HD r8 tb0 tb1 tb2 tb3 tb4 tb5 M2
        have yc0 : w8.cell? ⟨b3, 0, none⟩ = some (.pointer (some ⟨px, 0, none⟩)) := cell_of M3.out.drop.h0 0
        have yc1 : w8.cell? ⟨b3, 1, none⟩ = some (.pointer (some ⟨py, 0, none⟩)) := cell_of M3.out.drop.h0 1
        have ylc : b3 < w8.heap.size := lt_of_heap M3.out.drop.h0
        go_wp2_with fail
        obtain ⟨W3, hW3⟩ : ∃ W3, W3 = w8.alloc (.cells #[.int .i64 S.e, .int .i64 S.n, .int .i64 0, .string (st S.s)] 50) := ⟨_, rfl⟩
        rw [← hW3]
        obtain ⟨pa, hpa⟩ : ∃ pa, pa = w8.heap.size := ⟨_, rfl⟩
        rw [← hpa]
        have M4 : Hid (Mst w W3 ((pa, #[.int .i64 S.e, .int .i64 S.n, .int .i64 0, .string (st S.s)], 50) :: (po, #[.int .i64 ok, .int .i64 oa, .int .i64 ob, .int .i64 oc, .string os, .string ot], 48) :: [(b3, #[.pointer (some ⟨px, 0, none⟩), .pointer (some ⟨py, 0, none⟩)], 27), (b4, #[.pointer (some ⟨mx, 0, none⟩), .pointer (some ⟨my, 0, none⟩)], 42)]) ⟨ib, px, Lx, py, Ly⟩ ⟨mx, my, vx, vy⟩ S.xs S.ys xs ys) := by
          rw [hW3, hpa]
          exact M3.out.push _ _
        clear hW3 hpa yc0 yc1 ylc M3
        refine (asks_any _ _ W3).mono ?_
        rintro e w9 ⟨rfl, x9⟩
        have M5 : Hid _ := M4.out.up x9
        clear x9 M4
        have td0 : w9.cell? ⟨po, 0, none⟩ = some (.int .i64 ok) := cell_of M5.out.drop.h0 0
        have td1 : w9.cell? ⟨po, 1, none⟩ = some (.int .i64 oa) := cell_of M5.out.drop.h0 1
        have td2 : w9.cell? ⟨po, 2, none⟩ = some (.int .i64 ob) := cell_of M5.out.drop.h0 2
        have td3 : w9.cell? ⟨po, 3, none⟩ = some (.int .i64 oc) := cell_of M5.out.drop.h0 3
        have td4 : w9.cell? ⟨po, 4, none⟩ = some (.string os) := cell_of M5.out.drop.h0 4
        have td5 : w9.cell? ⟨po, 5, none⟩ = some (.string ot) := cell_of M5.out.drop.h0 5
        have vd0 : w9.cell? ⟨pa, 0, none⟩ = some (.int .i64 S.e) := cell_of M5.out.h0 0
        have vd1 : w9.cell? ⟨pa, 1, none⟩ = some (.int .i64 S.n) := cell_of M5.out.h0 1
        have vd2 : w9.cell? ⟨pa, 2, none⟩ = some (.int .i64 0) := cell_of M5.out.h0 2
        have vd3 : w9.cell? ⟨pa, 3, none⟩ = some (.string (st S.s)) := cell_of M5.out.h0 3
        have ud0 : w9.cell? ⟨b4, 0, none⟩ = some (.pointer (some ⟨mx, 0, none⟩)) := cell_of M5.out.drop.drop.drop.h0 0
        have ud1 : w9.cell? ⟨b4, 1, none⟩ = some (.pointer (some ⟨my, 0, none⟩)) := cell_of M5.out.drop.drop.drop.h0 1
        go_wp2_with fail
        refine (work_any ok S.e w9).mono ?_
        rintro e w10 ⟨rfl, hw10⟩
        subst hw10
        go_wp2_with fail
        have HNt := note_any w10 w.heap.size ⟨mx, my, vx, vy⟩ xs ys ⟨ok, oa, ob, oc, os, ot⟩ M5.out.p
        rw [← HST.out] at HNt
        unfold opV ans at HNt
        refine HNt.mono ?_
        rintro e w11 ⟨rfl, n11⟩
        obtain ⟨vx', vy', m6⟩ := M5.out.note n11
        have M6 : Hid (Mst w w11 ((pa, #[.int .i64 S.e, .int .i64 S.n, .int .i64 0, .string (st S.s)], 50) :: (po, #[.int .i64 ok, .int .i64 oa, .int .i64 ob, .int .i64 oc, .string os, .string ot], 48) :: [(b3, #[.pointer (some ⟨px, 0, none⟩), .pointer (some ⟨py, 0, none⟩)], 27), (b4, #[.pointer (some ⟨mx, 0, none⟩), .pointer (some ⟨my, 0, none⟩)], 42)]) ⟨ib, px, Lx, py, Ly⟩ ⟨mx, my, vx', vy'⟩ S.xs S.ys S.xs S.ys) := m6
        clear HNt n11 m6 td0 td1 td2 td3 td4 td5 vd0 vd1 vd2 vd3 ud0 ud1 M5
        have ye0 : w11.cell? ⟨b3, 0, none⟩ = some (.pointer (some ⟨px, 0, none⟩)) := cell_of M6.out.drop.drop.h0 0
        have ye1 : w11.cell? ⟨b3, 1, none⟩ = some (.pointer (some ⟨py, 0, none⟩)) := cell_of M6.out.drop.drop.h0 1
        have yle : b3 < w11.heap.size := lt_of_heap M6.out.drop.drop.h0
        have ue0 : w11.cell? ⟨b4, 0, none⟩ = some (.pointer (some ⟨mx, 0, none⟩)) := cell_of M6.out.drop.drop.drop.h0 0
        have ue1 : w11.cell? ⟨b4, 1, none⟩ = some (.pointer (some ⟨my, 0, none⟩)) := cell_of M6.out.drop.drop.drop.h0 1
        go_wp2_with fail
        refine (handed_any w11 w.heap.size ⟨ib, px, Lx, py, Ly⟩ ⟨mx, my, vx', vy'⟩ S.xs S.ys M6.out.b M6.out.p M6.out.dis).mono ?_
        rintro e w12 ⟨rfl, c1, c2, c3⟩
        have M7 : Hid _ := M6.out.look c1 c2 c3
        clear c1 c2 c3 ye0 ye1 yle ue0 ue1 M6
        have yf0 : w12.cell? ⟨b3, 0, none⟩ = some (.pointer (some ⟨px, 0, none⟩)) := cell_of M7.out.drop.drop.h0 0
        have yf1 : w12.cell? ⟨b3, 1, none⟩ = some (.pointer (some ⟨py, 0, none⟩)) := cell_of M7.out.drop.drop.h0 1
        have ylf : b3 < w12.heap.size := lt_of_heap M7.out.drop.drop.h0
        go_wp2_with fail
        refine (mark_any _ _ w12).mono ?_
        rintro e w13 ⟨rfl, x13⟩
        have M8 : Hid _ := M7.out.up x13
        clear x13 yf0 yf1 ylf M7
        have ug0 : w13.cell? ⟨b4, 0, none⟩ = some (.pointer (some ⟨mx, 0, none⟩)) := cell_of M8.out.drop.drop.drop.h0 0
        have ug1 : w13.cell? ⟨b4, 1, none⟩ = some (.pointer (some ⟨my, 0, none⟩)) := cell_of M8.out.drop.drop.drop.h0 1
        go_wp2_with fail
        refine (bounds_any w13 w.heap.size ⟨ib, px, Lx, py, Ly⟩ ⟨mx, my, vx', vy'⟩ S.xs S.ys M8.out.b M8.out.p M8.out.dis HRT.out.1 HRT.out.2).mono ?_
        rintro e w14 ⟨rfl, c1, c2, c3⟩
        have M9 : Hid _ := M8.out.look c1 c2 c3
        clear c1 c2 c3 ug0 ug1 M8
        have th0 : w14.cell? ⟨po, 0, none⟩ = some (.int .i64 ok) := cell_of M9.out.drop.h0 0
        have th1 : w14.cell? ⟨po, 1, none⟩ = some (.int .i64 oa) := cell_of M9.out.drop.h0 1
        have th2 : w14.cell? ⟨po, 2, none⟩ = some (.int .i64 ob) := cell_of M9.out.drop.h0 2
        have th3 : w14.cell? ⟨po, 3, none⟩ = some (.int .i64 oc) := cell_of M9.out.drop.h0 3
        have th4 : w14.cell? ⟨po, 4, none⟩ = some (.string os) := cell_of M9.out.drop.h0 4
        have th5 : w14.cell? ⟨po, 5, none⟩ = some (.string ot) := cell_of M9.out.drop.h0 5
        have vh0 : w14.cell? ⟨pa, 0, none⟩ = some (.int .i64 S.e) := cell_of M9.out.h0 0
        have vh1 : w14.cell? ⟨pa, 1, none⟩ = some (.int .i64 S.n) := cell_of M9.out.h0 1
        have vh2 : w14.cell? ⟨pa, 2, none⟩ = some (.int .i64 0) := cell_of M9.out.h0 2
        have vh3 : w14.cell? ⟨pa, 3, none⟩ = some (.string (st S.s)) := cell_of M9.out.h0 3
        go_wp2_with fail
        have HMe := means_any w14 ⟨ib, px, Lx, py, Ly⟩ S.xs S.ys ⟨ok, oa, ob, oc, os, ot⟩ S.e M9.out.b HO.out.1 HO.out.2.1 HO.out.2.2 (fun h1 h2 => by
          rw [HST.out] at h2 ⊢
          exact add_mem h1 h2)
        unfold opV at HMe
        refine HMe.mono ?_
        rintro e w15 ⟨rfl, x15⟩
        have M10 : Hid _ := M9.out.up x15
        clear HMe x15 th0 th1 th2 th3 th4 th5 vh0 vh1 vh2 vh3 M9
        have yk0 : w15.cell? ⟨b3, 0, none⟩ = some (.pointer (some ⟨px, 0, none⟩)) := cell_of M10.out.drop.drop.h0 0
        have yk1 : w15.cell? ⟨b3, 1, none⟩ = some (.pointer (some ⟨py, 0, none⟩)) := cell_of M10.out.drop.drop.h0 1
        have ylk : b3 < w15.heap.size := lt_of_heap M10.out.drop.drop.h0
        go_wp2_with fail
        refine (asks_any _ _ w15).mono ?_
        rintro e w16 ⟨rfl, x16⟩
        have M11 : Hid _ := M10.out.up x16
        clear x16 yk0 yk1 ylk M10
        go_wp2_with fail
        refine (work_any 0 0 w16).mono ?_
        rintro e w17 ⟨rfl, hw17⟩
        subst hw17
        go_wp2
        go_roundw
        case rel =>
          have hrel' : KpR w len ib px Lx py Ly mx my b3 b4 (.int .i64 ((k : Int) + 1)) w17 := ⟨k + 1, vx', vy', S.xs, S.ys, by omega, by go_num, HRT.out.1, HRT.out.2, M11.out.drop.drop⟩
          first | exact hrel' | ((repeat apply Exists.intro); exact ⟨hrel', rfl⟩)
        case measure => simp [intOf]; omega
      · have hd2 : decide ((k : Int) < 4398046511104) = false := decide_eq_false (by omega)
        go_wp2
        go_ret
        exact ⟨rfl, HM.out.ext⟩
    · have hd : decide ((k : Int) < (len : Int)) = false := decide_eq_false (by omega)
      go_wp2
      go_ret
      exact ⟨rfl, HM.out.ext⟩
end Go.Proofs.Qxb6500343a
