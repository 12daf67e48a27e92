/-
  The walk of both sides.
-/
import Derived.Test.Qxb6500343aR4
namespace Go.Proofs.Qxb6500343a
open Go.RowKit
open Go.Proofs
open Ieee (Datum)
open Fl
open Tx (st)
open Ff (in64)
set_option linter.unusedSimpArgs false
set_option linter.unusedVariables false
attribute [local go_sem] run_fadd run_fsub run_fmul run_fquo run_store_float alloc_drewN setCell_drewN shape?_drewN tape_alloc drawn_alloc tape_setCell drawn_setCell drawn_drewN drawn_drew run_fneg

/-- What stands between two rounds. -/
structure Wst (w wr : World) (b6 : Nat) (i : BId) (im : BM) (xs ys : List Datum) : Prop where
  rb : BoxAt wr i (Pl.lv xs) (Pl.lv ys)
  mb : BmAt wr w.heap.size im xs ys
  bt : wr.heap[b6]? = some (.cells #[.pointer (some ⟨i.px, 0, none⟩), .pointer (some ⟨i.py, 0, none⟩)] 27)
  dis : ∀ k, k ∈ i.all → k ∉ im.all
  bi : b6 ∉ i.all
  bm : b6 ∉ im.all
  rx : Pl.Rat xs
  ry : Pl.Rat ys
  ext : Ext w wr
  nb : w.heap.size ≤ b6
  ni : ∀ k, k ∈ i.all → w.heap.size ≤ k
def WkR (w : World) (len b6 : Nat) (i : BId) (mb : Nat) (v : Value) (wr : World) : Prop :=
  ∃ (k : Nat) (im : BM) (xs ys : List Datum), k ≤ len ∧ v = .int .i64 k ∧ im.mb = mb ∧ Wst w wr b6 i im xs ys
set_option maxRecDepth 100000 in
set_option maxHeartbeats 8000000 in
theorem walk_any (w : World) (x : Option Addr) (len cap : Nat) (quiet : Bool) (hs : Scr w x len) : Calls Try.prog 25 #[.slice x len cap, .bool quiet] w fun e w' => (∃ n : Int, e = .returned (.tuple #[.int .i64 (-1), .int .i64 n])) ∧ Ext w w' := by
  have HS : Hid (Scr w x len) := hs
  have hlen : len ≤ 9223372036854775807 := by rcases hs with h | ⟨_, _, _, _, h, _⟩ <;> omega
  clear hs
  go_enter Try.func25, Try.ntmps25
  go_wp2_with fail
  refine (ground_any _).mono ?_
  rintro e w1 ⟨px, Lx, py, Ly, rfl, hs1, hs2, hnd, hk, hx1⟩
  have HK : Hid (SerAt w1 px Lx [] ∧ SerAt w1 py Ly [] ∧ [px, Lx, py, Ly].Nodup ∧ (∀ k, k ∈ [px, Lx, py, Ly] → w.heap.size ≤ k ∧ k < w1.heap.size) ∧ Ext w w1) := ⟨hs1, hs2, hnd, hk, hx1⟩
  clear hs1 hs2 hnd hk hx1
  go_wp2_with fail
  refine (bnew_any _ px py).mono ?_
  rintro e w2 ⟨rfl, hb2, hx2⟩
  have X2 : Hid (BoxC w2 (w1.heap.size + 1) px py 0 Pl.noAX Pl.noAX ∧ Ext w1 w2 ∧ w2.heap[w1.heap.size]? = some (.cells #[.pointer (some ⟨px, 0, none⟩), .pointer (some ⟨py, 0, none⟩)] 27)) := by
    rw [World.size_alloc] at hb2
    exact ⟨hb2, ((Ext.refl w1).alloc _).trans hx2, hx2.heap (heap_alloc_new w1 _)⟩
  clear hb2 hx2
  go_wp2_with fail
  have hB2 : w.heap.size ≤ w2.heap.size := Nat.le_trans HK.out.2.2.2.2.size X2.out.2.1.size
  refine (bmnew_any w2 w.heap.size hB2).mono ?_
  rintro e w3 ⟨im, rfl, hm3, hk3, hx3⟩
  have X3 : Hid (BmAt w3 w.heap.size im [] [] ∧ (∀ k, k ∈ im.all → w2.heap.size ≤ k) ∧ Ext w2 w3) := ⟨hm3, hk3, hx3⟩
  clear hm3 hk3 hx3 hB2
  go_wp2
  go_loopw [9] (fun v wr => WkR w len w1.heap.size ⟨w1.heap.size + 1, px, Lx, py, Ly⟩ im.mb v wr) (fun v _ => len - (intOf v).toNat)
  case atStart =>
    obtain ⟨h1, h2, h3, h4, h5⟩ := HK.out
    obtain ⟨q1, q2, q3⟩ := X2.out
    obtain ⟨m1, m2, m3⟩ := X3.out
    have a1 := h4 px (by simp)
    have a2 := h4 Lx (by simp)
    have a3 := h4 py (by simp)
    have a4 := h4 Ly (by simp)
    have l1 := lt_of_heap q3
    obtain ⟨_, _, _, _, _, _, _, _, q4, _, _⟩ := q1
    have l2 := lt_of_heap q4
    have l3 := h5.size
    have l4 := q2.size
    have l5 := m3.size
    refine ⟨0, im, [], [], by omega, rfl, rfl, ⟨⟨X2.out.1.ext m3, (h1.ext q2).ext m3, (h2.ext q2).ext m3, rfl, ?_⟩, m1, m3.heap q3, ?_, ?_, ?_, Pl.Rat.nil, Pl.Rat.nil, (h5.trans q2).trans m3, by omega, ?_⟩⟩
    · simp [BId.all] at h3 ⊢; omega
    · intro k hk hk'; have := m2 k hk'; simp [BId.all] at hk; omega
    · simp [BId.all]; omega
    · intro hk; have := m2 _ hk; omega
    · intro k hk; simp [BId.all] at hk; omega
  case round =>
    obtain ⟨k, im', xs, ys, hk, rfl, hmb, hW⟩ := hrel
    obtain ⟨i, hi⟩ : ∃ i : BId, i = ⟨w1.heap.size + 1, px, Lx, py, Ly⟩ := ⟨_, rfl⟩
    have HI : Hid (i.b = w1.heap.size + 1 ∧ i.px = px ∧ i.py = py ∧ i = ⟨w1.heap.size + 1, px, Lx, py, Ly⟩ ∧ im'.mb = im.mb) := by rw [hi]; exact ⟨rfl, rfl, rfl, rfl, hmb⟩
    have HK2 : Hid (Wst w wr w1.heap.size i im' xs ys) := by rw [hi]; exact hW
    clear hW hi hmb
    by_cases hlt : k < len
    · have hk0 : (k : Int) < (len : Int) := by omega
      have hd : decide ((k : Int) < (len : Int)) = true := decide_eq_true hk0
      by_cases hmx : k < 4398046511104
      · have hd2 : decide ((k : Int) < 4398046511104) = true := decide_eq_true (by omega)
        obtain ⟨B, off, hx, hB, hop⟩ : ∃ B off, x = some ⟨B, off, none⟩ ∧ B < w.heap.size ∧ ∀ i, i < len → ∃ o, OpAt w B (off + i * 6) o := by
          rcases HS.out with h0 | ⟨B, off, h1, h2, _, h3⟩
          · omega
          · exact ⟨B, off, h1, h2, h3⟩
        subst hx
        obtain ⟨⟨ok, oa, ob, oc, os, ot⟩, ho⟩ := hop k hlt
        replace ho := ho.ext HK2.out.ext hB
        obtain ⟨o0, o1, o2, o3, o4, o5, oia, oib, oic⟩ := ho
        simp only at o0 o1 o2 o3 o4 o5 oia oib oic
        have HO : Hid (in64 oa ∧ in64 ob ∧ in64 oc) := ⟨oia, oib, oic⟩
        clear hop oia oib oic
        obtain ⟨S, hS⟩ : ∃ S, S = bstep xs ys ⟨ok, oa, ob, oc, os, ot⟩ := ⟨_, rfl⟩
        have xa : Ext wr (wr.alloc (.cells #[.int .i64 ok, .int .i64 oa, .int .i64 ob, .int .i64 oc, .string os, .string ot] 48)) := (Ext.refl wr).alloc _
        have HD : Hid (Calls Try.prog 20 #[.pointer (some ⟨w1.heap.size + 1, 0, none⟩), .agg #[.int .i64 ok, .int .i64 oa, .int .i64 ob, .int .i64 oc, .string os, .string ot]] (wr.alloc (.cells #[.int .i64 ok, .int .i64 oa, .int .i64 ob, .int .i64 oc, .string os, .string ot] 48)) fun e w' => e = .returned (.agg #[.int .i64 S.e, .int .i64 S.n, .int .i64 0, .string (st S.s)]) ∧ RP i (wr.alloc (.cells #[.int .i64 ok, .int .i64 oa, .int .i64 ob, .int .i64 oc, .string os, .string ot] 48)) w' S.xs S.ys) := by
          have := do_any _ i xs ys ⟨ok, oa, ob, oc, os, ot⟩ (HK2.out.rb.ext xa) HK2.out.rx HK2.out.ry HO.out.1 HO.out.2.1 HO.out.2.2
          rw [HI.out.1, ← hS] at this
          exact this
        have HM : Hid (∀ w', BmAt w' w.heap.size im' xs ys → Calls Try.prog 61 #[.pointer (some ⟨im.mb, 0, none⟩), .agg #[.int .i64 ok, .int .i64 oa, .int .i64 ob, .int .i64 oc, .string os, .string ot]] w' fun e w'' => e = .returned (.agg #[.int .i64 S.e, .int .i64 S.n, .int .i64 0, .string (st S.s)]) ∧ MP w.heap.size im' w' w'' S.xs S.ys) := by
          intro w' hw'
          have := dom_any w' w.heap.size im' xs ys ⟨ok, oa, ob, oc, os, ot⟩ hw' HK2.out.rx HK2.out.ry HO.out.1 HO.out.2.1 HO.out.2.2
          rw [HI.out.2.2.2.2, ← hS] at this
          exact this
        have HRT : Hid (Pl.Rat S.xs ∧ Pl.Rat S.ys) := by
          have := rat_step (o := ⟨ok, oa, ob, oc, os, ot⟩) HK2.out.rx HK2.out.ry HO.out.1 HO.out.2.1 HO.out.2.2
          rw [← hS] at this
          exact this
        clear hS xa
        go_wp2_with fail
        refine HD.out.mono ?_
        rintro e w4 ⟨rfl, h4⟩
        have k0 := HK2.out
        have hpi : wr.heap.size ∉ i.all := fun h => by have := k0.rb.lt _ h; omega
        have hpm : wr.heap.size ∉ im'.all := fun h => by have := (k0.mb.lt _ h).1; omega
        have p4 := h4.heap (heap_alloc_new wr _) hpi
        have xa : Ext wr (wr.alloc (.cells #[.int .i64 ok, .int .i64 oa, .int .i64 ob, .int .i64 oc, .string os, .string ot] 48)) := (Ext.refl wr).alloc _
        have c4 : Chg i.all wr w4 := (h4.pre xa).2
        have H4 : Hid (BoxAt w4 i (Pl.lv S.xs) (Pl.lv S.ys) ∧ BmAt w4 w.heap.size im' xs ys ∧ Chg i.all wr w4 ∧ w4.heap[w1.heap.size]? = some (.cells #[.pointer (some ⟨i.px, 0, none⟩), .pointer (some ⟨i.py, 0, none⟩)] 27) ∧ w4.heap[wr.heap.size]? = some (.cells #[.int .i64 ok, .int .i64 oa, .int .i64 ob, .int .i64 oc, .string os, .string ot] 48) ∧ wr.heap.size ∉ i.all ∧ wr.heap.size ∉ im'.all) :=
          ⟨h4.1, k0.mb.chg c4 (fun g hg hg' => k0.dis g hg' hg), c4, c4.heap k0.bt k0.bi, p4, hpi, hpm⟩
        have l4 := lt_of_heap p4
        have t0 : w4.cell? ⟨wr.heap.size, 0, none⟩ = some (.int .i64 ok) := cell_of p4 0
        have t1 : w4.cell? ⟨wr.heap.size, 1, none⟩ = some (.int .i64 oa) := cell_of p4 1
        have t2 : w4.cell? ⟨wr.heap.size, 2, none⟩ = some (.int .i64 ob) := cell_of p4 2
        have t3 : w4.cell? ⟨wr.heap.size, 3, none⟩ = some (.int .i64 oc) := cell_of p4 3
        have t4 : w4.cell? ⟨wr.heap.size, 4, none⟩ = some (.string os) := cell_of p4 4
        have t5 : w4.cell? ⟨wr.heap.size, 5, none⟩ = some (.string ot) := cell_of p4 5
        clear HD o0 o1 o2 o3 o4 o5 h4 p4 c4 xa k0 hpi hpm
        go_wp2_with fail
        have xb : Ext w4 (w4.alloc (.cells #[.int .i64 S.e, .int .i64 S.n, .int .i64 0, .string (st S.s)] 50)) := (Ext.refl w4).alloc _
        refine (HM.out _ (H4.out.2.1.ext xb)).mono ?_
        rintro e w5 ⟨rfl, im2, e1, e2, e3, e4⟩
        have q4 : ∀ k, k ∈ im'.all → k < w4.heap.size := fun k hk => (H4.out.2.1.lt k hk).1
        have q5 : ∀ k, k ∈ i.all → k < w4.heap.size := fun k hk => H4.out.1.lt k hk
        have sb : (w4.alloc (.cells #[.int .i64 S.e, .int .i64 S.n, .int .i64 0, .string (st S.s)] 50)).heap.size = w4.heap.size + 1 := World.size_alloc _ _
        have a5 := e3.heap (heap_alloc_new w4 _) (fun h => by have := q4 _ h; omega)
        have p5 := e3.heap (xb.heap H4.out.2.2.2.2.1) H4.out.2.2.2.2.2.2
        have b5 := e3.heap (xb.heap H4.out.2.2.2.1) HK2.out.bm
        have x5 : Ext w w5 := ((HK2.out.ext.chg H4.out.2.2.1 HK2.out.ni).trans xb).chg e3 (fun k hk => (HK2.out.mb.lt k hk).2)
        have H5 : Hid (Wst w w5 w1.heap.size i im2 S.xs S.ys ∧ im2.mb = im.mb) :=
          ⟨⟨(H4.out.1.ext xb).chg e3 (HK2.out.dis), e2, b5, fun k hk hk' => by
              rcases e4 k hk' with h | h
              · exact HK2.out.dis k hk h
              · have := q5 k hk; omega, HK2.out.bi, fun hk' => by
              rcases e4 _ hk' with h | h
              · exact HK2.out.bm h
              · have := lt_of_heap H4.out.2.2.2.1; omega, HRT.out.1, HRT.out.2, x5, HK2.out.nb, HK2.out.ni⟩, e1.trans HI.out.2.2.2.2⟩
        have lp5 := lt_of_heap p5
        have la5 := lt_of_heap a5
        have r0 : w5.cell? ⟨wr.heap.size, 0, none⟩ = some (.int .i64 ok) := cell_of p5 0
        have r1 : w5.cell? ⟨wr.heap.size, 1, none⟩ = some (.int .i64 oa) := cell_of p5 1
        have r2 : w5.cell? ⟨wr.heap.size, 2, none⟩ = some (.int .i64 ob) := cell_of p5 2
        have r3 : w5.cell? ⟨wr.heap.size, 3, none⟩ = some (.int .i64 oc) := cell_of p5 3
        have r4 : w5.cell? ⟨wr.heap.size, 4, none⟩ = some (.string os) := cell_of p5 4
        have r5 : w5.cell? ⟨wr.heap.size, 5, none⟩ = some (.string ot) := cell_of p5 5
        have v0 : w5.cell? ⟨w4.heap.size, 0, none⟩ = some (.int .i64 S.e) := cell_of a5 0
        have v1 : w5.cell? ⟨w4.heap.size, 1, none⟩ = some (.int .i64 S.n) := cell_of a5 1
        have v2 : w5.cell? ⟨w4.heap.size, 2, none⟩ = some (.int .i64 0) := cell_of a5 2
        have v3 : w5.cell? ⟨w4.heap.size, 3, none⟩ = some (.string (st S.s)) := cell_of a5 3
        have HP : Hid (i.px = px ∧ i.py = py ∧ i.b = w1.heap.size + 1) := ⟨HI.out.2.1, HI.out.2.2.1, HI.out.1⟩
        have y0 : w5.cell? ⟨w1.heap.size, 0, none⟩ = some (.pointer (some ⟨px, 0, none⟩)) := by rw [← HP.out.1]; exact cell_of b5 0
        have y1 : w5.cell? ⟨w1.heap.size, 1, none⟩ = some (.pointer (some ⟨py, 0, none⟩)) := by rw [← HP.out.2.1]; exact cell_of b5 1
        have lb5 := lt_of_heap b5
        clear t0 t1 t2 t3 t4 t5 a5 p5 b5 x5 e1 e2 e3 e4 q4 q5 sb xb HM H4 HK2
        cases quiet
        · go_wp2_with fail
          have xc : Ext w5 (w5.alloc (.cells #[.int .i64 S.e, .int .i64 S.n, .int .i64 0, .string (st S.s)] 50)) := (Ext.refl w5).alloc _
          have h5 := H5.out.1
          have hal := alike_any _ i w.heap.size im2 S.xs S.ys (h5.rb.ext xc) (h5.mb.ext xc) h5.rx h5.ry h5.dis
          rw [HP.out.1, HP.out.2.1, HP.out.2.2, H5.out.2] at hal
          refine hal.mono ?_
          rintro e w6 ⟨rfl, g1, g2, g3⟩
          have H6 : Hid (Wst w w6 w1.heap.size i im2 S.xs S.ys) :=
            ⟨g1, g2, g3.heap (xc.heap h5.bt) h5.bm, h5.dis, h5.bi, h5.bm, h5.rx, h5.ry, (h5.ext.trans xc).chg g3 (fun k hk => (h5.mb.lt k hk).2), h5.nb, h5.ni⟩
          clear g1 g2 g3 h5 xc hal
          go_wp2
          go_roundw
          case rel =>
            have hrel' : WkR w len w1.heap.size ⟨w1.heap.size + 1, px, Lx, py, Ly⟩ im.mb (.int .i64 ((k : Int) + 1)) w6 := ⟨k + 1, im2, S.xs, S.ys, by omega, by go_num, H5.out.2, by rw [← HI.out.2.2.2.1]; exact H6.out⟩
            first | exact hrel' | ((repeat apply Exists.intro); exact ⟨hrel', rfl⟩)
          case measure => simp [intOf]; omega
        · have H6 : Hid (Wst w (w5.alloc (.cells #[.int .i64 S.e, .int .i64 S.n, .int .i64 0, .string (st S.s)] 50)) w1.heap.size i im2 S.xs S.ys) := by
            have xc : Ext w5 (w5.alloc (.cells #[.int .i64 S.e, .int .i64 S.n, .int .i64 0, .string (st S.s)] 50)) := (Ext.refl w5).alloc _
            have h5 := H5.out.1
            exact ⟨h5.rb.ext xc, h5.mb.ext xc, xc.heap h5.bt, h5.dis, h5.bi, h5.bm, h5.rx, h5.ry, h5.ext.trans xc, h5.nb, h5.ni⟩
          go_wp2
          go_roundw
          case rel =>
            have hrel' : WkR w len w1.heap.size ⟨w1.heap.size + 1, px, Lx, py, Ly⟩ im.mb (.int .i64 ((k : Int) + 1)) (w5.alloc (.cells #[.int .i64 S.e, .int .i64 S.n, .int .i64 0, .string (st S.s)] 50)) := ⟨k + 1, im2, S.xs, S.ys, by omega, by go_num, H5.out.2, by rw [← HI.out.2.2.2.1]; exact H6.out⟩
            first | exact hrel' | ((repeat apply Exists.intro); exact ⟨hrel', rfl⟩)
          case measure => simp [intOf]; omega
      · have hd2 : decide ((k : Int) < 4398046511104) = false := decide_eq_false (by omega)
        have hd3 : decide ((len : Int) < 4398046511104) = false := decide_eq_false (by omega)
        go_wp2
        go_ret2
        exact ⟨⟨_, rfl⟩, HK2.out.ext⟩
    · have hd : decide ((k : Int) < (len : Int)) = false := decide_eq_false (by omega)
      by_cases hL : len < 4398046511104
      · have hd3 : decide ((len : Int) < 4398046511104) = true := decide_eq_true (by omega)
        go_wp2
        go_ret2
        exact ⟨⟨_, rfl⟩, HK2.out.ext⟩
      · have hd3 : decide ((len : Int) < 4398046511104) = false := decide_eq_false (by omega)
        go_wp2
        go_ret2
        exact ⟨⟨_, rfl⟩, HK2.out.ext⟩
end Go.Proofs.Qxb6500343a

