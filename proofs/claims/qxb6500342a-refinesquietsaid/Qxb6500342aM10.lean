/-
  The walk of both sides.
-/
import Derived.Test.Qxb6500342aM9
import Derived.Deep.CutRange
namespace Go.Proofs.Qxb6500342a
open Go.RowKit
open Go.Proofs
open Pl (Hd)
open Tx (st)
set_option linter.unusedSimpArgs false
set_option linter.unusedVariables false
attribute [local go_sem] alloc_drewN setCell_drewN shape?_drewN

/-- What stands between two rounds. -/
structure Wst (w wr : World) (b6 d : Nat) (q : SId) (m : Nat) (C : Array Value) (u : Nat) (G H : Nat → Hd) (h : Hd) (img : ByteArray) : Prop where
  st : StAt wr q u H
  mx : MX wr m u G
  ag : Agree u G H
  dh : wr.heap[d]? = some (.cells C 36)
  dk : DkIn C 0 h img
  bt : wr.heap[b6]? = some (.cells #[.pointer (some ⟨q.b, 0, none⟩)] 48)
  mq : m ∉ q.all
  dq : d ∉ q.all
  dm : d ≠ m
  bm : b6 ≠ m
  bd : b6 ≠ d
  bq : b6 ∉ q.all
  ext : Ext w wr
  nm : w.heap.size ≤ m
  nd : w.heap.size ≤ d
  nb : w.heap.size ≤ b6
  nq : ∀ k, k ∈ q.all → w.heap.size ≤ k
  im : img.size ≤ 64
def WkR (w : World) (len b6 d : Nat) (x mm i : Value) (wr : World) : Prop :=
  ∃ (k : Nat) (q : SId) (m : Nat) (C : Array Value) (u : Nat) (G H : Nat → Hd) (h : Hd) (img : ByteArray), k ≤ len ∧ i = .int .i64 k ∧ x = .pointer (some ⟨q.s, 0, none⟩) ∧ mm = .pointer (some ⟨m, 0, none⟩) ∧ Wst w wr b6 d q m C u G H h img
theorem Wst.ex {w wr w' : World} {b6 d : Nat} {q : SId} {m : Nat} {C : Array Value} {u : Nat} {G H : Nat → Hd} {h : Hd} {img : ByteArray} (k : Wst w wr b6 d q m C u G H h img) (hx : Ext wr w') : Wst w w' b6 d q m C u G H h img :=
  ⟨k.st.ext hx, k.mx.ext hx, k.ag, hx.heap k.dh, k.dk, hx.heap k.bt, k.mq, k.dq, k.dm, k.bm, k.bd, k.bq, k.ext.trans hx, k.nm, k.nd, k.nb, k.nq, k.im⟩
/-- The store has stepped. -/
theorem Wst.chgq {w wr w' : World} {b6 d : Nat} {q : SId} {m : Nat} {C : Array Value} {u : Nat} {G H : Nat → Hd} {h : Hd} {img : ByteArray} (k : Wst w wr b6 d q m C u G H h img) (hc : Chg q.all wr w') : MX w' m u G ∧ w'.heap[d]? = some (.cells C 36) ∧ w'.heap[b6]? = some (.cells #[.pointer (some ⟨q.b, 0, none⟩)] 48) ∧ Ext w w' :=
  ⟨k.mx.chg hc k.mq, hc.heap k.dh k.dq, hc.heap k.bt k.bq, k.ext.chg hc k.nq⟩
theorem notQ {q : SId} {S : List Nat} {n : Nat} (h : n ∉ q.all) (hS : S = [n]) : ∀ k, k ∈ q.all → k ∉ S := by
  subst hS
  intro k hk
  simp only [List.mem_singleton]
  rintro rfl
  exact h hk
theorem StAt.c1 {w w' : World} {q : SId} {u : Nat} {H : Nat → Hd} {n : Nat} (h : StAt w q u H) (hc : Chg [n] w w') (hn : n ∉ q.all) : StAt w' q u H := h.chg hc (notQ hn rfl)
set_option maxRecDepth 100000 in
set_option maxHeartbeats 8000000 in
theorem walk_any (w : World) (x : Option Addr) (len cap : Nat) (quiet : Bool) (hs : Scr w x len) : Calls Try.prog 31 #[.slice x len cap, .bool quiet] w fun e w' => (∃ n : Int, e = .returned (.tuple #[.int .i64 (-1), .int .i64 n])) ∧ Ext w w' := by
  have HS : Hid (Scr w x len) := hs
  have hlen : len ≤ 9223372036854775807 := by rcases hs with h | ⟨_, _, _, _, h, _⟩ <;> omega
  clear hs
  go_enter Try.func31, Try.ntmps31
  go_wp2_with fail
  refine (ground_any _).mono ?_
  rintro e w1 ⟨b, hb, rfl, hB1, x1⟩
  have X1 : Hid (BoardAt w1 b 0 ∧ Ext w w1 ∧ w.heap.size ≤ b ∧ b < w1.heap.size) := ⟨hB1, x1, hb, lt_of_heap hB1⟩
  clear hB1 x1 hb
  go_wp2_with fail
  refine (pnew_any _ b (X1.out.1.ext ((Ext.refl w1).alloc _)) (fun _ => Pl.zeroH)).mono ?_
  rintro e w2 ⟨q, hqb, hqs, hqL, rfl, s2, x2⟩
  have z2 := x2.heap (heap_alloc_new w1 _)
  have X2 : Hid (StAt w2 q 0 (fun _ => Pl.zeroH) ∧ Ext w w2 ∧ w2.heap[w1.heap.size]? = some (.cells #[.pointer (some ⟨b, 0, none⟩)] 48) ∧ q.b = b ∧ w1.heap.size + 1 ≤ q.s ∧ w1.heap.size + 1 ≤ q.L) :=
    ⟨s2, X1.out.2.1.trans (((Ext.refl w1).alloc _).trans x2), z2, hqb, by simpa using hqs, by simpa using hqL⟩
  clear s2 x2 z2 hqb hqs hqL
  go_wp2_with fail
  refine (mnew_any _).mono ?_
  rintro e w3 ⟨rfl, hw3⟩
  have X3 : Hid (MX w3 w2.heap.size 0 (fun _ => Pl.zeroH) ∧ Ext w2 w3) := by rw [hw3]; exact ⟨⟨_, m_fresh (heap_alloc_new w2 _)⟩, (Ext.refl w2).alloc _⟩
  clear hw3
  go_wp2
  go_loopw [7, 8, 10] (fun x mm i wr => WkR w len w1.heap.size w3.heap.size x mm i wr) (fun _ _ i _ => len - (intOf i).toNat)
  case atStart =>
    obtain ⟨hB1, x1, hb0, hb1⟩ := X1.out
    obtain ⟨s2, x2, z2, hqb, hqs, hqL⟩ := X2.out
    obtain ⟨m3, x3⟩ := X3.out
    have l1 := lt_of_heap s2.hs
    have l2 := lt_of_heap s2.hL
    have l3 := lt_of_heap s2.hb
    have l4 := lt_of_heap z2
    have l5 := m3.lt
    have sz := x1.size
    have sz2 := x2.size
    have sz3 := x3.size
    have xa : Ext w3 (w3.alloc (.cells #[.int .i64 0, .int .i64 0, .int .i64 0, .int .i64 0, .int .i64 0, .string ⟨#[]⟩] 36)) := (Ext.refl w3).alloc _
    refine ⟨0, q, w2.heap.size, #[.int .i64 0, .int .i64 0, .int .i64 0, .int .i64 0, .int .i64 0, .string ⟨#[]⟩], 0, fun _ => Pl.zeroH, fun _ => Pl.zeroH, ⟨0, 0, 0, 0, 0⟩, ⟨#[]⟩, by omega, rfl, rfl, rfl, ⟨(s2.ext x3).ext xa, m3.ext xa, Agree.refl _ _, heap_alloc_new w3 _, ⟨rfl, rfl, rfl, rfl, rfl, rfl⟩, ?_, ?_, ?_, ?_, ?_, ?_, ?_, (x2.trans x3).trans xa, ?_, ?_, ?_, ?_, by decide⟩⟩
    · rw [hqb]; exact xa.heap (x3.heap z2)
    · simp [SId.all]; omega
    · simp [SId.all]; omega
    · omega
    · omega
    · omega
    · simp [SId.all]; omega
    · omega
    · omega
    · omega
    · intro k hk; simp [SId.all] at hk; omega
  case round =>
    obtain ⟨k, q, m, C, u, G, H, h, img, hk, rfl, rfl, rfl, hK⟩ := hrel
    have HK : Hid (Wst w wr w1.heap.size w3.heap.size q m C u G H h img) := hK
    clear hK
    by_cases hlt : k < len
    · have hk0 : (k : Int) < (len : Int) := by omega
      have hd : decide ((k : Int) < (len : Int)) = true := decide_eq_true hk0
      by_cases hmx : k < 4398046511104
      · have hd2 : decide ((k : Int) < 4398046511104) = true := decide_eq_true (by omega)
        obtain ⟨B, off, hx, hB, hop⟩ : ∃ B off, x = some ⟨B, off, none⟩ ∧ B < w.heap.size ∧ ∀ i, i < len → ∃ o, OpAt w B (off + i * 6) o := by
          rcases HS.out with h0 | ⟨B, off, h1, h2, _, h3⟩
          · omega
          · exact ⟨B, off, h1, h2, h3⟩
        subst hx
        obtain ⟨⟨ok, oa, ob, oc, os, ot⟩, ho⟩ := hop k hlt
        replace ho := ho.ext HK.out.ext hB
        obtain ⟨o0, o1, o2, o3, o4, o5, oia, oib, ohs⟩ := ho
        simp only at o0 o1 o2 o3 o4 o5 oia oib ohs
        have HI : Hid (in64 oa ∧ in64 ob ∧ os.size ≤ 9223372036854775807) := ⟨oia, oib, ohs⟩
        clear hop oia oib ohs
        have k0 := HK.out
        have l1 := lt_of_heap k0.bt
        have l2 := lt_of_heap k0.dh
        have l3 := k0.mx.lt
        clear k0
        go_upto_if 38 with fail
        go_cut [7, 8] from 22 to 81 (fun xs xm wc => ∃ (q : SId) (m : Nat) (u : Nat) (G H : Nat → Hd), xs = .pointer (some ⟨q.s, 0, none⟩) ∧ xm = .pointer (some ⟨m, 0, none⟩) ∧ Wst w wc w1.heap.size w3.heap.size q m C u G H h img ∧ wc.heap[wr.heap.size]? = some (.cells #[.int .i64 ok, .int .i64 oa, .int .i64 ob, .int .i64 oc, .string os, .string ot] 38) ∧ wr.heap.size ∉ q.all ∧ wr.heap.size ≠ m ∧ wr.heap.size ≠ w3.heap.size)
        case first =>
          by_cases hk1 : ok = 1
          · refine wp_cond_split rfl (fun _ => ?_) (fun h => absurd h (by simp [hk1]))
            have k0 := HK.out
            subst hk1
            go_wp2_with fail
            refine (ground_any _).mono ?_
            rintro e wg ⟨bn, hbn, rfl, hBg, xg⟩
            have xa : Ext wr wg := ((Ext.refl wr).alloc _).trans xg
            have zb := xa.heap k0.bt
            have zb0 : wg.cell? ⟨w1.heap.size, 0, none⟩ = some (.pointer (some ⟨q.b, 0, none⟩)) := cell_of zb 0
            have zbf : wg.frozen? ⟨w1.heap.size, 0, none⟩ = false := frozen_of zb 0
            rw [World.size_alloc] at hbn
            have H3 : Hid (BoardAt wg bn 0 ∧ Ext wr wg ∧ wg.heap[w1.heap.size]? = some (.cells #[.pointer (some ⟨q.b, 0, none⟩)] 48) ∧ wg.heap[wr.heap.size]? = some (.cells #[.int .i64 1, .int .i64 oa, .int .i64 ob, .int .i64 oc, .string os, .string ot] 38) ∧ wr.heap.size + 1 ≤ bn) := ⟨hBg, xa, zb, xg.heap (heap_alloc_new wr _), hbn⟩
            have H0 : Hid (Wst w wr w1.heap.size w3.heap.size q m C u G H h img ∧ w1.heap.size < wr.heap.size ∧ w3.heap.size < wr.heap.size) := ⟨k0, l1, l2⟩
            clear k0 hbn hBg xg xa zb HK
            go_wp2_with fail
            have hbb : bn ≠ w1.heap.size := by have := H3.out.2.2.2.2; have := H0.out.2.1; omega
            refine (pnew_any _ bn (by unfold BoardAt; rw [heap_set_ne hbb]; exact H3.out.1) (fun _ => Pl.zeroH)).mono ?_
            rintro e wp ⟨qn, hqb, hqs, hqL, rfl, s4, x4⟩
            rw [size_set] at hqs hqL
            have HQ : Hid (qn.b = bn ∧ wg.heap.size ≤ qn.s ∧ wg.heap.size ≤ qn.L ∧ StAt wp qn 0 (fun _ => Pl.zeroH) ∧ Ext (wg.setCell ⟨w1.heap.size, 0, none⟩ (.pointer (some ⟨bn, 0, none⟩))) wp) := ⟨hqb, hqs, hqL, s4, x4⟩
            clear hqb hqs hqL s4 x4 zb0 zbf
            go_wp2_with fail
            refine (mnew_any _).mono ?_
            rintro e wm ⟨rfl, hwm⟩
            have HW : Hid (wm = wp.alloc (.cells mZ 96)) := hwm
            clear hwm
            go_wp2_with fail
            go_meet
            case rel =>
              obtain ⟨k0, l1, l2⟩ := H0.out
              obtain ⟨hBg, xa, zb, zp, hbn⟩ := H3.out
              obtain ⟨hqb, hqs, hqL, s4, x4⟩ := HQ.out
              have hwm := HW.out
              have cx : Chg [w1.heap.size] wr wp := ((Chg.of_ext xa).setCell (by simp) _).then x4
              have e4 : Ext w wp := k0.ext.chg cx (fun i hi => by simp only [List.mem_singleton] at hi; subst hi; exact k0.nb)
              have zb4 : wp.heap[w1.heap.size]? = some (.cells #[.pointer (some ⟨bn, 0, none⟩)] 48) := x4.heap (heap_set zb 0 _)
              have zp4 : wp.heap[wr.heap.size]? = some (.cells #[.int .i64 1, .int .i64 oa, .int .i64 ob, .int .i64 oc, .string os, .string ot] 38) := x4.heap (by rw [heap_set_ne (by omega)]; exact zp)
              have zd4 := cx.heap k0.dh (by simpa using Ne.symm k0.bd)
              have xm : Ext wp wm := by rw [hwm]; exact (Ext.refl wp).alloc _
              have f4 := lt_of_heap zb4
              have f5 := lt_of_heap zp4
              have f6 := xa.size
              have f9 := lt_of_heap zp
              have f7 := x4.size
              rw [size_set] at f7
              have f8 := k0.ext.size
              have f10 := lt_of_heap zd4
              refine ⟨qn, wp.heap.size, 0, fun _ => Pl.zeroH, fun _ => Pl.zeroH, rfl, rfl, ⟨s4.ext xm, ?_, Agree.refl _ _, xm.heap zd4, k0.dk, ?_, notIn s4 (Nat.le_refl _), ?_, ?_, ?_, k0.bd, ?_, e4.trans xm, ?_, k0.nd, k0.nb, ?_, k0.im⟩, xm.heap zp4, ?_, ?_, ?_⟩
              · rw [hwm]; exact ⟨_, m_fresh (heap_alloc_new wp _)⟩
              · rw [hqb]; exact xm.heap zb4
              · simp [SId.all]; omega
              · omega
              · omega
              · simp [SId.all]; omega
              · omega
              · intro i hi; simp [SId.all] at hi; omega
              · simp [SId.all]; omega
              · omega
              · omega
          · refine wp_cond_split rfl (fun h => absurd h (by simp [hk1])) (fun _ => ?_)
            go_wp2_with fail
            go_meet
            case rel =>
              exact ⟨q, m, u, G, H, rfl, rfl, HK.out.ex ((Ext.refl wr).alloc _), heap_alloc_new wr _, notIn HK.out.st (Nat.le_refl _), by omega, by omega⟩
        case rest =>
          clear o0 o1 o2 o3 o4 o5 HK l3
          obtain ⟨q, m, u, G, H, rfl, rfl, hK, hP, hPq, hPm, hPd⟩ := hcut
          have HK0 : Hid (Wst w wc w1.heap.size w3.heap.size q m C u G H h img) := hK
          have HP : Hid (wc.heap[wr.heap.size]? = some (.cells #[.int .i64 ok, .int .i64 oa, .int .i64 ob, .int .i64 oc, .string os, .string ot] 38) ∧ wr.heap.size ∉ q.all ∧ wr.heap.size ≠ m ∧ wr.heap.size ≠ w3.heap.size) := ⟨hP, hPq, hPm, hPd⟩
          have hl0 := lt_of_heap hP
          have y0 : wc.cell? ⟨wr.heap.size, 0, none⟩ = some (.int .i64 ok) := cell_of hP 0
          have y1 : wc.cell? ⟨wr.heap.size, 1, none⟩ = some (.int .i64 oa) := cell_of hP 1
          have y2 : wc.cell? ⟨wr.heap.size, 2, none⟩ = some (.int .i64 ob) := cell_of hP 2
          have y3 : wc.cell? ⟨wr.heap.size, 3, none⟩ = some (.int .i64 oc) := cell_of hP 3
          have y4 : wc.cell? ⟨wr.heap.size, 4, none⟩ = some (.string os) := cell_of hP 4
          have y5 : wc.cell? ⟨wr.heap.size, 5, none⟩ = some (.string ot) := cell_of hP 5
          obtain ⟨S, hS⟩ : ∃ S, S = step u H h img ⟨ok, oa, ob, oc, os, ot⟩ := ⟨_, rfl⟩
          obtain ⟨M, hM⟩ : ∃ M, M = stepM u G h img ⟨ok, oa, ob, oc, os, ot⟩ := ⟨_, rfl⟩
          have HA : Hid (M.a = S.a ∧ M.u = S.u ∧ Agree S.u M.H S.H) := by rw [hS, hM]; exact agree_step hK.st.lt hK.ag h img _
          have HD : Hid (Calls Try.prog 29 #[.pointer (some ⟨q.s, 0, none⟩), .pointer (some ⟨w3.heap.size, 0, none⟩), .agg #[.int .i64 ok, .int .i64 oa, .int .i64 ob, .int .i64 oc, .string os, .string ot]] wc fun e w'' => e = .returned (.agg #[.int .i64 S.a.e, .int .i64 S.a.n, .int .i64 0, .string (st S.a.s)]) ∧ StAt w'' q S.u S.H ∧ Chg q.all wc w'') := by
            rw [hS]; exact do_any wc q u H w3.heap.size 0 C 36 h img ⟨ok, oa, ob, oc, os, ot⟩ hK.st hK.dh hK.dk HI.out.2.2 hK.im
          have HDM : Hid (∀ w', MX w' m u G → w'.heap[w3.heap.size]? = some (.cells C 36) → Calls Try.prog 48 #[.pointer (some ⟨m, 0, none⟩), .pointer (some ⟨w3.heap.size, 0, none⟩), .agg #[.int .i64 ok, .int .i64 oa, .int .i64 ob, .int .i64 oc, .string os, .string ot]] w' fun e w'' => e = .returned (.agg #[.int .i64 S.a.e, .int .i64 S.a.n, .int .i64 0, .string (st S.a.s)]) ∧ MX w'' m S.u M.H ∧ Chg [m] w' w'') := by
            intro w' h1 h2
            have := dom_any w' m u G w3.heap.size 0 C 36 h img ⟨ok, oa, ob, oc, os, ot⟩ h1 (Gd.of hK.st hK.ag) h2 hK.dk HI.out.2.2 hK.im HI.out.2.1
            rw [← hM, HA.out.1, HA.out.2.1] at this
            exact this
          have HL : Hid (S.a.s.length ≤ 100000) := by rw [hS]; exact step_len u H h img _
          clear hS hM hK hP hPq hPm hPd
          go_wp2_with fail
          refine HD.out.mono ?_
          rintro e w5 ⟨rfl, s5, c5⟩
          have h5 := HK0.out.chgq c5
          have p5 := c5.heap HP.out.1 HP.out.2.1
          have H5 : Hid (StAt w5 q S.u S.H ∧ MX w5 m u G ∧ w5.heap[w3.heap.size]? = some (.cells C 36) ∧ w5.heap[w1.heap.size]? = some (.cells #[.pointer (some ⟨q.b, 0, none⟩)] 48) ∧ Ext w w5 ∧ w5.heap[wr.heap.size]? = some (.cells #[.int .i64 ok, .int .i64 oa, .int .i64 ob, .int .i64 oc, .string os, .string ot] 38)) := ⟨s5, h5.1, h5.2.1, h5.2.2.1, h5.2.2.2, p5⟩
          have l5 := lt_of_heap p5
          have t0 : w5.cell? ⟨wr.heap.size, 0, none⟩ = some (.int .i64 ok) := cell_of p5 0
          have t1 : w5.cell? ⟨wr.heap.size, 1, none⟩ = some (.int .i64 oa) := cell_of p5 1
          have t2 : w5.cell? ⟨wr.heap.size, 2, none⟩ = some (.int .i64 ob) := cell_of p5 2
          have t3 : w5.cell? ⟨wr.heap.size, 3, none⟩ = some (.int .i64 oc) := cell_of p5 3
          have t4 : w5.cell? ⟨wr.heap.size, 4, none⟩ = some (.string os) := cell_of p5 4
          have t5 : w5.cell? ⟨wr.heap.size, 5, none⟩ = some (.string ot) := cell_of p5 5
          clear y0 y1 y2 y3 y4 y5 HD s5 c5 h5 p5
          go_wp2_with fail
          have xa : Ext w5 (w5.alloc (.cells #[.int .i64 S.a.e, .int .i64 S.a.n, .int .i64 0, .string (st S.a.s)] 42)) := (Ext.refl w5).alloc _
          refine (HDM.out _ (H5.out.2.1.ext xa) (xa.heap H5.out.2.2.1)).mono ?_
          rintro e w6 ⟨rfl, m6, c6⟩
          have l5' : m < w5.heap.size := H5.out.2.1.lt
          have s6 := (H5.out.1.ext xa).c1 c6 HK0.out.mq
          have d6 := c6.heap (xa.heap H5.out.2.2.1) (by simpa using HK0.out.dm)
          have b6 := c6.heap (xa.heap H5.out.2.2.2.1) (by simpa using HK0.out.bm)
          have p6 := c6.heap (xa.heap H5.out.2.2.2.2.2) (by simpa using HP.out.2.2.1)
          have a6 := c6.heap (heap_alloc_new w5 _) (by simp only [List.mem_singleton]; omega)
          have x6 := (H5.out.2.2.2.2.1.trans xa).chg c6 (fun i hi => by simp only [List.mem_singleton] at hi; subst hi; exact HK0.out.nm)
          have H6 : Hid (StAt w6 q S.u S.H ∧ MX w6 m S.u M.H ∧ w6.heap[w3.heap.size]? = some (.cells C 36) ∧ w6.heap[w1.heap.size]? = some (.cells #[.pointer (some ⟨q.b, 0, none⟩)] 48) ∧ Ext w w6) := ⟨s6, m6, d6, b6, x6⟩
          have lp6 := lt_of_heap p6
          have la6 := lt_of_heap a6
          have r0 : w6.cell? ⟨wr.heap.size, 0, none⟩ = some (.int .i64 ok) := cell_of p6 0
          have r1 : w6.cell? ⟨wr.heap.size, 1, none⟩ = some (.int .i64 oa) := cell_of p6 1
          have r2 : w6.cell? ⟨wr.heap.size, 2, none⟩ = some (.int .i64 ob) := cell_of p6 2
          have r3 : w6.cell? ⟨wr.heap.size, 3, none⟩ = some (.int .i64 oc) := cell_of p6 3
          have r4 : w6.cell? ⟨wr.heap.size, 4, none⟩ = some (.string os) := cell_of p6 4
          have r5 : w6.cell? ⟨wr.heap.size, 5, none⟩ = some (.string ot) := cell_of p6 5
          have v0 : w6.cell? ⟨w5.heap.size, 0, none⟩ = some (.int .i64 S.a.e) := cell_of a6 0
          have v1 : w6.cell? ⟨w5.heap.size, 1, none⟩ = some (.int .i64 S.a.n) := cell_of a6 1
          have v2 : w6.cell? ⟨w5.heap.size, 2, none⟩ = some (.int .i64 0) := cell_of a6 2
          have v3 : w6.cell? ⟨w5.heap.size, 3, none⟩ = some (.string (st S.a.s)) := cell_of a6 3
          clear t0 t1 t2 t3 t4 t5 s6 d6 b6 p6 a6 x6 m6 c6 xa HDM H5 HP
          go_wp2_with fail
          have xb : Ext w6 (w6.alloc (.cells #[.int .i64 S.a.e, .int .i64 S.a.n, .int .i64 0, .string (st S.a.s)] 42)) := (Ext.refl w6).alloc _
          refine (note_any _ w3.heap.size 0 C 36 h img ⟨ok, oa, ob, oc, os, ot⟩ S.a (xb.heap H6.out.2.2.1) HK0.out.dk HL.out).mono ?_
          rintro e w8 ⟨rfl, c8, C8, h8, d8, sz8, o8⟩
          have k0 := HK0.out
          have H8 : Hid (Wst w w8 w1.heap.size w3.heap.size q m C8 S.u M.H S.H (noteH ⟨ok, oa, ob, oc, os, ot⟩ h) (noteI ⟨ok, oa, ob, oc, os, ot⟩ S.a img)) :=
            ⟨(H6.out.1.ext xb).c1 c8 k0.dq, (H6.out.2.1.ext xb).chg c8 (by simpa using Ne.symm k0.dm), HA.out.2.2, h8, d8, c8.heap (xb.heap H6.out.2.2.2.1) (by simpa using k0.bd), k0.mq, k0.dq, k0.dm, k0.bm, k0.bd, k0.bq, (H6.out.2.2.2.2.trans xb).chg c8 (fun i hi => by simp only [List.mem_singleton] at hi; subst hi; exact k0.nd), k0.nm, k0.nd, k0.nb, k0.nq, noteI_size _ _ _ k0.im⟩
          have g8 : w8.cell? ⟨w1.heap.size, 0, none⟩ = some (.pointer (some ⟨q.b, 0, none⟩)) := cell_of H8.out.bt 0
          clear c8 h8 d8 sz8 o8 k0 xb r0 r1 r2 r3 r4 r5 v0 v1 v2 v3 HK0 H6
          go_wp2_with fail
          refine (handed_any w8 q.b m S.u M.H H8.out.st.hb H8.out.mx (Gd.of H8.out.st H8.out.ag)).mono ?_
          rintro e w9 ⟨rfl, x9⟩
          have H9 : Hid (Wst w w9 w1.heap.size w3.heap.size q m C8 S.u M.H S.H (noteH ⟨ok, oa, ob, oc, os, ot⟩ h) (noteI ⟨ok, oa, ob, oc, os, ot⟩ S.a img)) := H8.out.ex x9
          clear x9 g8 H8
          cases quiet
          · go_wp2_with fail
            refine (show_any w9 q S.u S.H H9.out.st).mono ?_
            rintro e w10 ⟨rfl, x10⟩
            have H10 : Hid (Wst w w10 w1.heap.size w3.heap.size q m C8 S.u M.H S.H (noteH ⟨ok, oa, ob, oc, os, ot⟩ h) (noteI ⟨ok, oa, ob, oc, os, ot⟩ S.a img)) := H9.out.ex x10
            clear x10
            go_wp2_with fail
            refine (xshow w10 m S.u M.H (Gd.of H10.out.st H10.out.ag) H10.out.mx).mono ?_
            rintro e w11 ⟨rfl, x11⟩
            rw [Tx.showTo_congr S.u M.H S.H 8 (fun i hi hb => HA.out.2.2 i (by omega) hb)]
            have H11 : Hid (Wst w w11 w1.heap.size w3.heap.size q m C8 S.u M.H S.H (noteH ⟨ok, oa, ob, oc, os, ot⟩ h) (noteI ⟨ok, oa, ob, oc, os, ot⟩ S.a img)) := H10.out.ex x11
            clear x11
            generalize st (Tx.showTo S.u S.H 8) = T at *
            go_wp2_with fail
            refine (check_any w11 q S.u S.H H11.out.st).mono ?_
            rintro e w12 ⟨rfl, x12⟩
            have H12 : Hid (Wst w w12 w1.heap.size w3.heap.size q m C8 S.u M.H S.H (noteH ⟨ok, oa, ob, oc, os, ot⟩ h) (noteI ⟨ok, oa, ob, oc, os, ot⟩ S.a img)) := H11.out.ex x12
            clear x12
            go_wp2
            go_roundw
            case rel =>
              have hrel' : WkR w len w1.heap.size w3.heap.size (.pointer (some ⟨q.s, 0, none⟩)) (.pointer (some ⟨m, 0, none⟩)) (.int .i64 ((k : Int) + 1)) w12 := ⟨k + 1, q, m, C8, S.u, M.H, S.H, _, _, by omega, by go_num, rfl, rfl, H12.out⟩
              first | exact hrel' | ((repeat apply Exists.intro); exact ⟨hrel', rfl⟩)
            case measure => simp [intOf]; omega
          · go_wp2
            go_roundw
            case rel =>
              have hrel' : WkR w len w1.heap.size w3.heap.size (.pointer (some ⟨q.s, 0, none⟩)) (.pointer (some ⟨m, 0, none⟩)) (.int .i64 ((k : Int) + 1)) w9 := ⟨k + 1, q, m, C8, S.u, M.H, S.H, _, _, by omega, by go_num, rfl, rfl, H9.out⟩
              first | exact hrel' | ((repeat apply Exists.intro); exact ⟨hrel', rfl⟩)
            case measure => simp [intOf]; omega
      · have hd2 : decide ((k : Int) < 4398046511104) = false := decide_eq_false (by omega)
        have hd3 : decide ((len : Int) < 4398046511104) = false := decide_eq_false (by omega)
        go_wp2
        go_ret2
        exact ⟨⟨_, rfl⟩, HK.out.ext⟩
    · have hd : decide ((k : Int) < (len : Int)) = false := decide_eq_false (by omega)
      by_cases hL : len < 4398046511104
      · have hd3 : decide ((len : Int) < 4398046511104) = true := decide_eq_true (by omega)
        go_wp2
        go_ret2
        exact ⟨⟨_, rfl⟩, HK.out.ext⟩
      · have hd3 : decide ((len : Int) < 4398046511104) = false := decide_eq_false (by omega)
        go_wp2
        go_ret2
        exact ⟨⟨_, rfl⟩, HK.out.ext⟩
end Go.Proofs.Qxb6500342a

