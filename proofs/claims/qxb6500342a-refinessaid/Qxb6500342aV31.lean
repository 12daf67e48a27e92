/-
  Walks 31: KeepsUpTo.
-/
import Derived.Test.Qxb6500342aV30
import Derived.Deep.CutRange
namespace Go.Proofs.Qxb6500342a
open Go.RowKit
open Go.Proofs
open Pl (Hd)
open Tx (st)
set_option linter.unusedSimpArgs false
set_option linter.unusedVariables false
attribute [local go_sem] alloc_drewN setCell_drewN shape?_drewN

theorem GhIn.low {C C' : Array Value} {u : Nat} {H : Nat → Hd} (hg : GhIn C u H) (h : ∀ j, j < 48 → C'[j]? = C[j]?) : GhIn C' u H :=
  ⟨fun i hi => by rw [h _ (by omega)]; exact hg.used i hi, fun i hi => by rw [h _ (by omega)]; exact hg.k i hi, fun i hi => by rw [h _ (by omega)]; exact hg.d i hi, fun i hi => by rw [h _ (by omega)]; exact hg.l i hi, fun i hi => by rw [h _ (by omega)]; exact hg.f i hi, fun i hi => by rw [h _ (by omega)]; exact hg.s i hi⟩
theorem GhAt.chg {S : List Nat} {w w' : World} {g : Nat} {C : Array Value} {u : Nat} {H : Nat → Hd} {h : Hd} {img : ByteArray} (hh : GhAt w g C u H h img) (hx : Chg S w w') (hn : g ∉ S) : GhAt w' g C u H h img := ⟨hx.heap hh.heap hn, hh.size, hh.gi, hh.dk⟩
theorem Kst.ex {w wr w' : World} {b3 : Nat} {q : SId} {g : Nat} {C : Array Value} {u : Nat} {H : Nat → Hd} {h : Hd} {img : ByteArray} (k : Kst w wr b3 q g C u H h img) (hx : Ext wr w') : Kst w w' b3 q g C u H h img :=
  ⟨k.gh.ext hx, k.st.ext hx, k.gq, hx.heap k.bt, k.bg, k.bq, k.ext.trans hx, k.ng, k.nb, k.nq, k.im⟩
theorem Kst.after {w wr w' : World} {b3 : Nat} {q : SId} {g : Nat} {C C' : Array Value} {u u' : Nat} {H H' : Nat → Hd} {h h' : Hd} {img img' : ByteArray} (k : Kst w wr b3 q g C u H h img) (hc : Chg (g :: q.all) wr w') (gh : GhAt w' g C' u' H' h' img') (st : StAt w' q u' H') (im : img'.size ≤ 64) : Kst w w' b3 q g C' u' H' h' img' :=
  ⟨gh, st, k.gq, hc.heap k.bt (by simp only [List.mem_cons, not_or]; exact ⟨k.bg, k.bq⟩), k.bg, k.bq, k.ext.chg hc (fun i hi => by rcases List.mem_cons.1 hi with rfl | h; exact k.ng; exact k.nq i h), k.ng, k.nb, k.nq, im⟩
theorem stq {w w' : World} {q : SId} {u : Nat} {H : Nat → Hd} {n : Nat} (h : StAt w q u H) (hc : Chg [n] w w') (hn : n ∉ q.all) : StAt w' q u H :=
  h.chg hc (fun k hk => by simp only [List.mem_singleton]; rintro rfl; exact hn hk)
set_option maxRecDepth 100000 in
set_option maxHeartbeats 8000000 in
theorem upto_any (w : World) (x : Option Addr) (len cap : Nat) (hs : Scr w x len) : Calls Try.prog 11 #[.slice x len cap] w fun e w' => e = .returned (.int .i64 (-1)) ∧ Ext w w' := by
  have HS : Hid (Scr w x len) := hs
  have hlen : len ≤ 9223372036854775807 := by rcases hs with h | ⟨_, _, _, _, h, _⟩ <;> omega
  clear hs
  go_enter Try.func11, Try.ntmps11
  go_wp2_with fail
  refine (ground_any _).mono ?_
  rintro e w1 ⟨b, hb, rfl, hB1, x1⟩
  have X1 : Hid (BoardAt w1 b 0 ∧ Ext w w1 ∧ w.heap.size ≤ b ∧ b < w1.heap.size) := ⟨hB1, x1, hb, lt_of_heap hB1⟩
  clear hB1 x1 hb
  go_wp2_with fail
  refine (pnew_any _ b (X1.out.1.ext ((Ext.refl w1).alloc _)) (fun _ => Pl.zeroH)).mono ?_
  rintro e w2 ⟨q, hqb, hqs, hqL, rfl, s2, x2⟩
  have z2 := x2.heap (heap_alloc_new w1 _)
  have X2 : Hid (StAt w2 q 0 (fun _ => Pl.zeroH) ∧ Ext w w2 ∧ w2.heap[w1.heap.size]? = some (.cells #[.pointer (some ⟨b, 0, none⟩)] 48) ∧ q.b = b ∧ w1.heap.size + 1 ≤ q.s ∧ w1.heap.size + 1 ≤ q.L) :=
    ⟨s2, X1.out.2.1.trans (((Ext.refl w1).alloc _).trans x2), z2, hqb, by simpa using hqs, by simpa using hqL⟩
  clear s2 x2 z2 hqb hqs hqL
  go_wp2
  go_loopw [4, 5, 6] (fun x g i wr => KuR w len w1.heap.size x g i wr) (fun _ _ i _ => len - (intOf i).toNat)
  case atStart =>
    obtain ⟨hB1, x1, hb0, hb1⟩ := X1.out
    obtain ⟨s2, x2, z2, hqb, hqs, hqL⟩ := X2.out
    have zero : Hd := ⟨0, 0, 0, 0, 0⟩
    obtain ⟨f1, f2, f3⟩ := gh_fresh ⟨0, 0, 0, 0, 0⟩ ⟨#[]⟩
    have l1 := lt_of_heap s2.hs
    have l2 := lt_of_heap s2.hL
    have l3 := lt_of_heap s2.hb
    have l4 := lt_of_heap z2
    have sz := x1.size
    refine ⟨0, q, w2.heap.size, ghZ ⟨0, 0, 0, 0, 0⟩ ⟨#[]⟩, 0, fun _ => Pl.zeroH, ⟨0, 0, 0, 0, 0⟩, ⟨#[]⟩, by omega, rfl, rfl, rfl, ⟨⟨heap_alloc_new w2 _, f3, f1, f2⟩, s2.ext ((Ext.refl w2).alloc _), ?_, ?_, ?_, ?_, x2.alloc _, ?_, ?_, ?_, by decide⟩⟩
    · simp [SId.all]; omega
    · rw [hqb]; exact heap_alloc_lt z2
    · omega
    · simp [SId.all]; omega
    · have := x2.size; omega
    · omega
    · intro k hk; simp [SId.all] at hk; have := x2.size; omega
  case round =>
    obtain ⟨k, q, g, C, u, H, h, img, hk, rfl, rfl, rfl, hK⟩ := hrel
    have HK : Hid (Kst w wr w1.heap.size q g C u H h img) := hK
    clear hK
    by_cases hlt : k < len
    · have hk0 : (k : Int) < (len : Int) := by omega
      have hd : decide ((k : Int) < (len : Int)) = true := decide_eq_true hk0
      by_cases hmx : k < 4398046511104
      · have hd2 : decide ((k : Int) < 4398046511104) = true := decide_eq_true (by omega)
        obtain ⟨B, off, hx, hB, hop⟩ : ∃ B off, x = some ⟨B, off, none⟩ ∧ B < w.heap.size ∧ ∀ i, i < len → ∃ o, OpAt w B (off + i * 6) o := by
          rcases HS.out with h0 | ⟨B, off, h1, h2, _, h3⟩
          · omega
          · exact ⟨B, off, h1, h2, h3⟩
        subst hx
        obtain ⟨⟨ok, oa, ob, oc, os, ot⟩, ho⟩ := hop k hlt
        replace ho := ho.ext HK.out.ext hB
        obtain ⟨o0, o1, o2, o3, o4, o5, oia, oib, ohs⟩ := ho
        simp only at o0 o1 o2 o3 o4 o5 oia oib ohs
        have HI : Hid (in64 oa ∧ in64 ob ∧ os.size ≤ 9223372036854775807) := ⟨oia, oib, ohs⟩
        clear hop oia oib ohs
        have k0 := HK.out
        have l1 := lt_of_heap k0.bt
        have l2 := lt_of_heap k0.gh.heap
        clear k0
        go_upto_if 31 with fail
        go_cut [4, 5] from 15 to 60 (fun xs xg wc => ∃ (q : SId) (g : Nat) (C : Array Value) (u : Nat) (H : Nat → Hd), xs = .pointer (some ⟨q.s, 0, none⟩) ∧ xg = .pointer (some ⟨g, 0, none⟩) ∧ Kst w wc w1.heap.size q g C u H h img ∧ wc.heap[wr.heap.size]? = some (.cells #[.int .i64 ok, .int .i64 oa, .int .i64 ob, .int .i64 oc, .string os, .string ot] 38) ∧ wr.heap.size ∉ q.all ∧ wr.heap.size ≠ g)
        case first =>
          by_cases hk1 : ok = 1
          · refine wp_cond_split rfl (fun _ => ?_) (fun h => absurd h (by simp [hk1]))
            subst hk1
            have k0 := HK.out
            go_wp2_with fail
            refine (ground_any _).mono ?_
            rintro e w3 ⟨bn, hbn, rfl, hB3, x3⟩
            have xa : Ext wr w3 := ((Ext.refl wr).alloc _).trans x3
            have zb := xa.heap k0.bt
            have zb0 : w3.cell? ⟨w1.heap.size, 0, none⟩ = some (.pointer (some ⟨q.b, 0, none⟩)) := cell_of zb 0
            have zbf : w3.frozen? ⟨w1.heap.size, 0, none⟩ = false := frozen_of zb 0
            have l1 := lt_of_heap k0.bt
            have l2 := lt_of_heap k0.gh.heap
            rw [World.size_alloc] at hbn
            have H3 : Hid (BoardAt w3 bn 0 ∧ Ext wr w3 ∧ w3.heap[w1.heap.size]? = some (.cells #[.pointer (some ⟨q.b, 0, none⟩)] 48) ∧ w3.heap[wr.heap.size]? = some (.cells #[.int .i64 1, .int .i64 oa, .int .i64 ob, .int .i64 oc, .string os, .string ot] 38) ∧ wr.heap.size + 1 ≤ bn) := ⟨hB3, xa, zb, x3.heap (heap_alloc_new wr _), hbn⟩
            have H0 : Hid (Kst w wr w1.heap.size q g C u H h img ∧ w1.heap.size < wr.heap.size ∧ g < wr.heap.size) := ⟨k0, l1, l2⟩
            clear k0 hbn hB3 x3 xa zb HK
            go_wp2_with fail
            have hbb : bn ≠ w1.heap.size := by have := H3.out.2.2.2.2; have := H0.out.2.1; omega
            refine (pnew_any _ bn (by unfold BoardAt; rw [heap_set_ne hbb]; exact H3.out.1) (fun _ => Pl.zeroH)).mono ?_
            rintro e w4 ⟨qn, hqb, hqs, hqL, rfl, s4, x4⟩
            rw [size_set] at hqs hqL
            obtain ⟨k0, l1, l2⟩ := H0.out
            obtain ⟨hB3, xa, zb, zp, hbn⟩ := H3.out
            have cx : Chg [w1.heap.size] wr w4 := ((Chg.of_ext xa).setCell (by simp) _).then x4
            have g4 := k0.gh.chg cx (by simpa using Ne.symm k0.bg)
            have e4 : Ext w w4 := k0.ext.chg cx (fun i hi => by simp only [List.mem_singleton] at hi; subst hi; exact k0.nb)
            have zb4 : w4.heap[w1.heap.size]? = some (.cells #[.pointer (some ⟨bn, 0, none⟩)] 48) := x4.heap (heap_set zb 0 _)
            have zp4 : w4.heap[wr.heap.size]? = some (.cells #[.int .i64 1, .int .i64 oa, .int .i64 ob, .int .i64 oc, .string os, .string ot] 38) := x4.heap (by rw [heap_set_ne (by omega)]; exact zp)
            have j0 : w4.cell? ⟨g, 48, none⟩ = some (.int .i64 h.k) := (cell_of g4.heap _).trans g4.dk.k
            have j1 : w4.cell? ⟨g, 49, none⟩ = some (.int .i64 h.d) := (cell_of g4.heap _).trans g4.dk.d
            have j2 : w4.cell? ⟨g, 50, none⟩ = some (.int .i64 h.l) := (cell_of g4.heap _).trans g4.dk.l
            have j3 : w4.cell? ⟨g, 51, none⟩ = some (.int .i64 h.f) := (cell_of g4.heap _).trans g4.dk.f
            have j4 : w4.cell? ⟨g, 52, none⟩ = some (.int .i64 h.s) := (cell_of g4.heap _).trans g4.dk.s
            have j5 : w4.cell? ⟨g, 53, none⟩ = some (.string img) := (cell_of g4.heap _).trans g4.dk.i
            have f4 := lt_of_heap zb4
            have f5 := lt_of_heap zp4
            have f6 := xa.size
            have f9 := lt_of_heap zp
            have f7 := x4.size
            rw [size_set] at f7
            have f8 := k0.ext.size
            obtain ⟨fr1, fr2, fr3⟩ := gh_fresh h img
            have KN : Hid (Kst w (w4.alloc (.cells (ghZ h img) 56)) w1.heap.size qn w4.heap.size (ghZ h img) 0 (fun _ => Pl.zeroH) h img ∧ (w4.alloc (.cells (ghZ h img) 56)).heap[wr.heap.size]? = some (.cells #[.int .i64 1, .int .i64 oa, .int .i64 ob, .int .i64 oc, .string os, .string ot] 38) ∧ wr.heap.size ∉ qn.all ∧ wr.heap.size ≠ w4.heap.size) := by
              refine ⟨⟨⟨heap_alloc_new w4 _, fr3, fr1, fr2⟩, s4.ext ((Ext.refl w4).alloc _), notIn s4 (Nat.le_refl _), ?_, ?_, ?_, e4.alloc _, e4.size, k0.nb, ?_, k0.im⟩, heap_alloc_lt zp4, ?_, ?_⟩
              · rw [hqb]; exact heap_alloc_lt zb4
              · omega
              · simp [SId.all]; omega
              · intro i hi; simp [SId.all] at hi; omega
              · simp [SId.all]; omega
              · omega
            clear fr1 fr2 fr3 g4 cx zb4 zp4 e4 hB3 xa zb zp s4 x4
            go_wp2_with fail
            go_meet
            case rel =>
              refine ⟨qn, w4.heap.size, ghZ h img, 0, fun _ => Pl.zeroH, rfl, rfl, KN.out.1, KN.out.2.1, KN.out.2.2.1, KN.out.2.2.2⟩
          · refine wp_cond_split rfl (fun h => absurd h (by simp [hk1])) (fun _ => ?_)
            go_wp2_with fail
            go_meet
            case rel =>
              exact ⟨q, g, C, u, H, rfl, rfl, HK.out.ex ((Ext.refl wr).alloc _), heap_alloc_new wr _, notIn HK.out.st (Nat.le_refl _), by omega⟩
        case rest =>
          clear o0 o1 o2 o3 o4 o5 HK
          obtain ⟨q, g, C, u, H, rfl, rfl, hK, hP, hPq, hPg⟩ := hcut
          go_wp2_with fail
          have K0 := hK
          have P0 : wc.heap[wr.heap.size]? = some (.cells #[.int .i64 ok, .int .i64 oa, .int .i64 ob, .int .i64 oc, .string os, .string ot] 38) := hP
          have HP : Hid (wc.heap[wr.heap.size]? = some (.cells #[.int .i64 ok, .int .i64 oa, .int .i64 ob, .int .i64 oc, .string os, .string ot] 38) ∧ wr.heap.size ∉ q.all ∧ wr.heap.size ≠ g) := ⟨P0, hPq, hPg⟩
          have HK0 : Hid (Kst w wc w1.heap.size q g C u H h img) := K0
          have y0 : ∀ w', Chg q.all wc w' → w'.cell? ⟨wr.heap.size, 0, none⟩ = some (.int .i64 ok) := fun w' hx => cell_of (hx.heap P0 HP.out.2.1) 0
          have y1 : ∀ w', Chg q.all wc w' → w'.cell? ⟨wr.heap.size, 1, none⟩ = some (.int .i64 oa) := fun w' hx => cell_of (hx.heap P0 HP.out.2.1) 1
          have y2 : ∀ w', Chg q.all wc w' → w'.cell? ⟨wr.heap.size, 2, none⟩ = some (.int .i64 ob) := fun w' hx => cell_of (hx.heap P0 HP.out.2.1) 2
          have y3 : ∀ w', Chg q.all wc w' → w'.cell? ⟨wr.heap.size, 3, none⟩ = some (.int .i64 oc) := fun w' hx => cell_of (hx.heap P0 HP.out.2.1) 3
          have y4 : ∀ w', Chg q.all wc w' → w'.cell? ⟨wr.heap.size, 4, none⟩ = some (.string os) := fun w' hx => cell_of (hx.heap P0 HP.out.2.1) 4
          have y5 : ∀ w', Chg q.all wc w' → w'.cell? ⟨wr.heap.size, 5, none⟩ = some (.string ot) := fun w' hx => cell_of (hx.heap P0 HP.out.2.1) 5
          obtain ⟨S, hS⟩ : ∃ S, S = step u H h img ⟨ok, oa, ob, oc, os, ot⟩ := ⟨_, rfl⟩
          have HD : Hid (∀ w', Ext wc w' → Calls Try.prog 29 #[.pointer (some ⟨q.s, 0, none⟩), .pointer (some ⟨g, 48, none⟩), .agg #[.int .i64 ok, .int .i64 oa, .int .i64 ob, .int .i64 oc, .string os, .string ot]] w' fun e w'' => e = .returned (.agg #[.int .i64 S.a.e, .int .i64 S.a.n, .int .i64 0, .string (st S.a.s)]) ∧ StAt w'' q S.u S.H ∧ Chg q.all w' w'') := by
            rw [hS]; exact fun w' hx => do_any w' q u H g 48 C 56 h img ⟨ok, oa, ob, oc, os, ot⟩ (HK0.out.st.ext hx) (HK0.out.gh.ext hx).heap HK0.out.gh.dk HI.out.2.2 HK0.out.im
          have HKp : Hid (∀ w', GhAt w' g C u H h img → StAt w' q S.u S.H → Calls Try.prog 30 #[.pointer (some ⟨q.s, 0, none⟩), .pointer (some ⟨g, 0, none⟩), .agg #[.int .i64 ok, .int .i64 oa, .int .i64 ob, .int .i64 oc, .string os, .string ot], .agg #[.int .i64 S.a.e, .int .i64 S.a.n, .int .i64 0, .string (st S.a.s)]] w' fun e w'' => e = .returned (.bool true) ∧ (∃ C', GhAt w'' g C' S.u S.H h img) ∧ Chg [g] w' w'') := by
            rw [hS]; exact fun w' hg hs => kept_any w' q g C u H h img ⟨ok, oa, ob, oc, os, ot⟩ hg HK0.out.st.lt hs HK0.out.gq HI.out.2.2 HK0.out.im HI.out.1 HI.out.2.1 HK0.out.st.good
          have HL : Hid (S.a.s.length ≤ 100000) := by rw [hS]; exact step_len u H h img _
          have hl0 := lt_of_heap P0
          clear hS P0 K0 hK hP
          refine Peel.region 7 2 1 [0, 1, 2, 3, 4] (Chg q.all wc) (by kernel_rfl) (by kernel_rfl) (Chg.refl _ wc).drew ?_
          simp only [Peel.pick, List.filterMap_cons, List.filterMap_nil, List.getElem?_cons_zero, List.getElem?_cons_succ]
          repeat (first
            | (refine Peel.q_move _ (by first | exact .inl rfl | exact .inr rfl) rfl ?_; simp only [Act.put, List.setIfInBounds_toArray, List.set, Act.eval, List.getD_toArray, List.getD_cons_zero, List.getD_cons_succ])
            | (apply Peel.q_value; rfl; (intro w' hw'; simp [go_sem, hw', y0, y1, y2, y3, y4, y5]; rfl); simp only [Act.put, List.setIfInBounds_toArray, List.set]))
          refine Peel.any_two (i := 5) (j := 6) (by kernel_rfl) ?_ ?_
          · refine Peel.x_call rfl (f := 29) (args := #[.pointer (some ⟨q.s, 0, none⟩), .pointer (some ⟨g, 48, none⟩), .agg #[.int .i64 ok, .int .i64 oa, .int .i64 ob, .int .i64 oc, .string os, .string ot]]) rfl (by simp [go_sem]) ?_
            refine (HD.out _ ((Ext.refl wc).drew)).mono ?_
            rintro e w5 ⟨rfl, s5, c5⟩
            have d5 : Chg q.all wc w5 := ((Chg.refl q.all wc).drew).trans c5
            refine ⟨_, rfl, d5, ?_⟩
            simp only [Act.put, List.setIfInBounds_toArray, List.set]
            refine Peel.any_one (i := 6) (by kernel_rfl) ?_
            refine Peel.x_value rfl rfl (w' := w5.alloc (.cells anC 42)) (v := .pointer (some ⟨w5.heap.size, 0, none⟩)) (by simp [go_sem]; try rfl) (d5.alloc _) ?_
            simp only [Act.put, List.setIfInBounds_toArray, List.set]
            refine Peel.any_end (by kernel_rfl) rfl (by kernel_rfl) ?_
            simp only [List.drop]
            have h7 := d5.heap HP.out.1 HP.out.2.1
            have t0 : w5.cell? ⟨wr.heap.size, 0, none⟩ = some (.int .i64 ok) := cell_of h7 0
            have t1 : w5.cell? ⟨wr.heap.size, 1, none⟩ = some (.int .i64 oa) := cell_of h7 1
            have t2 : w5.cell? ⟨wr.heap.size, 2, none⟩ = some (.int .i64 ob) := cell_of h7 2
            have t3 : w5.cell? ⟨wr.heap.size, 3, none⟩ = some (.int .i64 oc) := cell_of h7 3
            have t4 : w5.cell? ⟨wr.heap.size, 4, none⟩ = some (.string os) := cell_of h7 4
            have t5 : w5.cell? ⟨wr.heap.size, 5, none⟩ = some (.string ot) := cell_of h7 5
            have hl5 := lt_of_heap h7
            have hy7 : (w5.alloc (.cells #[.int .i64 S.a.e, .int .i64 S.a.n, .int .i64 0, .string (st S.a.s)] 42)).heap[wr.heap.size]? = some (.cells #[.int .i64 ok, .int .i64 oa, .int .i64 ob, .int .i64 oc, .string os, .string ot] 38) := heap_alloc_lt h7
            have hy8 : (w5.alloc (.cells #[.int .i64 S.a.e, .int .i64 S.a.n, .int .i64 0, .string (st S.a.s)] 42)).heap[w5.heap.size]? = some (.cells #[.int .i64 S.a.e, .int .i64 S.a.n, .int .i64 0, .string (st S.a.s)] 42) := heap_alloc_new w5 _
            have sy : StAt (w5.alloc (.cells #[.int .i64 S.a.e, .int .i64 S.a.n, .int .i64 0, .string (st S.a.s)] 42)) q S.u S.H := s5.ext ((Ext.refl w5).alloc _)
            have cy : Chg q.all wc (w5.alloc (.cells #[.int .i64 S.a.e, .int .i64 S.a.n, .int .i64 0, .string (st S.a.s)] 42)) := d5.alloc _
            have hp8g : w5.heap.size ≠ g := by have := lt_of_heap HK0.out.gh.heap; have := d5.size; omega
            clear y0 y1 y2 y3 y4 y5 h7 s5 c5 d5
            go_wp2_with fail
            refine (HKp.out _ (HK0.out.gh.chg cy HK0.out.gq) sy).mono ?_
            rintro e wz ⟨rfl, ⟨C', gz⟩, cz⟩
            have z7 : wz.heap[wr.heap.size]? = some (.cells #[.int .i64 ok, .int .i64 oa, .int .i64 ob, .int .i64 oc, .string os, .string ot] 38) := cz.heap hy7 (by simpa using HP.out.2.2)
            have z8 : wz.heap[w5.heap.size]? = some (.cells #[.int .i64 S.a.e, .int .i64 S.a.n, .int .i64 0, .string (st S.a.s)] 42) := cz.heap hy8 (by simpa using hp8g)
            have HZ : Hid (GhAt wz g C' S.u S.H h img ∧ StAt wz q S.u S.H ∧ Chg (g :: q.all) wc wz) := ⟨gz, stq sy cz HK0.out.gq, (cy.mono (fun i hi => List.mem_cons_of_mem _ hi)).trans (cz.mono (by simp))⟩
            have m0 : ∀ w', Ext wz w' → w'.cell? ⟨wr.heap.size, 0, none⟩ = some (.int .i64 ok) := fun w' hx => cell_of (hx.heap z7) 0
            have m1 : ∀ w', Ext wz w' → w'.cell? ⟨wr.heap.size, 1, none⟩ = some (.int .i64 oa) := fun w' hx => cell_of (hx.heap z7) 1
            have m2 : ∀ w', Ext wz w' → w'.cell? ⟨wr.heap.size, 2, none⟩ = some (.int .i64 ob) := fun w' hx => cell_of (hx.heap z7) 2
            have m3 : ∀ w', Ext wz w' → w'.cell? ⟨wr.heap.size, 3, none⟩ = some (.int .i64 oc) := fun w' hx => cell_of (hx.heap z7) 3
            have m4 : ∀ w', Ext wz w' → w'.cell? ⟨wr.heap.size, 4, none⟩ = some (.string os) := fun w' hx => cell_of (hx.heap z7) 4
            have m5 : ∀ w', Ext wz w' → w'.cell? ⟨wr.heap.size, 5, none⟩ = some (.string ot) := fun w' hx => cell_of (hx.heap z7) 5
            have n0 : ∀ w', Ext wz w' → w'.cell? ⟨w5.heap.size, 0, none⟩ = some (.int .i64 S.a.e) := fun w' hx => cell_of (hx.heap z8) 0
            have n1 : ∀ w', Ext wz w' → w'.cell? ⟨w5.heap.size, 1, none⟩ = some (.int .i64 S.a.n) := fun w' hx => cell_of (hx.heap z8) 1
            have n2 : ∀ w', Ext wz w' → w'.cell? ⟨w5.heap.size, 2, none⟩ = some (.int .i64 0) := fun w' hx => cell_of (hx.heap z8) 2
            have n3 : ∀ w', Ext wz w' → w'.cell? ⟨w5.heap.size, 3, none⟩ = some (.string (st S.a.s)) := fun w' hx => cell_of (hx.heap z8) 3
            clear gz cz z7 z8 hy7 hy8 cy sy
            go_wp2_with fail
            refine Peel.region 5 0 1 [0, 1, 2, 3, 4] (Ext wz) (by kernel_rfl) (by kernel_rfl) (Ext.refl wz).drew ?_
            simp only [Peel.pick, List.filterMap_cons, List.filterMap_nil, List.getElem?_cons_zero, List.getElem?_cons_succ]
            repeat (first
              | (refine Peel.q_move _ (by first | exact .inl rfl | exact .inr rfl) rfl ?_; simp only [Act.put, List.setIfInBounds_toArray, List.set, Act.eval, List.getD_toArray, List.getD_cons_zero, List.getD_cons_succ])
              | (apply Peel.q_value; rfl; (intro w' hw'; simp [go_sem, hw', m0, m1, m2, m3, m4, m5, n0, n1, n2, n3]; rfl); simp only [Act.put, List.setIfInBounds_toArray, List.set]))
            refine Peel.any_end (C := Ext wz) (by kernel_rfl) rfl (by kernel_rfl) ?_
            simp only [List.drop]
            clear m0 m1 m2 m3 m4 m5 n0 n1 n2 n3
            go_wp2_with fail
            have gzd := HZ.out.1.ext (Ext.refl wz).drew
            refine (note_any _ g 48 C' 56 h img ⟨ok, oa, ob, oc, os, ot⟩ S.a gzd.heap gzd.dk HL.out).mono ?_
            rintro e w8 ⟨rfl, c8, C8, h8, d8, sz8, o8⟩
            have H8 : Hid (Kst w w8 w1.heap.size q g C8 S.u S.H (noteH ⟨ok, oa, ob, oc, os, ot⟩ h) (noteI ⟨ok, oa, ob, oc, os, ot⟩ S.a img)) :=
              HK0.out.after (HZ.out.2.2.trans ((Chg.of_ext (Ext.refl wz).drew).trans (c8.mono (by simp)))) ⟨h8, sz8.trans gzd.size, gzd.gi.low (fun j hj => o8 j (by omega)), d8⟩ (stq (HZ.out.2.1.ext (Ext.refl wz).drew) c8 HK0.out.gq) (noteI_size _ _ _ HK0.out.im)
            clear c8 h8 d8 sz8 o8 gzd
            go_wp2
            go_roundw
            case rel =>
              have hrel' : KuR w len w1.heap.size (.pointer (some ⟨q.s, 0, none⟩)) (.pointer (some ⟨g, 0, none⟩)) (.int .i64 ((k : Int) + 1)) w8 := ⟨k + 1, q, g, C8, S.u, S.H, _, _, by omega, by go_num, rfl, rfl, H8.out⟩
              first | exact hrel' | ((repeat apply Exists.intro); exact ⟨hrel', rfl⟩)
            case measure => simp [intOf]; omega
          · refine Peel.x_value rfl rfl (w' := (wc.drew).alloc (.cells anC 42)) (v := .pointer (some ⟨wc.heap.size, 0, none⟩)) (by simp [go_sem]; try rfl) ((Chg.refl q.all wc).drew.alloc _) ?_
            simp only [Act.put, List.setIfInBounds_toArray, List.set]
            refine Peel.any_one (i := 5) (by kernel_rfl) ?_
            refine Peel.x_call rfl (f := 29) (args := #[.pointer (some ⟨q.s, 0, none⟩), .pointer (some ⟨g, 48, none⟩), .agg #[.int .i64 ok, .int .i64 oa, .int .i64 ob, .int .i64 oc, .string os, .string ot]]) rfl (by simp [go_sem]) ?_
            refine (HD.out _ ((Ext.refl wc).drew.alloc _)).mono ?_
            rintro e w5 ⟨rfl, s5, c5⟩
            have d5 : Chg q.all wc w5 := ((Chg.refl q.all wc).drew.alloc _).trans c5
            have hnq : wc.heap.size ∉ q.all := notIn HK0.out.st (Nat.le_refl _)
            have z5 : w5.heap[wc.heap.size]? = some (.cells anC 42) := c5.heap (heap_alloc_new wc.drew _) hnq
            refine ⟨_, rfl, d5, ?_⟩
            simp only [Act.put, List.setIfInBounds_toArray, List.set]
            refine Peel.any_end (by kernel_rfl) rfl (by kernel_rfl) ?_
            simp only [List.drop]
            have h7 := d5.heap HP.out.1 HP.out.2.1
            have t0 : w5.cell? ⟨wr.heap.size, 0, none⟩ = some (.int .i64 ok) := cell_of h7 0
            have t1 : w5.cell? ⟨wr.heap.size, 1, none⟩ = some (.int .i64 oa) := cell_of h7 1
            have t2 : w5.cell? ⟨wr.heap.size, 2, none⟩ = some (.int .i64 ob) := cell_of h7 2
            have t3 : w5.cell? ⟨wr.heap.size, 3, none⟩ = some (.int .i64 oc) := cell_of h7 3
            have t4 : w5.cell? ⟨wr.heap.size, 4, none⟩ = some (.string os) := cell_of h7 4
            have t5 : w5.cell? ⟨wr.heap.size, 5, none⟩ = some (.string ot) := cell_of h7 5
            obtain ⟨zc, zf⟩ := res_cells z5
            have x0 := zc 0
            have x1 := zc 1
            have x2 := zc 2
            have x3 := zc 3
            have hne : wr.heap.size ≠ wc.heap.size := by omega
            have hne' : wc.heap.size ≠ wr.heap.size := by omega
            have hy7 : (((((w5.setCell ⟨wc.heap.size, 0, none⟩ (.int .i64 S.a.e)).setCell ⟨wc.heap.size, 1, none⟩ (.int .i64 S.a.n)).setCell ⟨wc.heap.size, 2, none⟩ (.int .i64 0)).setCell ⟨wc.heap.size, 3, none⟩ (.string (st S.a.s)))).heap[wr.heap.size]? = some (.cells #[.int .i64 ok, .int .i64 oa, .int .i64 ob, .int .i64 oc, .string os, .string ot] 38) := by rw [heap_set4 hne]; exact h7
            have hy8 : (((((w5.setCell ⟨wc.heap.size, 0, none⟩ (.int .i64 S.a.e)).setCell ⟨wc.heap.size, 1, none⟩ (.int .i64 S.a.n)).setCell ⟨wc.heap.size, 2, none⟩ (.int .i64 0)).setCell ⟨wc.heap.size, 3, none⟩ (.string (st S.a.s)))).heap[wc.heap.size]? = some (.cells #[.int .i64 S.a.e, .int .i64 S.a.n, .int .i64 0, .string (st S.a.s)] 42) := heap_set (heap_set (heap_set (heap_set z5 0 _) 1 _) 2 _) 3 _
            have cn := chg_set4 (S := [wc.heap.size]) (r := wc.heap.size) (Chg.refl _ w5) (.inl (by simp)) (.int .i64 S.a.e) (.int .i64 S.a.n) (.int .i64 0) (.string (st S.a.s))
            have sy : StAt (((((w5.setCell ⟨wc.heap.size, 0, none⟩ (.int .i64 S.a.e)).setCell ⟨wc.heap.size, 1, none⟩ (.int .i64 S.a.n)).setCell ⟨wc.heap.size, 2, none⟩ (.int .i64 0)).setCell ⟨wc.heap.size, 3, none⟩ (.string (st S.a.s)))) q S.u S.H := stq s5 cn hnq
            have cy : Chg q.all wc (((((w5.setCell ⟨wc.heap.size, 0, none⟩ (.int .i64 S.a.e)).setCell ⟨wc.heap.size, 1, none⟩ (.int .i64 S.a.n)).setCell ⟨wc.heap.size, 2, none⟩ (.int .i64 0)).setCell ⟨wc.heap.size, 3, none⟩ (.string (st S.a.s)))) := chg_set4 (r := wc.heap.size) d5 (.inr (Nat.le_refl _)) _ _ _ _
            have hp8g : wc.heap.size ≠ g := by have := lt_of_heap HK0.out.gh.heap; omega
            clear y0 y1 y2 y3 y4 y5 h7 s5 c5 d5 zc z5 cn
            go_wp2_with fail
            refine (HKp.out _ (HK0.out.gh.chg cy HK0.out.gq) sy).mono ?_
            rintro e wz ⟨rfl, ⟨C', gz⟩, cz⟩
            have z7 : wz.heap[wr.heap.size]? = some (.cells #[.int .i64 ok, .int .i64 oa, .int .i64 ob, .int .i64 oc, .string os, .string ot] 38) := cz.heap hy7 (by simpa using HP.out.2.2)
            have z8 : wz.heap[wc.heap.size]? = some (.cells #[.int .i64 S.a.e, .int .i64 S.a.n, .int .i64 0, .string (st S.a.s)] 42) := cz.heap hy8 (by simpa using hp8g)
            have HZ : Hid (GhAt wz g C' S.u S.H h img ∧ StAt wz q S.u S.H ∧ Chg (g :: q.all) wc wz) := ⟨gz, stq sy cz HK0.out.gq, (cy.mono (fun i hi => List.mem_cons_of_mem _ hi)).trans (cz.mono (by simp))⟩
            have m0 : ∀ w', Ext wz w' → w'.cell? ⟨wr.heap.size, 0, none⟩ = some (.int .i64 ok) := fun w' hx => cell_of (hx.heap z7) 0
            have m1 : ∀ w', Ext wz w' → w'.cell? ⟨wr.heap.size, 1, none⟩ = some (.int .i64 oa) := fun w' hx => cell_of (hx.heap z7) 1
            have m2 : ∀ w', Ext wz w' → w'.cell? ⟨wr.heap.size, 2, none⟩ = some (.int .i64 ob) := fun w' hx => cell_of (hx.heap z7) 2
            have m3 : ∀ w', Ext wz w' → w'.cell? ⟨wr.heap.size, 3, none⟩ = some (.int .i64 oc) := fun w' hx => cell_of (hx.heap z7) 3
            have m4 : ∀ w', Ext wz w' → w'.cell? ⟨wr.heap.size, 4, none⟩ = some (.string os) := fun w' hx => cell_of (hx.heap z7) 4
            have m5 : ∀ w', Ext wz w' → w'.cell? ⟨wr.heap.size, 5, none⟩ = some (.string ot) := fun w' hx => cell_of (hx.heap z7) 5
            have n0 : ∀ w', Ext wz w' → w'.cell? ⟨wc.heap.size, 0, none⟩ = some (.int .i64 S.a.e) := fun w' hx => cell_of (hx.heap z8) 0
            have n1 : ∀ w', Ext wz w' → w'.cell? ⟨wc.heap.size, 1, none⟩ = some (.int .i64 S.a.n) := fun w' hx => cell_of (hx.heap z8) 1
            have n2 : ∀ w', Ext wz w' → w'.cell? ⟨wc.heap.size, 2, none⟩ = some (.int .i64 0) := fun w' hx => cell_of (hx.heap z8) 2
            have n3 : ∀ w', Ext wz w' → w'.cell? ⟨wc.heap.size, 3, none⟩ = some (.string (st S.a.s)) := fun w' hx => cell_of (hx.heap z8) 3
            clear gz cz z7 z8 hy7 hy8 cy sy
            go_wp2_with fail
            refine Peel.region 5 0 1 [0, 1, 2, 3, 4] (Ext wz) (by kernel_rfl) (by kernel_rfl) (Ext.refl wz).drew ?_
            simp only [Peel.pick, List.filterMap_cons, List.filterMap_nil, List.getElem?_cons_zero, List.getElem?_cons_succ]
            repeat (first
              | (refine Peel.q_move _ (by first | exact .inl rfl | exact .inr rfl) rfl ?_; simp only [Act.put, List.setIfInBounds_toArray, List.set, Act.eval, List.getD_toArray, List.getD_cons_zero, List.getD_cons_succ])
              | (apply Peel.q_value; rfl; (intro w' hw'; simp [go_sem, hw', m0, m1, m2, m3, m4, m5, n0, n1, n2, n3]; rfl); simp only [Act.put, List.setIfInBounds_toArray, List.set]))
            refine Peel.any_end (C := Ext wz) (by kernel_rfl) rfl (by kernel_rfl) ?_
            simp only [List.drop]
            clear m0 m1 m2 m3 m4 m5 n0 n1 n2 n3
            go_wp2_with fail
            have gzd := HZ.out.1.ext (Ext.refl wz).drew
            refine (note_any _ g 48 C' 56 h img ⟨ok, oa, ob, oc, os, ot⟩ S.a gzd.heap gzd.dk HL.out).mono ?_
            rintro e w8 ⟨rfl, c8, C8, h8, d8, sz8, o8⟩
            have H8 : Hid (Kst w w8 w1.heap.size q g C8 S.u S.H (noteH ⟨ok, oa, ob, oc, os, ot⟩ h) (noteI ⟨ok, oa, ob, oc, os, ot⟩ S.a img)) :=
              HK0.out.after (HZ.out.2.2.trans ((Chg.of_ext (Ext.refl wz).drew).trans (c8.mono (by simp)))) ⟨h8, sz8.trans gzd.size, gzd.gi.low (fun j hj => o8 j (by omega)), d8⟩ (stq (HZ.out.2.1.ext (Ext.refl wz).drew) c8 HK0.out.gq) (noteI_size _ _ _ HK0.out.im)
            clear c8 h8 d8 sz8 o8 gzd
            go_wp2
            go_roundw
            case rel =>
              have hrel' : KuR w len w1.heap.size (.pointer (some ⟨q.s, 0, none⟩)) (.pointer (some ⟨g, 0, none⟩)) (.int .i64 ((k : Int) + 1)) w8 := ⟨k + 1, q, g, C8, S.u, S.H, _, _, by omega, by go_num, rfl, rfl, H8.out⟩
              first | exact hrel' | ((repeat apply Exists.intro); exact ⟨hrel', rfl⟩)
            case measure => simp [intOf]; omega
      · have hd2 : decide ((k : Int) < 4398046511104) = false := decide_eq_false (by omega)
        go_wp2
        go_ret
        exact ⟨rfl, HK.out.ext⟩
    · have hd : decide ((k : Int) < (len : Int)) = false := decide_eq_false (by omega)
      go_wp2
      go_ret
      exact ⟨rfl, HK.out.ext⟩
end Go.Proofs.Qxb6500342a
