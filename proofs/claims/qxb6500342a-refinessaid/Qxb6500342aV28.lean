/-
  Walks 28: Loaded.
-/
import Derived.Test.Qxb6500342aV26
import Derived.Test.Qxb6500342aBy
namespace Go.Proofs.Qxb6500342a
open Go.RowKit
open Go.Proofs
open Pl (Hd)
open Tx (st)
set_option linter.unusedSimpArgs false
set_option linter.unusedVariables false
attribute [local go_sem] alloc_drewN setCell_drewN shape?_drewN

set_option maxHeartbeats 1000000 in
theorem loaded_err (w : World) (xp gp : Value) (s : ByteArray) (n : Int) (ax : List Nat) (hs : s.size ≤ 9223372036854775807) (hz : Im.judge s.size (Bf s) ≠ 0) :
    Calls Try.prog 44 #[xp, gp, .string s, anV ⟨Im.judge s.size (Bf s), n, ax⟩] w fun e w' => e = .returned (.bool true) ∧ Ext w w' := by
  unfold anV
  have hn0 : (Im.judge s.size (Bf s) != 0) = true := by rw [bne_iff_ne]; exact hz
  clear hz
  go_enter Try.func44, Try.ntmps44
  go_wp2_with fail
  refine (judge2_any _ s (by omega)).mono ?_
  rintro e w1 ⟨rfl, x1⟩
  have z := x1.heap (heap_alloc_new w _)
  have z0 : w1.cell? ⟨w.heap.size, 0, none⟩ = some (.int .i64 (Im.judge s.size (Bf s))) := cell_of z 0
  have x2 := ((Ext.refl w).alloc _).trans x1
  clear z x1
  generalize Im.judge s.size (Bf s) = J at *
  go_wp2
  go_ret
  exact ⟨rfl, x2⟩
def LdA (w : World) (g : Nat) (u : Nat) (H : Nat → Hd) (h : Hd) (img : ByteArray) (i : Value) (wr : World) : Prop :=
  ∃ (k v : Nat) (C : Array Value), k ≤ 8 ∧ i = .int .i64 k ∧ v < 256 ∧ (∀ j, j < 8 → v.testBit j = (decide (k ≤ j) && u.testBit j)) ∧ GhAt wr g C v H h img ∧ Chg [g] w wr
def LdB (w : World) (g : Nat) (s : ByteArray) (H : Nat → Hd) (h : Hd) (img : ByteArray) (a : Value) (wr : World) : Prop :=
  ∃ (r : Nat) (C : Array Value), 8 * r ≤ s.size ∧ a = .int .i64 ((8 * r : Nat) : Int) ∧ GhAt wr g C (Im.impU (Bf s) r) (Im.impH (Bf s) H r) h img ∧ Chg [g] w wr
theorem GhAt.congr {w : World} {g : Nat} {C : Array Value} {u v : Nat} {H : Nat → Hd} {h : Hd} {img : ByteArray} (hg : GhAt w g C u H h img) (hv : ∀ i, i < 8 → v.testBit i = u.testBit i) : GhAt w g C v H h img :=
  ⟨hg.heap, hg.size, ⟨fun i hi => by rw [hv i hi]; exact hg.gi.used i hi, hg.gi.k, hg.gi.d, hg.gi.l, hg.gi.f, hg.gi.s⟩, hg.dk⟩
set_option maxRecDepth 100000 in
set_option maxHeartbeats 4000000 in
theorem loaded_ok (w : World) (q : SId) (g : Nat) (C : Array Value) (u : Nat) (H : Nat → Hd) (h : Hd) (img : ByteArray) (s : ByteArray) (n : Int) (ax : List Nat) (hg : GhAt w g C u H h img) (hu : u < 256) (hst : StAt w q (Im.impU (Bf s) (s.size / 8)) (Im.impH (Bf s) H (s.size / 8))) (hgq : g ∉ q.all) (hs : s.size ≤ 9223372036854775807) (hz : Im.judge s.size (Bf s) = 0) :
    Calls Try.prog 44 #[.pointer (some ⟨q.s, 0, none⟩), .pointer (some ⟨g, 0, none⟩), .string s, anV ⟨0, n, ax⟩] w fun e w' => e = .returned (.bool true) ∧ (∃ C', GhAt w' g C' (Im.impU (Bf s) (s.size / 8)) (Im.impH (Bf s) H (s.size / 8)) h img) ∧ Chg [g] w w' := by
  have HG : Hid (GhAt w g C u H h img ∧ StAt w q (Im.impU (Bf s) (s.size / 8)) (Im.impH (Bf s) H (s.size / 8)) ∧ g ∉ q.all) := ⟨hg, hst, hgq⟩
  have HZ : Hid (Im.judge s.size (Bf s) = 0) := hz
  have HR : Hid (s.size = 8 * (s.size / 8) ∧ Im.Rises (Bf s) (s.size / 8)) := ⟨(Im.rises_of hz).2.1, (Im.rises_of hz).2.2⟩
  have hsz := (Im.rises_of hz).1
  have HE : Hid (st (Im.exTo (Im.impU (Bf s) (s.size / 8)) (Im.impH (Bf s) H (s.size / 8)) 8) = s) := ex_imp s H hz
  have HC : Hid (Bd.cnt (Im.impU (Bf s) (s.size / 8)) = s.size / 8) := Im.cnt_imp HR.out.2 _ (Nat.le_refl _)
  have e1 : Int.tdiv (s.size : Int) 8 = ((s.size / 8 : Nat) : Int) := by rw [Int.tdiv_eq_ediv_of_nonneg (by omega)]; omega
  have e2 : (s.size : Int) / 8 = ((s.size / 8 : Nat) : Int) := by omega
  unfold anV
  clear hz hg hst hgq
  go_enter Try.func44, Try.ntmps44
  go_wp2_with fail
  refine (judge2_any _ s (by omega)).mono ?_
  rintro e w1 ⟨rfl, x1⟩
  rw [HZ.out]
  have z := x1.heap (heap_alloc_new w _)
  have z0 : w1.cell? ⟨w.heap.size, 0, none⟩ = some (.int .i64 0) := cell_of z 0
  replace x1 := ((Ext.refl w).alloc _).trans x1
  clear z
  go_wp2_with fail
  refine (export_any _ q _ _ (HG.out.2.1.ext x1)).mono ?_
  rintro e w2 ⟨rfl, x2⟩
  rw [HE.out]
  replace x2 := x1.trans x2
  clear x1
  go_wp2_with fail
  refine (len_any _ q _ _ (HG.out.2.1.ext x2)).mono ?_
  rintro e w3 ⟨rfl, x3⟩
  rw [HC.out]
  replace x3 := x2.trans x3
  clear x2
  have X3 : Hid (Ext w w3) := x3
  clear x3
  generalize hR : s.size / 8 = R at *
  have HQ : Hid (s.size / 8 = R) := hR
  clear hR
  go_wp2
  go_loopw [10] (fun i wr => LdA w g u H h img i wr) (fun i _ => 8 - (intOf i).toNat)
  case atStart => exact ⟨0, u, C, by omega, rfl, hu, by simp, HG.out.1.ext X3.out, Chg.of_ext X3.out⟩
  case round =>
    obtain ⟨k, v, C1, hk, rfl, hv, hvb, hg1, hc1⟩ := hrel
    have H1 : Hid (v < 256 ∧ (∀ j, j < 8 → v.testBit j = (decide (k ≤ j) && u.testBit j)) ∧ GhAt wr g C1 v H h img ∧ Chg [g] w wr) := ⟨hv, hvb, hg1, hc1⟩
    by_cases hlt : k < 8
    · have gu := (hg1.rd hlt).u
      have gf : ∀ i, wr.frozen? ⟨g, i, none⟩ = false := fun i => frozen_of hg1.heap i
      have hk0 : (k : Int) < 8 := by omega
      have hd : decide ((k : Int) < 8) = true := decide_eq_true hk0
      clear hv hvb hg1 hc1
      go_wp2
      go_roundw
      case rel =>
        obtain ⟨hv, hvb, hg1, hc1⟩ := H1.out
        have hrel' : LdA w g u H h img (.int .i64 ((k : Int) + 1)) (wr.setCell ⟨g, k, none⟩ (.bool false)) := by
          refine ⟨k + 1, remB v k, _, by omega, by go_num, Bd.rem_lt v k hv, fun j hj => ?_, hg1.use (v := remB v k) hlt false (fun j hj => ?_) (heap_set hg1.heap k _), hc1.setCell (by simp) _⟩
          · unfold remB
            rw [Bd.rem_bit v k j hv hlt hj, hvb j hj]
            by_cases e : j = k
            · have e3 : ¬ k + 1 ≤ j := by omega
              rw [e] at e3 ⊢
              simp [e3]
            · by_cases e2 : k ≤ j
              · simp [e, e2, show k + 1 ≤ j by omega]
              · simp [e2, show ¬ k + 1 ≤ j by omega]
          · unfold remB
            rw [Bd.rem_bit v k j hv hlt hj]
            by_cases e : j = k <;> simp [e]
        first | exact hrel' | ((repeat apply Exists.intro); exact ⟨hrel', rfl⟩)
      case measure => simp [intOf]; omega
    · have hk8 : k = 8 := by omega
      subst hk8
      have S0 : Hid (GhAt wr g C1 0 H h img ∧ Chg [g] w wr) := ⟨hg1.congr fun i hi => by rw [hvb i hi, Nat.zero_testBit]; simp [show ¬ 8 ≤ i by omega], hc1⟩
      clear hv hvb hg1 hc1 H1
      obtain ⟨wo, rfl⟩ : ∃ wo : World, wo = wr := ⟨_, rfl⟩
      go_wp2
      go_loopw [11] (fun a wr => LdB w g s H h img a wr) (fun a _ => s.size - (intOf a).toNat)
      case atStart => exact ⟨0, C1, by omega, rfl, S0.out.1, S0.out.2⟩
      case round =>
        obtain ⟨r, C2, hr, rfl, hg2, hc2⟩ := hrel
        have H2 : Hid (GhAt wr g C2 (Im.impU (Bf s) r) (Im.impH (Bf s) H r) h img ∧ Chg [g] w wr) := ⟨hg2, hc2⟩
        clear hg2 hc2
        by_cases hlt : 8 * r < s.size
        · have hd2 : decide (((8 * r : Nat) : Int) < (s.size : Int)) = true := decide_eq_true (by omega)
          obtain ⟨a, ha⟩ : ∃ a, a = 8 * r := ⟨_, rfl⟩
          have HA : Hid (a = 8 * r ∧ a + 7 < s.size) := ⟨ha, by have := HR.out.1; omega⟩
          have ha7 : a + 7 < s.size := HA.out.2
          rw [← ha] at hlt hd2 hr ⊢
          clear ha
          go_wp2
          go_loop [12, 13] (fun x k => WdR s a x k) (fun _ k => 9 - (intOf k).toNat)
          case atStart => exact ⟨0, by omega, rfl, rfl⟩
          case round =>
            obtain ⟨c, hc, rfl, rfl⟩ := hrel
            have hwl := Im.wTo_lt (Bf s) (Bf_lt s) a c
            by_cases hc7 : c < 7
            · have hx : Im.wTo (Bf s) a c < 281474976710656 := by
                have : 256 ^ c ≤ 256 ^ 6 := Nat.pow_le_pow_right (by decide) (by omega)
                omega
              have HW : Hid (Im.wTo (Bf s) a (c + 1) = Im.wTo (Bf s) a c * 256 + Bf s (a + 1 + c)) := rfl
              have hb := Bf_get s (a + (c + 1)) (by omega)
              have hb' := Bf_lt s (a + (c + 1))
              rw [show a + 1 + c = a + (c + 1) from by omega] at HW
              generalize hX : Im.wTo (Bf s) a c = X at *
              generalize hbb : Bf s (a + (c + 1)) = b at *
              have HO : Hid (bits .or .u64 ((X : Int) * 256) (b : Int) = ((X * 256 + b : Nat) : Int)) := shl_or X b hx hb'
              clear hX hwl
              generalize hy : s[a + (c + 1)] = y at *
              have hd3 : decide ((c : Int) + 1 < 8) = true := decide_eq_true (by omega)
              go_wp2
              go_round
              case rel =>
                have hrel' : WdR s a (.int .u64 (bits .or .u64 ((X : Int) * 256) (b : Int))) (.int .i64 ((c : Int) + 1 + 1)) := ⟨c + 1, by omega, by go_num, by rw [HO.out, HW.out]⟩
                first | exact hrel' | (refine ⟨trivial, ?_⟩; (repeat apply Exists.intro); exact ⟨hrel', rfl⟩)
              case measure => simp [intOf]; omega
            · have hc8 : c = 7 := by omega
              subst hc8
              have hd3 : decide (((7 : Nat) : Int) + 1 < 8) = false := decide_eq_false (by omega)
              have hb := Bf_get s a (by omega)
              have HB : Hid (Bf s a < 8) := by have := HR.out.2.1 r (by have := HR.out.1; have := HA.out.1; omega); rw [HA.out.1]; exact this
              have hb8 := HB.out
              have hrw := Im.recW_lt (Bf s) (Bf_lt s) a
              have HWW : Hid (Im.wTo (Bf s) a 7 = Im.recW (Bf s) a) := rfl
              rw [HWW.out]
              have hrR : r < R := by have := HR.out.1; have := HA.out.1; omega
              have HT : Hid ((Im.impU (Bf s) R).testBit (Bf s a) = true ∧ Im.impH (Bf s) H R (Bf s a) = Im.hdOf (Im.recW (Bf s) a)) := by
                rw [HA.out.1]
                exact ⟨by rw [Im.impU_bit]; exact decide_eq_true ⟨r, hrR, rfl⟩, Im.impH_at HR.out.2 R (Nat.le_refl _) r hrR⟩
              have HU : Hid (Im.impU (Bf s) (r + 1) = Im.impU (Bf s) r ||| 2 ^ Bf s a ∧ Im.impH (Bf s) H (r + 1) = upd (Im.impH (Bf s) H r) (Bf s a) (Im.hdOf (Im.recW (Bf s) a))) := by
                rw [HA.out.1]; exact ⟨rfl, rfl⟩
              generalize Im.recW (Bf s) a = X at *
              generalize hbb : Bf s a = b at *
              clear hbb
              generalize hy : s[a] = y at *
              have hb80 : (b : Int) < 8 := by omega
              go_wp2_with fail
              have s4 : StAt wr q (Im.impU (Bf s) R) (Im.impH (Bf s) H R) := HG.out.2.1.chg H2.out.2 (fun k hk => by simp only [List.mem_singleton]; rintro rfl; exact HG.out.2.2 hk)
              refine (get_any _ q _ _ (b : Int) s4).mono ?_
              rintro e w4 ⟨rfl, x4⟩
              have HAE : Hid (atE (Im.impU (Bf s) R) (b : Int) = 0) := by show _ = _; unfold atE; rw [if_neg (by omega), Int.toNat_natCast, HT.out.1]; rfl
              have HGH : Hid (getH (Im.impU (Bf s) R) (Im.impH (Bf s) H R) (b : Int) = Im.hdOf X) := by show _ = _; unfold getH; rw [if_pos HAE.out, Int.toNat_natCast]; exact HT.out.2
              rw [HAE.out, HGH.out]
              have g4 := H2.out.1.ext x4
              have G4 : Hid (GhAt w4 g C2 (Im.impU (Bf s) r) (Im.impH (Bf s) H r) h img ∧ Chg [g] w w4) := ⟨g4, H2.out.2.then x4⟩
              have HXX : Hid (Pl.unpackI (X : Int) = Im.hdOf X) := rfl
              generalize hhX : Im.hdOf X = Y at *
              clear hhX g4 x4 s4 H2
              unfold hdV
              go_wp2_with fail
              obtain ⟨W0, hW0⟩ : ∃ W0, W0 = w4.alloc (.cells #[.int .i64 Y.k, .int .i64 Y.d, .int .i64 Y.l, .int .i64 Y.f, .int .i64 Y.s] 27) := ⟨_, rfl⟩
              have b0 : W0.heap[w4.heap.size]? = some (.cells #[.int .i64 Y.k, .int .i64 Y.d, .int .i64 Y.l, .int .i64 Y.f, .int .i64 Y.s] 27) := by rw [hW0]; exact heap_alloc_new w4 _
              have E0 : Hid (Ext w4 W0 ∧ W0.heap[w4.heap.size]? = some (.cells #[.int .i64 Y.k, .int .i64 Y.d, .int .i64 Y.l, .int .i64 Y.f, .int .i64 Y.s] 27)) := ⟨by rw [hW0]; exact (Ext.refl w4).alloc _, b0⟩
              have y0 : ∀ w', Ext W0 w' → w'.cell? ⟨w4.heap.size, 0, none⟩ = some (.int .i64 Y.k) := fun w' hx => cell_of (hx.heap b0) 0
              have y1 : ∀ w', Ext W0 w' → w'.cell? ⟨w4.heap.size, 1, none⟩ = some (.int .i64 Y.d) := fun w' hx => cell_of (hx.heap b0) 1
              have y2 : ∀ w', Ext W0 w' → w'.cell? ⟨w4.heap.size, 2, none⟩ = some (.int .i64 Y.l) := fun w' hx => cell_of (hx.heap b0) 2
              have y3 : ∀ w', Ext W0 w' → w'.cell? ⟨w4.heap.size, 3, none⟩ = some (.int .i64 Y.f) := fun w' hx => cell_of (hx.heap b0) 3
              have y4 : ∀ w', Ext W0 w' → w'.cell? ⟨w4.heap.size, 4, none⟩ = some (.int .i64 Y.s) := fun w' hx => cell_of (hx.heap b0) 4
              rw [← hW0]
              clear hW0 b0
              refine Peel.region 8 3 0 [0, 1, 2, 3, 4] (Ext W0) (by kernel_rfl) (by kernel_rfl) (Ext.refl W0).drew ?_
              simp only [Peel.pick, List.filterMap_cons, List.filterMap_nil, List.getElem?_cons_zero, List.getElem?_cons_succ]
              repeat (first
                | (refine Peel.q_move _ (by first | exact .inl rfl | exact .inr rfl) rfl ?_; simp only [Act.put, List.setIfInBounds_toArray, List.set, Act.eval, List.getD_toArray, List.getD_cons_zero, List.getD_cons_succ])
                | (apply Peel.q_value; rfl; (intro w' hw'; simp [go_sem, hw', y0, y1, y2, y3, y4]; rfl); simp only [Act.put, List.setIfInBounds_toArray, List.set]))
              refine Peel.any_one (i := 5) (by kernel_rfl) ?_
              refine Peel.x_call rfl (f := 24) (args := #[.int .u64 (X : Int)]) rfl (by simp [go_sem]) ?_
              refine (unpack_any (X : Int) (by omega) (by omega) _).mono ?_
              rintro e w5 ⟨rfl, x5⟩
              rw [HXX.out]
              have d5 : Ext W0 w5 := ((Ext.refl W0).drew).trans x5
              refine ⟨_, rfl, d5, ?_⟩
              unfold hdV
              simp only [Act.put, List.setIfInBounds_toArray, List.set]
              refine Peel.any_one (i := 6) (by kernel_rfl) ?_
              refine Peel.x_value rfl rfl (w' := w5) (v := .bool false) (by simp [go_sem]; try rfl) d5 ?_
              simp only [Act.put, List.setIfInBounds_toArray, List.set]
              refine Peel.any_one (i := 7) (by kernel_rfl) ?_
              refine Peel.x_value rfl rfl (w' := w5) (v := .bool false) (by simp [go_sem]; try rfl) d5 ?_
              simp only [Act.put, List.setIfInBounds_toArray, List.set]
              refine Peel.any_end (by kernel_rfl) rfl (by kernel_rfl) ?_
              simp only [List.drop]
              have g5 := G4.out.1.ext (E0.out.1.trans d5)
              have G5 : Hid (GhAt w5 g C2 (Im.impU (Bf s) r) (Im.impH (Bf s) H r) h img ∧ Chg [g] w w5) := ⟨g5, G4.out.2.then (E0.out.1.trans d5)⟩
              have z5 := d5.heap E0.out.2
              have p0 : w5.cell? ⟨w4.heap.size, 0, none⟩ = some (.int .i64 Y.k) := cell_of z5 0
              have p1 : w5.cell? ⟨w4.heap.size, 1, none⟩ = some (.int .i64 Y.d) := cell_of z5 1
              have p2 : w5.cell? ⟨w4.heap.size, 2, none⟩ = some (.int .i64 Y.l) := cell_of z5 2
              have p3 : w5.cell? ⟨w4.heap.size, 3, none⟩ = some (.int .i64 Y.f) := cell_of z5 3
              have p4 : w5.cell? ⟨w4.heap.size, 4, none⟩ = some (.int .i64 Y.s) := cell_of z5 4
              obtain ⟨s0, s1, s2, s3, s4, s5⟩ := g5.rd hb8
              have sf : ∀ i, w5.frozen? ⟨g, i, none⟩ = false := fun i => frozen_of g5.heap i
              have hne : w4.heap.size ≠ g := by have := lt_of_heap G4.out.1.heap; omega
              have hne' : g ≠ w4.heap.size := Ne.symm hne
              clear y0 y1 y2 y3 y4 z5 g5 d5 x5
              go_wp2
              go_region
              go_wp2
              go_roundw
              case rel =>
                have g5 := G5.out.1
                have ga := g5.use (v := Im.impU (Bf s) r ||| 2 ^ b) hb8 true (fun i hi => by rw [Bd.add_bit]; by_cases e : i = b; (rw [if_pos e, e]; simp); (rw [if_neg e]; simp [e])) (heap_set g5.heap b _)
                have hh := heap_set5 (heap_set g5.heap b (.bool true)) (8 + b * 5) Y
                have c2 := (chg_set5 (b := g) (p := 8 + b * 5) ((G5.out.2.setCell (p := ⟨g, b, none⟩) (by simp) (.bool true))) (.inl (by simp)) Y).drew
                rw [← heap_drew] at hh
                have gb := ga.hd hb8 Y hh
                rw [← HU.out.1, ← HU.out.2] at gb
                have hrel' : LdB w g s H h img (.int .i64 ((a : Int) + 8)) _ := ⟨r + 1, _, by have := HA.out; have := HR.out.1; omega, by rw [show ((8 * (r + 1) : Nat) : Int) = (a : Int) + 8 from by have := HA.out.1; omega], gb, c2⟩
                first | exact hrel' | ((repeat apply Exists.intro); exact ⟨hrel', rfl⟩)
              case measure => simp [intOf]; omega
        · have hd2 : decide (((8 * r : Nat) : Int) < (s.size : Int)) = false := decide_eq_false (by omega)
          have HN : Hid (r = R) := by have := HR.out.1; show _ = _; omega
          go_wp2
          go_ret
          refine ⟨rfl, ⟨C2, ?_⟩, H2.out.2⟩
          rw [HQ.out, ← HN.out]
          exact H2.out.1
end Go.Proofs.Qxb6500342a
