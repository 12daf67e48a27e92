/-
  The model: Import.
-/
import Derived.Test.Qxb6500342aM6
import Derived.Test.Qxb6500342aPeel
namespace Go.Proofs.Qxb6500342a
open Go.RowKit
open Go.Proofs
open Pl (Hd)
open Tx (st)
set_option linter.unusedSimpArgs false
set_option linter.unusedVariables false
attribute [local go_sem] alloc_drewN setCell_drewN shape?_drewN

/-- r records judged and laid into the new store. -/
def MiR (w : World) (s : ByteArray) (n : Nat) (l a : Value) (wr : World) : Prop :=
  ∃ (r : Nat) (last : Int) (C : Array Value), 8 * r ≤ s.size ∧ a = .int .i64 ((8 * r : Nat) : Int) ∧ l = .int .i64 last ∧ -1 ≤ last ∧ last ≤ 255 ∧ Im.jd (Bf s) (s.size / 8) 0 (-1) = Im.jd (Bf s) (s.size / 8 - r) (8 * r) last ∧ MAt wr n C (Im.impU (Bf s) r) (Im.impH (Bf s) (fun _ => Pl.zeroH) r) ∧ Im.impU (Bf s) r < 256 ∧ Ext w wr
def mImp (u : Nat) (G : Nat → Hd) (s : ByteArray) : Out :=
  ⟨⟨Im.judge s.size (Bf s), 0, []⟩, if Im.judge s.size (Bf s) = 0 then Im.impU (Bf s) (s.size / 8) else u, if Im.judge s.size (Bf s) = 0 then Im.impH (Bf s) (fun _ => Pl.zeroH) (s.size / 8) else G⟩
theorem mImp_no {u : Nat} {G : Nat → Hd} {s : ByteArray} {e : Int} (h : Im.judge s.size (Bf s) = e) (he : e ≠ 0) : mImp u G s = ⟨⟨e, 0, []⟩, u, G⟩ := by
  unfold mImp
  rw [h, if_neg he, if_neg he]
set_option maxRecDepth 100000 in
set_option maxHeartbeats 4000000 in
theorem mimp_any (w : World) (m : Nat) (C : Array Value) (u : Nat) (G : Nat → Hd) (s : ByteArray) (hm : MAt w m C u G) (hu : u < 256) (hs : s.size ≤ 9223372036854775807) : Calls Try.prog 69 #[.pointer (some ⟨m, 0, none⟩), .string s] w fun e w' => e = .returned (.int .i64 (mImp u G s).a.e) ∧ (∃ C', MAt w' m C' (mImp u G s).u (mImp u G s).H) ∧ Chg [m] w w' := by
  have HM : Hid (MAt w m C u G) := hm
  have hml := lt_of_heap hm.heap
  clear hm
  by_cases h1 : 64 < s.size
  · have HE : Hid (mImp u G s = ⟨⟨1, 0, []⟩, u, G⟩) := mImp_no (by unfold Im.judge; rw [if_pos h1]) (by omega)
    have hd : decide ((64 : Int) < (s.size : Int)) = true := decide_eq_true (by omega)
    rw [HE.out]
    go_enter Try.func69, Try.ntmps69
    go_wp2
    go_ret
    exact ⟨rfl, ⟨C, HM.out⟩, Chg.refl _ _⟩
  · have hd : decide ((64 : Int) < (s.size : Int)) = false := decide_eq_false (by omega)
    by_cases h2 : s.size % 8 = 0
    · have HE : Hid (Im.judge s.size (Bf s) = Im.jd (Bf s) (s.size / 8) 0 (-1)) := by show _ = _; unfold Im.judge; rw [if_neg h1, if_neg (by omega)]
      have hmm : (((s.size : Int) % 8) != 0) = false := by rw [bne_eq_false_iff_eq]; omega
      have H2 : Hid (s.size % 8 = 0) := h2
      have hle : s.size ≤ 64 := by omega
      clear h2 h1
      generalize hO : mImp u G s = O at *
      have HO : Hid (mImp u G s = O) := hO
      clear hO
      go_enter Try.func69, Try.ntmps69
      go_wp2_with fail
      refine (mnew_any _).mono ?_
      rintro e w1 ⟨rfl, hw1⟩
      have H1 : Hid (MAt w1 w.heap.size mZ 0 (fun _ => Pl.zeroH) ∧ Ext w w1) := by rw [hw1]; exact ⟨m_fresh (heap_alloc_new w _), (Ext.refl w).alloc _⟩
      clear hw1
      have hnm : w.heap.size ≠ m := by omega
      go_wp2
      go_loopw [6, 7] (fun l a wr => MiR w s w.heap.size l a wr) (fun _ a _ => s.size - (intOf a).toNat)
      case atStart => exact ⟨0, -1, mZ, by omega, rfl, rfl, by omega, by omega, by simp, H1.out.1, by simp [Im.impU], H1.out.2⟩
      case round =>
        obtain ⟨r, last, C1, hr, rfl, rfl, hl0, hl1, hj, hM1, hlt1, hx1⟩ := hrel
        have HJ : Hid (Im.jd (Bf s) (s.size / 8) 0 (-1) = Im.jd (Bf s) (s.size / 8 - r) (8 * r) last) := hj
        have HM1 : Hid (MAt wr w.heap.size C1 (Im.impU (Bf s) r) (Im.impH (Bf s) (fun _ => Pl.zeroH) r) ∧ Im.impU (Bf s) r < 256 ∧ Ext w wr) := ⟨hM1, hlt1, hx1⟩
        clear hj hM1 hlt1 hx1
        by_cases hlt : 8 * r < s.size
        · have hd2 : decide (((8 * r : Nat) : Int) < (s.size : Int)) = true := decide_eq_true (by omega)
          have hb := Bf_get s (8 * r) hlt
          have hb' := Bf_lt s (8 * r)
          have HN : Hid (Im.jd (Bf s) (s.size / 8 - r) (8 * r) last = if 8 ≤ Bf s (8 * r) ∨ (Bf s (8 * r) : Int) ≤ last then 9 else Im.jd (Bf s) (s.size / 8 - (r + 1)) (8 * (r + 1)) (Bf s (8 * r))) := by
            show _ = _
            have := H2.out
            obtain ⟨t, ht⟩ : ∃ t, s.size / 8 - r = t + 1 := ⟨s.size / 8 - r - 1, by omega⟩
            rw [ht, Im.jd, show s.size / 8 - (r + 1) = t from by omega, show 8 * (r + 1) = 8 * r + 8 from by omega]
          have HIU : Hid (Im.impU (Bf s) (r + 1) = Im.impU (Bf s) r ||| 2 ^ Bf s (8 * r) ∧ Im.impH (Bf s) (fun _ => Pl.zeroH) (r + 1) = upd (Im.impH (Bf s) (fun _ => Pl.zeroH) r) (Bf s (8 * r)) (Im.hdOf (Im.recW (Bf s) (8 * r)))) := ⟨rfl, rfl⟩
          generalize hq : 8 * r = a at *
          have HB : Hid (s[a].toNat = Bf s a) := hb
          clear hb
          have HBB : Hid (∃ b, Bf s a = b) := ⟨_, rfl⟩
          generalize hbb : Bf s a = b at *
          have hbn : s[a].toNat = b := HB.out
          have hbl : s[a].toNat < 256 := by omega
          generalize hy : s[a] = y at *
          have HQ : Hid (8 * r = a ∧ s.size % 8 = 0) := ⟨hq, H2.out⟩
          have ha7 : a + 7 < s.size := by have := H2.out; omega
          clear hq
          by_cases k1 : 8 ≤ b
          · have e1 : decide ((8 : Int) ≤ (b : Int)) = true := decide_eq_true (by omega)
            have HF : Hid (O = ⟨⟨9, 0, []⟩, u, G⟩) := by show _ = _; rw [← HO.out]; exact mImp_no (by rw [HE.out, HJ.out, HN.out, if_pos (.inl k1)]) (by omega)
            clear k1
            go_wp2
            go_ret
            rw [HF.out]
            exact ⟨rfl, ⟨C, HM.out.ext HM1.out.2.2⟩, Chg.of_ext HM1.out.2.2⟩
          · have e1 : decide ((8 : Int) ≤ (b : Int)) = false := decide_eq_false (by omega)
            by_cases k2 : (b : Int) ≤ last
            · have e2 : decide ((b : Int) ≤ last) = true := decide_eq_true k2
              have HF : Hid (O = ⟨⟨9, 0, []⟩, u, G⟩) := by show _ = _; rw [← HO.out]; exact mImp_no (by rw [HE.out, HJ.out, HN.out, if_pos (.inr k2)]) (by omega)
              clear k1 k2
              go_wp2
              go_ret
              rw [HF.out]
              exact ⟨rfl, ⟨C, HM.out.ext HM1.out.2.2⟩, Chg.of_ext HM1.out.2.2⟩
            · have e2 : decide ((b : Int) ≤ last) = false := decide_eq_false k2
              have HF : Hid (Im.jd (Bf s) (s.size / 8) 0 (-1) = Im.jd (Bf s) (s.size / 8 - (r + 1)) (8 * (r + 1)) b) := by
                show _ = _; rw [HJ.out, HN.out, if_neg (by omega)]
              have E3 : Hid (((8 * (r + 1) : Nat) : Int) = (a : Int) + 8) := by have := HQ.out.1; show _ = _; omega
              have hb8 : b < 8 := by omega
              have hb80 : (b : Int) < 8 := by omega
              clear k1 k2
              go_wp2
              go_loop [9, 10] (fun x k => WdR s a x k) (fun _ k => 9 - (intOf k).toNat)
              case atStart => exact ⟨0, by omega, rfl, rfl⟩
              case round =>
                obtain ⟨c, hc, rfl, rfl⟩ := hrel
                have hwl := Im.wTo_lt (Bf s) (Bf_lt s) a c
                by_cases hc7 : c < 7
                · have hx : Im.wTo (Bf s) a c < 281474976710656 := by
                    have : 256 ^ c ≤ 256 ^ 6 := Nat.pow_le_pow_right (by decide) (by omega)
                    omega
                  have HW : Hid (Im.wTo (Bf s) a (c + 1) = Im.wTo (Bf s) a c * 256 + Bf s (a + 1 + c)) := rfl
                  have hb := Bf_get s (a + (c + 1)) (by omega)
                  have hb' := Bf_lt s (a + (c + 1))
                  rw [show a + 1 + c = a + (c + 1) from by omega] at HW
                  generalize hX : Im.wTo (Bf s) a c = X at *
                  generalize hb2 : Bf s (a + (c + 1)) = b2 at *
                  clear hX hwl
                  generalize hy2 : s[a + (c + 1)] = y2 at *
                  have hd3 : decide ((c : Int) + 1 < 8) = true := decide_eq_true (by omega)
                  go_wp2
                  go_round
                  case rel =>
                    have hrel' : WdR s a (.int .u64 ((X : Int) * 256 + (b2 : Int))) (.int .i64 ((c : Int) + 1 + 1)) := ⟨c + 1, by omega, by go_num, by rw [HW.out]; go_num⟩
                    first | exact hrel' | (refine ⟨trivial, ?_⟩; (repeat apply Exists.intro); exact ⟨hrel', rfl⟩)
                  case measure => simp [intOf]; omega
                · have hc8 : c = 7 := by omega
                  subst hc8
                  have hd3 : decide (((7 : Nat) : Int) + 1 < 8) = false := decide_eq_false (by omega)
                  have hrw := Im.recW_lt (Bf s) (Bf_lt s) a
                  have HWW : Hid (Im.wTo (Bf s) a 7 = Im.recW (Bf s) a) := rfl
                  rw [HWW.out]
                  have gu := (HM1.out.1.rd hb8).u
                  have gf := frozen_of HM1.out.1.heap
                  generalize Im.recW (Bf s) a = X at *
                  have HU : Hid (∀ w', Calls Try.prog 25 #[.int .u64 (X : Int)] w' fun e w'' => e = .returned (hdV (Im.hdOf X)) ∧ Ext w' w'') := fun w' => munpack_any (X : Int) (by omega) (by omega) w'
                  clear hwl
                  go_wp2
                  obtain ⟨w4, hw4⟩ : ∃ w4, w4 = wr.setCell ⟨w.heap.size, b, none⟩ (.bool true) := ⟨_, rfl⟩
                  rw [← hw4]
                  have X4 : Hid (MAt w4 w.heap.size (C1.setIfInBounds b (.bool true)) (Im.impU (Bf s) r ||| 2 ^ b) (Im.impH (Bf s) (fun _ => Pl.zeroH) r) ∧ Ext w w4) :=
                    ⟨HM1.out.1.use hb8 true (addB_bit HM1.out.2.1 hb8) (by rw [hw4]; exact heap_set HM1.out.1.heap _ _), by rw [hw4]; exact HM1.out.2.2.setCell (Nat.le_refl _) _⟩
                  clear hw4 gu gf
                  have hx4 := Ext.refl w4
                  refine Peel.region 6 1 2 [0, 1, 2, 4, 5] (Ext w4) (by kernel_rfl) (by kernel_rfl) hx4.drew ?_
                  simp only [Peel.pick, List.filterMap_cons, List.filterMap_nil, List.getElem?_cons_zero, List.getElem?_cons_succ]
                  repeat (first
                    | (refine Peel.q_move _ (by first | exact .inl rfl | exact .inr rfl) rfl ?_; simp only [Act.put, List.setIfInBounds_toArray, List.set, Act.eval, List.getD_toArray, List.getD_cons_zero, List.getD_cons_succ])
                    | (apply Peel.q_value; rfl; (intro w' hw'; simp [go_sem, hw', hb80]; rfl); simp only [Act.put, List.setIfInBounds_toArray, List.set]))
                  refine Peel.any_one (i := 3) (by kernel_rfl) ?_
                  refine Peel.x_call rfl (f := 25) (args := #[.int .u64 (X : Int)]) rfl (by simp [go_sem]) ?_
                  refine (HU.out _).mono ?_
                  rintro e w5 ⟨rfl, x5⟩
                  have hx5 : Ext w4 w5 := hx4.drew.trans x5
                  refine ⟨_, rfl, hx5, ?_⟩
                  simp only [Act.put, List.setIfInBounds_toArray, List.set]
                  refine Peel.any_end (C := Ext w4) (by kernel_rfl) rfl (by kernel_rfl) ?_
                  simp only [List.drop]
                  clear x5
                  have A5 := X4.out.1.ext hx5
                  have X5 : Hid (Ext w w5) := X4.out.2.trans hx5
                  obtain ⟨gu, g0, g1, g2, g3, g4⟩ := A5.rd hb8
                  have gf := frozen_of A5.heap
                  have HA5 : Hid (MAt w5 w.heap.size (C1.setIfInBounds b (.bool true)) (Im.impU (Bf s) r ||| 2 ^ b) (Im.impH (Bf s) (fun _ => Pl.zeroH) r)) := A5
                  clear A5 gu hx4 hx5
                  unfold hdV
                  generalize Im.hdOf X = hx at *
                  go_wp2
                  go_roundw
                  case rel =>
                    have a6 := HA5.out.hd hb8 hx (heap_set5 HA5.out.heap (8 + b * 5) hx)
                    have g1 : w.heap.size ≤ w.heap.size := Nat.le_refl _
                    have hrel' : MiR w s w.heap.size (.int .i64 (b : Int)) (.int .i64 ((a : Int) + 8)) (((((w5.setCell ⟨w.heap.size, 8 + b * 5, none⟩ (.int .i64 hx.k)).setCell ⟨w.heap.size, 8 + b * 5 + 1, none⟩ (.int .i64 hx.d)).setCell ⟨w.heap.size, 8 + b * 5 + 2, none⟩ (.int .i64 hx.l)).setCell ⟨w.heap.size, 8 + b * 5 + 3, none⟩ (.int .i64 hx.f)).setCell ⟨w.heap.size, 8 + b * 5 + 4, none⟩ (.int .i64 hx.s)) := by
                      refine ⟨r + 1, b, set5 (C1.setIfInBounds b (.bool true)) (8 + b * 5) hx, by have := HQ.out; omega, by rw [E3.out], rfl, by omega, by omega, HF.out, ?_, ?_, ?_⟩
                      rotate_left
                      · rw [HIU.out.1]; exact lt_addB HM1.out.2.1 hb8
                      · exact ((((X5.out.setCell g1 _).setCell g1 _).setCell g1 _).setCell g1 _).setCell g1 _
                      · rw [HIU.out.1, HIU.out.2]; exact a6
                    first | exact hrel' | ((repeat apply Exists.intro); exact ⟨hrel', rfl⟩)
                  case measure => simp [intOf]; omega
        · have hd2 : decide (((8 * r : Nat) : Int) < (s.size : Int)) = false := decide_eq_false (by omega)
          have HF : Hid (O = ⟨⟨0, 0, []⟩, Im.impU (Bf s) (s.size / 8), Im.impH (Bf s) (fun _ => Pl.zeroH) (s.size / 8)⟩ ∧ r = s.size / 8) := by
            have h2 := H2.out
            have hr2 : r = s.size / 8 := by omega
            have hj : Im.judge s.size (Bf s) = 0 := by
              rw [HE.out, HJ.out, show s.size / 8 - r = 0 from by omega]; rfl
            refine ⟨?_, hr2⟩
            rw [← HO.out]
            unfold mImp
            rw [hj, if_pos rfl, if_pos rfl]
          go_wp2_with fail
          refine (mtake_any wr m w.heap.size C C1 u (Im.impU (Bf s) r) G (Im.impH (Bf s) (fun _ => Pl.zeroH) r) (HM.out.ext HM1.out.2.2) HM1.out.1 hu hnm).mono ?_
          rintro e w6 ⟨rfl, ⟨C6, M6⟩, c6⟩
          have H6 : Hid (MAt w6 m C6 (Im.impU (Bf s) r) (Im.impH (Bf s) (fun _ => Pl.zeroH) r) ∧ Chg [m] w w6) := ⟨M6, (Chg.of_ext HM1.out.2.2).trans c6⟩
          clear M6 c6
          go_wp2
          go_ret
          rw [HF.out.1]
          refine ⟨rfl, ⟨C6, ?_⟩, H6.out.2⟩
          rw [← HF.out.2]
          exact H6.out.1
    · have HE : Hid (mImp u G s = ⟨⟨9, 0, []⟩, u, G⟩) := mImp_no (by unfold Im.judge; rw [if_neg h1, if_pos h2]) (by omega)
      have hmm : (((s.size : Int) % 8) != 0) = true := by rw [bne_iff_ne]; omega
      rw [HE.out]
      go_enter Try.func69, Try.ntmps69
      go_wp2
      go_ret
      exact ⟨rfl, ⟨C, HM.out⟩, Chg.refl _ _⟩
end Go.Proofs.Qxb6500342a
