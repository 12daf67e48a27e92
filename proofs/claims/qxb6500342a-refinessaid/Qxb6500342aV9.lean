/-
  Walks 9: the store: drop, bump, len.
-/
import Derived.Test.Qxb6500342aV8
namespace Go.Proofs.Qxb6500342a
open Go.RowKit
open Go.Proofs
open Pl (Hd)
set_option linter.unusedSimpArgs false
set_option linter.unusedVariables false
attribute [local go_sem] alloc_drewN setCell_drewN shape?_drewN

def remB (u n : Nat) : Nat := u &&& (18446744073709551615 - 2 ^ n)
theorem wordsC_drop (u : Nat) (H : Nat → Hd) (n : Nat) (hn : n < 8) (hu : u < 256) : (wordsC u H).setIfInBounds n (.int .u64 0) = wordsC (remB u n) H := by
  apply Array.ext_getElem?
  intro j
  rw [Array.getElem?_setIfInBounds, wordsC_size]
  by_cases hj : j < 8
  · rw [wordsC_get _ _ _ hj, wordsC_get _ _ _ hj]
    by_cases hnj : n = j
    · subst hnj
      simp [wd, remB, Bd.rem_bit u n n hu hn hn, hn]
    · have : ¬ j = n := fun e => hnj e.symm
      simp [wd, remB, Bd.rem_bit u n j hu hn hj, hnj, this]
  · rw [if_neg (by omega)]
    rw [Array.getElem?_eq_none (by rw [wordsC_size]; omega), Array.getElem?_eq_none (by rw [wordsC_size]; omega)]
theorem wordsC_bump (u : Nat) (H : Nat → Hd) (n : Nat) (h : Hd) (hn : n < 8) (hb : u.testBit n = true) : (wordsC u H).setIfInBounds n (.int .u64 (Pl.packI h)) = wordsC u (upd H n h) := by
  apply Array.ext_getElem?
  intro j
  rw [Array.getElem?_setIfInBounds, wordsC_size]
  by_cases hj : j < 8
  · rw [wordsC_get _ _ _ hj, wordsC_get _ _ _ hj]
    by_cases hnj : n = j
    · subst hnj
      simp [wd, upd, hn, hb]
    · have : ¬ j = n := fun e => hnj e.symm
      simp [wd, upd, hnj, this]
  · rw [if_neg (by omega)]
    rw [Array.getElem?_eq_none (by rw [wordsC_size]; omega), Array.getElem?_eq_none (by rw [wordsC_size]; omega)]
set_option maxHeartbeats 400000 in
theorem drop_err (w : World) (q : SId) (u : Nat) (H : Nat → Hd) (n : Int) (hst : StAt w q u H) (hz : atE u n ≠ 0) : Calls Try.prog 36 #[.pointer (some ⟨q.s, 0, none⟩), .int .i64 n] w fun e w' => e = .returned (.int .i64 (atE u n)) ∧ Ext w w' := by
  have hn0 : (atE u n != 0) = true := by rw [bne_iff_ne]; exact hz
  clear hz
  go_enter Try.func36, Try.ntmps36
  go_wp2_with fail
  refine (at_any _ q u H n hst).mono ?_
  rintro e w1 ⟨rfl, x1⟩
  go_wp2
  go_ret
  exact ⟨rfl, x1⟩
set_option maxHeartbeats 1000000 in
theorem drop_ok (w : World) (q : SId) (u : Nat) (H : Nat → Hd) (m : Nat) (hst : StAt w q u H) (hm : m < 8) (hb : u.testBit m = true) : Calls Try.prog 36 #[.pointer (some ⟨q.s, 0, none⟩), .int .i64 m] w fun e w' => e = .returned (.int .i64 0) ∧ StAt w' q (remB u m) H ∧ Chg q.all w w' := by
  obtain ⟨n1, n2, n3⟩ := hst.ne
  have HS : Hid (StAt w q u H) := hst
  have HZ : Hid (atE u (m : Int) = 0) := by show _ = _; unfold atE; rw [if_neg (by omega), Int.toNat_natCast, hb]; rfl
  have hm0 : (m : Int) < 8 := by omega
  clear hst hb
  go_enter Try.func36, Try.ntmps36
  go_wp2_with fail
  refine (at_any _ q u H m HS.out).mono ?_
  rintro e w1 ⟨rfl, x1⟩
  rw [HZ.out]
  have s1 := HS.out.ext x1
  have S1 : Hid (StAt w1 q u H) := s1
  have g0 : w1.cell? ⟨q.s, 0, none⟩ = some (.slice (some ⟨q.L, 0, none⟩) 8 8) := cell_of s1.hs 0
  have g1 : w1.cell? ⟨q.s, 1, none⟩ = some (.pointer (some ⟨q.b, 0, none⟩)) := cell_of s1.hs 1
  have l0 : w1.cell? ⟨q.L, m, none⟩ = some (.int .u64 (wd u H m)) := (cell_of s1.hL m).trans (wordsC_get u H m hm)
  have lf : w1.frozen? ⟨q.L, m, none⟩ = false := frozen_of s1.hL m
  clear s1
  go_wp2_with fail
  have cL : Chg [q.L] w1 (w1.setCell ⟨q.L, m, none⟩ (.int .u64 0)) := (Chg.refl _ _).setCell (by simp) _
  refine (wrem_in _ q.b u m (S1.out.hb.chg cL (by simp; exact Ne.symm n3)) (by have := S1.out.lt; omega) (by omega)).mono ?_
  rintro e w4 ⟨rfl, hb4, c4⟩
  have HB4 : Hid (BoardAt w4 q.b (remB u m) ∧ Chg [q.b] (w1.setCell ⟨q.L, m, none⟩ (.int .u64 0)) w4) := ⟨hb4, c4⟩
  have CL : Hid (Chg [q.L] w1 (w1.setCell ⟨q.L, m, none⟩ (.int .u64 0))) := cL
  clear hb4 c4 cL
  go_wp2
  go_ret
  have hh : w4.heap[q.L]? = some (.cells ((wordsC u H).setIfInBounds m (.int .u64 0)) 28) := HB4.out.2.heap (heap_set S1.out.hL m _) (by simpa using n3)
  have hs4 := HB4.out.2.heap (CL.out.heap S1.out.hs (by simpa using n1)) (by simpa using n2)
  have hlt := S1.out.lt
  refine ⟨rfl, ⟨hs4, by rw [hh, wordsC_drop u H m hm hlt], HB4.out.1, Bd.rem_lt u m hlt, ?_, S1.out.nd⟩, ?_⟩
  · intro i hi hb
    unfold remB at hb
    rw [Bd.rem_bit u m i hlt hm hi] at hb
    simp only [Bool.and_eq_true] at hb
    exact S1.out.good i hi hb.1
  · refine Chg.trans ?_ (HB4.out.2.mono (by simp [SId.all]))
    refine Chg.trans ?_ (CL.out.mono (by simp [SId.all]))
    exact Chg.of_ext x1
set_option maxHeartbeats 400000 in
theorem bump_err (w : World) (q : SId) (u : Nat) (H : Nat → Hd) (n d : Int) (hst : StAt w q u H) (hz : atE u n ≠ 0) : Calls Try.prog 37 #[.pointer (some ⟨q.s, 0, none⟩), .int .i64 n, .int .i64 d] w fun e w' => e = .returned (.int .i64 (atE u n)) ∧ Ext w w' := by
  have hn0 : (atE u n != 0) = true := by rw [bne_iff_ne]; exact hz
  clear hz
  go_enter Try.func37, Try.ntmps37
  go_wp2_with fail
  refine (at_any _ q u H n hst).mono ?_
  rintro e w1 ⟨rfl, x1⟩
  go_wp2
  go_ret
  exact ⟨rfl, x1⟩
set_option maxHeartbeats 1000000 in
theorem bump_ok (w : World) (q : SId) (u : Nat) (H : Nat → Hd) (m : Nat) (d : Int) (hst : StAt w q u H) (hm : m < 8) (hb : u.testBit m = true) : Calls Try.prog 37 #[.pointer (some ⟨q.s, 0, none⟩), .int .i64 m, .int .i64 d] w fun e w' => e = .returned (.int .i64 0) ∧ StAt w' q u (upd H m (Pl.bumpH (H m) d)) ∧ Chg q.all w w' := by
  obtain ⟨n1, n2, n3⟩ := hst.ne
  have HS : Hid (StAt w q u H) := hst
  have HZ : Hid (atE u (m : Int) = 0 ∧ u.testBit m = true) := ⟨by unfold atE; rw [if_neg (by omega), Int.toNat_natCast, hb]; rfl, hb⟩
  have hm0 : (m : Int) < 8 := by omega
  have hr := wd_range u H m
  clear hst hb
  go_enter Try.func37, Try.ntmps37
  go_wp2_with fail
  refine (at_any _ q u H m HS.out).mono ?_
  rintro e w1 ⟨rfl, x1⟩
  rw [HZ.out.1]
  have s1 := HS.out.ext x1
  have S1 : Hid (StAt w1 q u H) := s1
  have g0 : w1.cell? ⟨q.s, 0, none⟩ = some (.slice (some ⟨q.L, 0, none⟩) 8 8) := cell_of s1.hs 0
  clear s1
  go_wp2_with fail
  refine (bump_any w1 q.L m _ (wd u H m) d S1.out.hL (wordsC_get u H m hm) hr.1 hr.2).mono ?_
  rintro e w2 ⟨rfl, h2, c2⟩
  have H2 : Hid (w2.heap[q.L]? = some (.cells ((wordsC u H).setIfInBounds m (.int .u64 (Pl.packI (Pl.bumpH (Pl.unpackI (wd u H m)) d)))) 28) ∧ Chg [q.L] w1 w2) := ⟨h2, c2⟩
  clear h2 c2
  go_wp2
  go_ret
  have e1 : Pl.unpackI (wd u H m) = H m := by rw [wd_used HZ.out.2, Pl.unpack_pack _ (S1.out.good m hm HZ.out.2)]
  have hh := H2.out.1
  rw [e1, wordsC_bump u H m _ hm HZ.out.2] at hh
  refine ⟨rfl, ⟨H2.out.2.heap S1.out.hs (by simpa using n1), hh, S1.out.hb.chg H2.out.2 (by simp; exact Ne.symm n3), S1.out.lt, ?_, S1.out.nd⟩, (Chg.of_ext x1).trans (H2.out.2.mono (by simp [SId.all]))⟩
  intro i hi hb
  unfold upd
  split
  · exact Pl.good_bump _ _ (S1.out.good m hm HZ.out.2)
  · exact S1.out.good i hi hb
set_option maxHeartbeats 400000 in
theorem len_any (w : World) (q : SId) (u : Nat) (H : Nat → Hd) (hst : StAt w q u H) : Calls Try.prog 38 #[.pointer (some ⟨q.s, 0, none⟩)] w fun e w' => e = .returned (.int .i64 (Bd.cnt u)) ∧ Ext w w' := by
  have g1 : w.cell? ⟨q.s, 1, none⟩ = some (.pointer (some ⟨q.b, 0, none⟩)) := cell_of hst.hs 1
  go_enter Try.func38, Try.ntmps38
  go_wp2_with fail
  refine (count_any w q.b u hst.hb hst.lt).mono ?_
  rintro e w1 ⟨rfl, x1⟩
  go_wp2
  go_ret
  exact ⟨rfl, x1⟩
end Go.Proofs.Qxb6500342a
