/-
  Walks 15: the store's Import.
-/
import Derived.Test.Qxb6500342aV14
namespace Go.Proofs.Qxb6500342a
open Go.RowKit
open Go.Proofs
open Pl (Hd)
open Tx (st)
set_option linter.unusedSimpArgs false
set_option linter.unusedVariables false
attribute [local go_sem] alloc_drewN setCell_drewN shape?_drewN

set_option maxHeartbeats 400000 in
theorem import_err (w : World) (q : SId) (s : ByteArray) (hs : s.size ≤ 9223372036854775807) (hz : Im.judge s.size (Bf s) ≠ 0) : Calls Try.prog 40 #[.pointer (some ⟨q.s, 0, none⟩), .string s] w fun e w' => e = .returned (.int .i64 (Im.judge s.size (Bf s))) ∧ Ext w w' := by
  have hn0 : (Im.judge s.size (Bf s) != 0) = true := by rw [bne_iff_ne]; exact hz
  clear hz
  go_enter Try.func40, Try.ntmps40
  go_wp2_with fail
  refine (judge_any w s hs).mono ?_
  rintro e w1 ⟨rfl, x1⟩
  go_wp2
  go_ret
  exact ⟨rfl, x1⟩
/-- The words wiped, the first k of them. -/
def ZeR (w : World) (q : SId) (i : Value) (wr : World) : Prop :=
  ∃ (k : Nat) (C : Array Value), k ≤ 8 ∧ i = .int .i64 k ∧ wr.heap[q.L]? = some (.cells C 28) ∧ C.size = 8 ∧ (∀ j, j < k → C[j]? = some (.int .u64 0)) ∧ wr.heap[q.s]? = some (.cells #[.slice (some ⟨q.L, 0, none⟩) 8 8, .pointer (some ⟨q.b, 0, none⟩)] 70) ∧ BoardAt wr q.b 0 ∧ Chg q.all w wr
theorem zeros {C : Array Value} (hs : C.size = 8) (h : ∀ j, j < 8 → C[j]? = some (.int .u64 0)) (H : Nat → Hd) : C = wordsC 0 H := by
  apply Array.ext_getElem?
  intro j
  by_cases hj : j < 8
  · rw [h j hj, wordsC_get _ _ _ hj]; simp [wd]
  · rw [Array.getElem?_eq_none (by omega), Array.getElem?_eq_none (by rw [wordsC_size]; omega)]
def RcR (w : World) (q : SId) (s : ByteArray) (H0 : Nat → Hd) (a : Value) (wr : World) : Prop :=
  ∃ r : Nat, 8 * r ≤ s.size ∧ a = .int .i64 ((8 * r : Nat) : Int) ∧ StAt wr q (Im.impU (Bf s) r) (Im.impH (Bf s) H0 r) ∧ Chg q.all w wr
def WdR (s : ByteArray) (a : Nat) (x k : Value) : Prop := ∃ c : Nat, c ≤ 7 ∧ k = .int .i64 ((c : Int) + 1) ∧ x = .int .u64 ((Im.wTo (Bf s) a c : Nat) : Int)
theorem shl_or (x b : Nat) (hx : x < 281474976710656) (hb : b < 256) : bits .or .u64 ((x : Int) * 256) (b : Int) = ((x * 256 + b : Nat) : Int) := by
  have := bits_join .u64 64 (by decide) (fun n h0 h1 => wrap_u64_in h0 (by omega)) 8 ((x : Int) * 256) (b : Int) (by omega) (by omega) (by omega) (by omega) (by omega) (by omega)
  rw [this]; simp
set_option maxRecDepth 100000 in
set_option maxHeartbeats 2000000 in
theorem import_ok (w : World) (q : SId) (u : Nat) (H : Nat → Hd) (H0 : Nat → Hd) (s : ByteArray) (hst : StAt w q u H) (hs : s.size ≤ 9223372036854775807) (hz : Im.judge s.size (Bf s) = 0) : Calls Try.prog 40 #[.pointer (some ⟨q.s, 0, none⟩), .string s] w fun e w' => e = .returned (.int .i64 0) ∧ StAt w' q (Im.impU (Bf s) (s.size / 8)) (Im.impH (Bf s) H0 (s.size / 8)) ∧ Chg q.all w w' := by
  obtain ⟨n1, n2, n3⟩ := hst.ne
  have n1' := Ne.symm n1
  have n2' := Ne.symm n2
  have n3' := Ne.symm n3
  have HS : Hid (StAt w q u H) := hst
  have HZ : Hid (Im.judge s.size (Bf s) = 0) := hz
  have HR : Hid (s.size = 8 * (s.size / 8) ∧ Im.Rises (Bf s) (s.size / 8)) := ⟨(Im.rises_of hz).2.1, (Im.rises_of hz).2.2⟩
  have hsz := (Im.rises_of hz).1
  have g1 : ∀ w', Ext w w' → w'.cell? ⟨q.s, 1, none⟩ = some (.pointer (some ⟨q.b, 0, none⟩)) := fun w' hx => cell_of (hx.heap hst.hs) 1
  clear hst hz
  go_enter Try.func40, Try.ntmps40
  go_wp2_with fail
  refine (judge_any w s hs).mono ?_
  rintro e w1 ⟨rfl, x1⟩
  rw [HZ.out]
  go_wp2_with fail
  refine (reset_any w1 q.b u (HS.out.hb.ext x1)).mono ?_
  rintro e w2 ⟨rfl, hb2, c2⟩
  have q2 := c2.heap (x1.heap HS.out.hs) (by simpa using n2)
  have l2 := c2.heap (x1.heap HS.out.hL) (by simpa using n3)
  have Q2 : Hid (BoardAt w2 q.b 0 ∧ Chg q.all w w2 ∧ w2.heap[q.s]? = some (.cells #[.slice (some ⟨q.L, 0, none⟩) 8 8, .pointer (some ⟨q.b, 0, none⟩)] 70) ∧ w2.heap[q.L]? = some (.cells (wordsC u H) 28)) := ⟨hb2, (Chg.of_ext x1).trans (c2.mono (by simp [SId.all])), q2, l2⟩
  have h0 : w2.cell? ⟨q.s, 0, none⟩ = some (.slice (some ⟨q.L, 0, none⟩) 8 8) := cell_of q2 0
  clear g1 hb2 c2 q2 l2 x1
  go_wp2
  go_loopw [26] (fun i wr => ZeR w q i wr) (fun i _ => 8 - (intOf i).toNat)
  case atStart => exact ⟨0, wordsC u H, by omega, rfl, Q2.out.2.2.2, wordsC_size u H, by omega, Q2.out.2.2.1, Q2.out.1, Q2.out.2.1⟩
  case round =>
    obtain ⟨k, C, hk, rfl, hL, hC, hCz, hsr, hbr, hcr⟩ := hrel
    have HC : Hid (wr.heap[q.L]? = some (.cells C 28) ∧ C.size = 8 ∧ (∀ j, j < k → C[j]? = some (.int .u64 0)) ∧ wr.heap[q.s]? = some (.cells #[.slice (some ⟨q.L, 0, none⟩) 8 8, .pointer (some ⟨q.b, 0, none⟩)] 70) ∧ BoardAt wr q.b 0 ∧ Chg q.all w wr) := ⟨hL, hC, hCz, hsr, hbr, hcr⟩
    have s0 : wr.cell? ⟨q.s, 0, none⟩ = some (.slice (some ⟨q.L, 0, none⟩) 8 8) := cell_of hsr 0
    have lf : ∀ o, wr.frozen? ⟨q.L, o, none⟩ = false := frozen_of hL
    by_cases hlt : k < 8
    · obtain ⟨v0, hv0⟩ : ∃ v, C[k]? = some v := ⟨C[k]'(by omega), by simp [hC, hlt]⟩
      have c0 : wr.cell? ⟨q.L, k, none⟩ = some v0 := (cell_of hL k).trans hv0
      have hk0 : (k : Int) < 8 := by omega
      have hd : decide ((k : Int) < 8) = true := decide_eq_true hk0
      clear hL hC hCz hsr hbr hcr hv0
      go_wp2
      go_roundw
      case rel =>
        refine ⟨k + 1, C.setIfInBounds k (.int .u64 0), by omega, by go_num, heap_set HC.out.1 k _, by simp [HC.out.2.1], ?_, ?_, ?_, ?_⟩
        · intro j hj
          rw [Array.getElem?_setIfInBounds, HC.out.2.1]
          by_cases e : k = j
          · rw [if_pos e, if_pos (by omega)]
          · rw [if_neg e]; exact HC.out.2.2.1 j (by omega)
        · rw [heap_set_ne n1]; exact HC.out.2.2.2.1
        · exact HC.out.2.2.2.2.1.chg (S := [q.L]) ((Chg.refl _ _).setCell (by simp) _) (by simpa using n3')
        · exact HC.out.2.2.2.2.2.setCell (by simp [SId.all]) _
      case measure => simp [intOf]; omega
    · have hk8 : k = 8 := by omega
      subst hk8
      have S3 : Hid (StAt wr q 0 H0) := ⟨hsr, by rw [hL, zeros hC hCz H0], hbr, by omega, by simp, HS.out.nd⟩
      have C3 : Hid (Chg q.all w wr) := hcr
      clear hL hC hCz hsr hbr hcr HC lf
      obtain ⟨wo, rfl⟩ : ∃ wo : World, wo = wr := ⟨_, rfl⟩
      go_wp2
      go_loopw [7] (fun a wr => RcR w q s H0 a wr) (fun a _ => s.size - (intOf a).toNat)
      case atStart => exact ⟨0, by omega, rfl, S3.out, C3.out⟩
      case round =>
        obtain ⟨r, hr, rfl, hsr, hcr⟩ := hrel
        have S4 : Hid (StAt wr q (Im.impU (Bf s) r) (Im.impH (Bf s) H0 r) ∧ Chg q.all w wr) := ⟨hsr, hcr⟩
        clear hsr hcr s0
        by_cases hlt : 8 * r < s.size
        · have hd2 : decide (((8 * r : Nat) : Int) < (s.size : Int)) = true := decide_eq_true (by omega)
          obtain ⟨a, ha⟩ : ∃ a, a = 8 * r := ⟨_, rfl⟩
          have HA : Hid (a = 8 * r ∧ a + 7 < s.size) := ⟨ha, by have := HR.out.1; omega⟩
          have ha7 : a + 7 < s.size := HA.out.2
          rw [← ha] at hlt hd2 hr ⊢
          clear ha
          go_wp2
          go_loop [8, 9] (fun x k => WdR s a x k) (fun _ k => 9 - (intOf k).toNat)
          case atStart => exact ⟨0, by omega, rfl, rfl⟩
          case round =>
            obtain ⟨c, hc, rfl, rfl⟩ := hrel
            have hwl := Im.wTo_lt (Bf s) (Bf_lt s) a c
            by_cases hc7 : c < 7
            · have hx : Im.wTo (Bf s) a c < 281474976710656 := by
                have : 256 ^ c ≤ 256 ^ 6 := Nat.pow_le_pow_right (by decide) (by omega)
                omega
              have HW : Hid (Im.wTo (Bf s) a (c + 1) = Im.wTo (Bf s) a c * 256 + Bf s (a + 1 + c)) := rfl
              have hb := Bf_get s (a + (c + 1)) (by omega)
              have hb' := Bf_lt s (a + (c + 1))
              rw [show a + 1 + c = a + (c + 1) from by omega] at HW
              generalize hX : Im.wTo (Bf s) a c = X at *
              generalize hbb : Bf s (a + (c + 1)) = b at *
              have HO : Hid (bits .or .u64 ((X : Int) * 256) (b : Int) = ((X * 256 + b : Nat) : Int)) := shl_or X b hx hb'
              clear hX hwl
              generalize hy : s[a + (c + 1)] = y at *
              have hd3 : decide ((c : Int) + 1 < 8) = true := decide_eq_true (by omega)
              go_wp2
              go_round
              case rel =>
                have hrel' : WdR s a (.int .u64 (bits .or .u64 ((X : Int) * 256) (b : Int))) (.int .i64 ((c : Int) + 1 + 1)) := ⟨c + 1, by omega, by go_num, by rw [HO.out, HW.out]⟩
                first | exact hrel' | (refine ⟨trivial, ?_⟩; (repeat apply Exists.intro); exact ⟨hrel', rfl⟩)
              case measure => simp [intOf]; omega
            · have hc8 : c = 7 := by omega
              subst hc8
              have hd3 : decide (((7 : Nat) : Int) + 1 < 8) = false := decide_eq_false (by omega)
              have hb := Bf_get s a (by omega)
              have HB : Hid (Bf s a < 8) := by have := HR.out.2.1 r (by have := HR.out.1; have := HA.out.1; omega); rw [HA.out.1]; exact this
              have hb8 := HB.out
              have hrw := Im.recW_lt (Bf s) (Bf_lt s) a
              have HX : Hid (Pl.packI (Im.hdOf (Im.recW (Bf s) a)) = ((Im.recW (Bf s) a : Nat) : Int)) := by
                show _ = _; unfold Im.hdOf; rw [Pl.pack_unpack _ (by omega) (by omega)]
              have HWW : Hid (Im.wTo (Bf s) a 7 = Im.recW (Bf s) a) := rfl
              rw [HWW.out]
              have s4 := S4.out.1
              have f0 : wr.cell? ⟨q.s, 0, none⟩ = some (.slice (some ⟨q.L, 0, none⟩) 8 8) := cell_of s4.hs 0
              have f1 : wr.cell? ⟨q.s, 1, none⟩ = some (.pointer (some ⟨q.b, 0, none⟩)) := cell_of s4.hs 1
              have f2 : wr.cell? ⟨q.L, Bf s a, none⟩ = some (.int .u64 (wd (Im.impU (Bf s) r) (Im.impH (Bf s) H0 r) (Bf s a))) := (cell_of s4.hL _).trans (wordsC_get _ _ _ hb8)
              have f3 : wr.frozen? ⟨q.L, Bf s a, none⟩ = false := frozen_of s4.hL _
              have HE : Hid (Im.impU (Bf s) (r + 1) = Im.impU (Bf s) r ||| 2 ^ Bf s a ∧ Im.impH (Bf s) H0 (r + 1) = upd (Im.impH (Bf s) H0 r) (Bf s a) (Im.hdOf (Im.recW (Bf s) a))) := by
                rw [HA.out.1]; exact ⟨rfl, rfl⟩
              generalize Im.recW (Bf s) a = X at *
              generalize hbb : Bf s a = b at *
              clear s4 hbb
              generalize hy : s[a] = y at *
              have hb80 : (b : Int) < 8 := by omega
              go_wp2_with fail
              have cL : Chg [q.L] wr (wr.setCell ⟨q.L, b, none⟩ (.int .u64 (X : Int))) := (Chg.refl _ _).setCell (by simp) _
              refine (wadd_in _ q.b (Im.impU (Bf s) r) b (S4.out.1.hb.chg cL (by simpa using n3')) (by have := S4.out.1.lt; omega) (by omega)).mono ?_
              rintro e w5 ⟨rfl, hb5, c5⟩
              have H5 : Hid (BoardAt w5 q.b (Im.impU (Bf s) r ||| 2 ^ b) ∧ Chg [q.b] (wr.setCell ⟨q.L, b, none⟩ (.int .u64 (X : Int))) w5 ∧ Chg [q.L] wr (wr.setCell ⟨q.L, b, none⟩ (.int .u64 (X : Int)))) := ⟨hb5, c5, cL⟩
              clear hb5 c5 cL
              go_wp2
              go_roundw
              case rel =>
                have hh : w5.heap[q.L]? = some (.cells ((wordsC (Im.impU (Bf s) r) (Im.impH (Bf s) H0 r)).setIfInBounds b (.int .u64 (Pl.packI (Im.hdOf X)))) 28) := by
                  rw [HX.out]; exact H5.out.2.1.heap (heap_set S4.out.1.hL b _) (by simpa using n3)
                have hs5 : w5.heap[q.s]? = wr.heap[q.s]? := (H5.out.2.1.heap (H5.out.2.2.heap S4.out.1.hs (by simpa using n1)) (by simpa using n2)).trans S4.out.1.hs.symm
                have hst5 := StAt.put S4.out.1 HB.out (Pl.good_unpack _) hs5 hh H5.out.1
                have hrel' : RcR w q s H0 (.int .i64 ((a : Int) + 8)) w5 := by
                  refine ⟨r + 1, by have := HA.out; have := HR.out.1; omega, by rw [show ((8 * (r + 1) : Nat) : Int) = (a : Int) + 8 from by have := HA.out.1; omega], ?_, ?_⟩
                  · rw [HE.out.1, HE.out.2]; exact hst5
                  · refine Chg.trans ?_ (H5.out.2.1.mono (by simp [SId.all]))
                    refine Chg.trans ?_ (H5.out.2.2.mono (by simp [SId.all]))
                    exact S4.out.2
                first | exact hrel' | ((repeat apply Exists.intro); exact ⟨hrel', rfl⟩)
              case measure => simp [intOf]; omega
        · have hd2 : decide (((8 * r : Nat) : Int) < (s.size : Int)) = false := decide_eq_false (by omega)
          have HN : Hid (r = s.size / 8) := by have := HR.out.1; show _ = _; omega
          go_wp2
          go_ret
          refine ⟨rfl, ?_, S4.out.2⟩
          rw [← HN.out]
          exact S4.out.1
end Go.Proofs.Qxb6500342a
