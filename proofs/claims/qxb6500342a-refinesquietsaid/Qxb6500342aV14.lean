/-
  Walks 14: judge.
-/
import Derived.Test.Qxb6500342aV13
namespace Go.Proofs.Qxb6500342a
open Go.RowKit
open Go.Proofs
open Pl (Hd)
open Tx (st)
set_option linter.unusedSimpArgs false
set_option linter.unusedVariables false
attribute [local go_sem] alloc_drewN setCell_drewN shape?_drewN

/-- The bytes of a string. -/
def Bf (s : ByteArray) (i : Nat) : Nat := (s.data.toList.getD i 0).toNat
theorem Bf_lt (s : ByteArray) (i : Nat) : Bf s i < 256 := UInt8.toNat_lt _
theorem Bf_get (s : ByteArray) (i : Nat) (h : i < s.size) : s[i].toNat = Bf s i := by
  unfold Bf
  have h' : i < s.data.toList.length := by simpa using h
  rw [List.getD_eq_getElem?_getD, List.getElem?_eq_getElem h']
  rfl
def JdR (s : ByteArray) (l a : Value) : Prop := ∃ (r : Nat) (last : Int), 8 * r ≤ s.size ∧ a = .int .i64 ((8 * r : Nat) : Int) ∧ l = .int .i64 last ∧ -1 ≤ last ∧ last ≤ 255 ∧ Im.jd (Bf s) (s.size / 8) 0 (-1) = Im.jd (Bf s) (s.size / 8 - r) (8 * r) last
set_option maxRecDepth 100000 in
set_option maxHeartbeats 1000000 in
theorem judge_any (w : World) (s : ByteArray) (hs : s.size ≤ 9223372036854775807) : Calls Try.prog 58 #[.string s] w fun e w' => e = .returned (.int .i64 (Im.judge s.size (Bf s))) ∧ Ext w w' := by
  by_cases h1 : 64 < s.size
  · have HE : Hid (Im.judge s.size (Bf s) = 1) := by show _ = _; unfold Im.judge; rw [if_pos h1]
    have hd : decide ((64 : Int) < (s.size : Int)) = true := decide_eq_true (by omega)
    go_enter Try.func58, Try.ntmps58
    go_wp2
    go_ret
    exact ⟨ret_int HE.out.symm, Ext.refl _⟩
  · have hd : decide ((64 : Int) < (s.size : Int)) = false := decide_eq_false (by omega)
    by_cases h2 : s.size % 8 = 0
    · have HE : Hid (Im.judge s.size (Bf s) = Im.jd (Bf s) (s.size / 8) 0 (-1)) := by show _ = _; unfold Im.judge; rw [if_neg h1, if_neg (by omega)]
      have hm : (((s.size : Int) % 8) != 0) = false := by rw [bne_eq_false_iff_eq]; omega
      have H2 : Hid (s.size % 8 = 0) := h2
      have hle : s.size ≤ 64 := by omega
      clear h2 h1
      go_enter Try.func58, Try.ntmps58
      go_wp2
      go_loop [3, 4] (fun l a => JdR s l a) (fun _ a => s.size - (intOf a).toNat)
      case atStart => exact ⟨0, -1, by omega, rfl, rfl, by omega, by omega, by simp⟩
      case round =>
        obtain ⟨r, last, hr, rfl, rfl, hl0, hl1, hj⟩ := hrel
        have HJ : Hid (Im.jd (Bf s) (s.size / 8) 0 (-1) = Im.jd (Bf s) (s.size / 8 - r) (8 * r) last) := hj
        clear hj
        by_cases hlt : 8 * r < s.size
        · have hd2 : decide (((8 * r : Nat) : Int) < (s.size : Int)) = true := decide_eq_true (by omega)
          have hb := Bf_get s (8 * r) hlt
          have hb' := Bf_lt s (8 * r)
          have HN : Hid (Im.jd (Bf s) (s.size / 8 - r) (8 * r) last = if 8 ≤ Bf s (8 * r) ∨ (Bf s (8 * r) : Int) ≤ last then 9 else Im.jd (Bf s) (s.size / 8 - (r + 1)) (8 * (r + 1)) (Bf s (8 * r))) := by
            show _ = _
            have := H2.out
            obtain ⟨m, hm⟩ : ∃ m, s.size / 8 - r = m + 1 := ⟨s.size / 8 - r - 1, by omega⟩
            rw [hm, Im.jd, show s.size / 8 - (r + 1) = m from by omega, show 8 * (r + 1) = 8 * r + 8 from by omega]
          generalize hq : 8 * r = a at *
          have HB : Hid (s[a].toNat = Bf s a) := hb
          clear hb
          generalize hbb : Bf s a = b at *
          have hbn : s[a].toNat = b := HB.out
          have hbl : s[a].toNat < 256 := by omega
          generalize hy : s[a] = y at *
          have HQ : Hid (8 * r = a ∧ s.size % 8 = 0) := ⟨hq, H2.out⟩
          clear hq
          by_cases k1 : 8 ≤ b
          · have e1 : decide ((8 : Int) ≤ (b : Int)) = true := decide_eq_true (by omega)
            have HF : Hid (Im.judge s.size (Bf s) = 9) := by show _ = _; rw [HE.out, HJ.out, HN.out, if_pos (.inl k1)]
            clear k1
            go_wp2
            go_ret
            exact ⟨ret_int HF.out.symm, Ext.refl _⟩
          · have e1 : decide ((8 : Int) ≤ (b : Int)) = false := decide_eq_false (by omega)
            by_cases k2 : (b : Int) ≤ last
            · have e2 : decide ((b : Int) ≤ last) = true := decide_eq_true k2
              have HF : Hid (Im.judge s.size (Bf s) = 9) := by show _ = _; rw [HE.out, HJ.out, HN.out, if_pos (.inr k2)]
              clear k1 k2
              go_wp2
              go_ret
              exact ⟨ret_int HF.out.symm, Ext.refl _⟩
            · have e2 : decide ((b : Int) ≤ last) = false := decide_eq_false k2
              have HF : Hid (Im.jd (Bf s) (s.size / 8) 0 (-1) = Im.jd (Bf s) (s.size / 8 - (r + 1)) (8 * (r + 1)) b) := by
                show _ = _; rw [HJ.out, HN.out, if_neg (by omega)]
              have e3 : ((8 * (r + 1) : Nat) : Int) = (a : Int) + 8 := by have := HQ.out.1; omega
              have E3 : Hid (((8 * (r + 1) : Nat) : Int) = (a : Int) + 8) := e3
              clear k1 k2 e3
              go_wp2
              go_round
              case rel => exact ⟨r + 1, b, by have := HQ.out; omega, by rw [E3.out], rfl, by omega, by omega, HF.out⟩
              case measure => simp [intOf]; omega
        · have hd2 : decide (((8 * r : Nat) : Int) < (s.size : Int)) = false := decide_eq_false (by omega)
          have HF : Hid (Im.judge s.size (Bf s) = 0) := by
            show _ = _
            have := H2.out
            rw [HE.out, HJ.out, show s.size / 8 - r = 0 from by omega]; rfl
          go_wp2
          go_ret
          exact ⟨ret_int HF.out.symm, Ext.refl _⟩
    · have HE : Hid (Im.judge s.size (Bf s) = 9) := by show _ = _; unfold Im.judge; rw [if_neg h1, if_pos h2]
      have hm : (((s.size : Int) % 8) != 0) = true := by rw [bne_iff_ne]; omega
      go_enter Try.func58, Try.ntmps58
      go_wp2
      go_ret
      exact ⟨ret_int HE.out.symm, Ext.refl _⟩
set_option maxRecDepth 100000 in
set_option maxHeartbeats 1000000 in
theorem judge2_any (w : World) (s : ByteArray) (hs : s.size ≤ 9223372036854776207) : Calls Try.prog 62 #[.string s] w fun e w' => e = .returned (.int .i64 (Im.judge s.size (Bf s))) ∧ Ext w w' := by
  by_cases h1 : 64 < s.size
  · have HE : Hid (Im.judge s.size (Bf s) = 1) := by show _ = _; unfold Im.judge; rw [if_pos h1]
    have hd : decide ((64 : Int) < (s.size : Int)) = true := decide_eq_true (by omega)
    go_enter Try.func62, Try.ntmps62
    go_wp2
    go_ret
    exact ⟨ret_int HE.out.symm, Ext.refl _⟩
  · have hd : decide ((64 : Int) < (s.size : Int)) = false := decide_eq_false (by omega)
    by_cases h2 : s.size % 8 = 0
    · have HE : Hid (Im.judge s.size (Bf s) = Im.jd (Bf s) (s.size / 8) 0 (-1)) := by show _ = _; unfold Im.judge; rw [if_neg h1, if_neg (by omega)]
      have hm : (((s.size : Int) % 8) != 0) = false := by rw [bne_eq_false_iff_eq]; omega
      have H2 : Hid (s.size % 8 = 0) := h2
      have hle : s.size ≤ 64 := by omega
      clear h2 h1
      go_enter Try.func62, Try.ntmps62
      go_wp2
      go_loop [3, 4] (fun l a => JdR s l a) (fun _ a => s.size - (intOf a).toNat)
      case atStart => exact ⟨0, -1, by omega, rfl, rfl, by omega, by omega, by simp⟩
      case round =>
        obtain ⟨r, last, hr, rfl, rfl, hl0, hl1, hj⟩ := hrel
        have HJ : Hid (Im.jd (Bf s) (s.size / 8) 0 (-1) = Im.jd (Bf s) (s.size / 8 - r) (8 * r) last) := hj
        clear hj
        by_cases hlt : 8 * r < s.size
        · have hd2 : decide (((8 * r : Nat) : Int) < (s.size : Int)) = true := decide_eq_true (by omega)
          have hb := Bf_get s (8 * r) hlt
          have hb' := Bf_lt s (8 * r)
          have HN : Hid (Im.jd (Bf s) (s.size / 8 - r) (8 * r) last = if 8 ≤ Bf s (8 * r) ∨ (Bf s (8 * r) : Int) ≤ last then 9 else Im.jd (Bf s) (s.size / 8 - (r + 1)) (8 * (r + 1)) (Bf s (8 * r))) := by
            show _ = _
            have := H2.out
            obtain ⟨m, hm⟩ : ∃ m, s.size / 8 - r = m + 1 := ⟨s.size / 8 - r - 1, by omega⟩
            rw [hm, Im.jd, show s.size / 8 - (r + 1) = m from by omega, show 8 * (r + 1) = 8 * r + 8 from by omega]
          generalize hq : 8 * r = a at *
          have HB : Hid (s[a].toNat = Bf s a) := hb
          clear hb
          generalize hbb : Bf s a = b at *
          have hbn : s[a].toNat = b := HB.out
          have hbl : s[a].toNat < 256 := by omega
          generalize hy : s[a] = y at *
          have HQ : Hid (8 * r = a ∧ s.size % 8 = 0) := ⟨hq, H2.out⟩
          clear hq
          by_cases k1 : 8 ≤ b
          · have e1 : decide ((8 : Int) ≤ (b : Int)) = true := decide_eq_true (by omega)
            have HF : Hid (Im.judge s.size (Bf s) = 9) := by show _ = _; rw [HE.out, HJ.out, HN.out, if_pos (.inl k1)]
            clear k1
            go_wp2
            go_ret
            exact ⟨ret_int HF.out.symm, Ext.refl _⟩
          · have e1 : decide ((8 : Int) ≤ (b : Int)) = false := decide_eq_false (by omega)
            by_cases k2 : (b : Int) ≤ last
            · have e2 : decide ((b : Int) ≤ last) = true := decide_eq_true k2
              have HF : Hid (Im.judge s.size (Bf s) = 9) := by show _ = _; rw [HE.out, HJ.out, HN.out, if_pos (.inr k2)]
              clear k1 k2
              go_wp2
              go_ret
              exact ⟨ret_int HF.out.symm, Ext.refl _⟩
            · have e2 : decide ((b : Int) ≤ last) = false := decide_eq_false k2
              have HF : Hid (Im.jd (Bf s) (s.size / 8) 0 (-1) = Im.jd (Bf s) (s.size / 8 - (r + 1)) (8 * (r + 1)) b) := by
                show _ = _; rw [HJ.out, HN.out, if_neg (by omega)]
              have e3 : ((8 * (r + 1) : Nat) : Int) = (a : Int) + 8 := by have := HQ.out.1; omega
              have E3 : Hid (((8 * (r + 1) : Nat) : Int) = (a : Int) + 8) := e3
              clear k1 k2 e3
              go_wp2
              go_round
              case rel => exact ⟨r + 1, b, by have := HQ.out; omega, by rw [E3.out], rfl, by omega, by omega, HF.out⟩
              case measure => simp [intOf]; omega
        · have hd2 : decide (((8 * r : Nat) : Int) < (s.size : Int)) = false := decide_eq_false (by omega)
          have HF : Hid (Im.judge s.size (Bf s) = 0) := by
            show _ = _
            have := H2.out
            rw [HE.out, HJ.out, show s.size / 8 - r = 0 from by omega]; rfl
          go_wp2
          go_ret
          exact ⟨ret_int HF.out.symm, Ext.refl _⟩
    · have HE : Hid (Im.judge s.size (Bf s) = 9) := by show _ = _; unfold Im.judge; rw [if_neg h1, if_pos h2]
      have hm : (((s.size : Int) % 8) != 0) = true := by rw [bne_iff_ne]; omega
      go_enter Try.func62, Try.ntmps62
      go_wp2
      go_ret
      exact ⟨ret_int HE.out.symm, Ext.refl _⟩
end Go.Proofs.Qxb6500342a
