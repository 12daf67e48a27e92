/-
  Walks 3: lay, bump.
-/
import Derived.Test.Qxb6500342aV2
namespace Go.Proofs.Qxb6500342a
open Go.RowKit
open Go.Proofs
open Pl (Hd)
set_option linter.unusedSimpArgs false
set_option linter.unusedVariables false
attribute [local go_sem] alloc_drewN setCell_drewN shape?_drewN

theorem set_set (C : Array Value) (i : Nat) (a b : Value) : (C.setIfInBounds i a).setIfInBounds i b = C.setIfInBounds i b := by
  apply Array.ext_getElem?
  intro k
  simp only [Array.getElem?_setIfInBounds]
  split <;> simp_all
set_option maxHeartbeats 400000 in
theorem lay8 (w : World) (L i : Nat) (C : Array Value) (x v : Int) (hL : w.heap[L]? = some (.cells C 28)) (hC : C[i]? = some (.int .u64 x)) (h0 : 0 ≤ x) (h1 : x < 18446744073709551616) (hv0 : 0 ≤ v) (hv1 : v < 18446744073709551616) :
    Calls Try.prog 73 #[.pointer (some ⟨L, i, none⟩), .int .u64 8, .int .u64 65535, .int .u64 v] w fun e w' => e = .returned (.tuple #[]) ∧ w'.heap[L]? = some (.cells (C.setIfInBounds i (.int .u64 (x % 256 + v % 65536 * 256 + x / 16777216 * 16777216))) 28) ∧ Chg [L] w w' := by
  have g0 : w.cell? ⟨L, i, none⟩ = some (.int .u64 x) := (cell_of hL i).trans hC
  have gf : w.frozen? ⟨L, i, none⟩ = false := frozen_of hL i
  have HE : Hid (bits .or .u64 (bits .andNot .u64 x 16776960) (IntKind.u64.wrap (bits .and .u64 v 65535 * 256)) = x % 256 + v % 65536 * 256 + x / 16777216 * 16777216) := by
    have e : IntKind.u64.wrap (bits .and .u64 v 65535 * 256) = bits .and .u64 v 65535 * 256 := by
      rw [and_mask 16 hv0 hv1 (by decide) 65535 (by decide), IntKind.wrap_u64]; omega
    rw [e]
    exact lay_int 8 16 x v 65535 h0 h1 hv0 hv1 (by decide) (by decide) 16776960 _ (by decide) (by simp)
  have HL : Hid (w.heap[L]? = some (.cells C 28)) := hL
  clear hL hC
  go_enter Try.func73, Try.ntmps73
  go_wp2
  refine bodyPost_end (results_none rfl _ _ _) rfl ?_
  refine ⟨rfl, ?_, ((Chg.refl _ _).setCell (by simp) _).setCell (by simp) _⟩
  rw [heap_set (heap_set HL.out i _) i _, set_set, HE.out]
set_option maxHeartbeats 400000 in
theorem lay24 (w : World) (L i : Nat) (C : Array Value) (x v : Int) (hL : w.heap[L]? = some (.cells C 28)) (hC : C[i]? = some (.int .u64 x)) (h0 : 0 ≤ x) (h1 : x < 18446744073709551616) (hv0 : 0 ≤ v) (hv1 : v < 18446744073709551616) :
    Calls Try.prog 73 #[.pointer (some ⟨L, i, none⟩), .int .u64 24, .int .u64 65535, .int .u64 v] w fun e w' => e = .returned (.tuple #[]) ∧ w'.heap[L]? = some (.cells (C.setIfInBounds i (.int .u64 (x % 16777216 + v % 65536 * 16777216 + x / 1099511627776 * 1099511627776))) 28) ∧ Chg [L] w w' := by
  have g0 : w.cell? ⟨L, i, none⟩ = some (.int .u64 x) := (cell_of hL i).trans hC
  have gf : w.frozen? ⟨L, i, none⟩ = false := frozen_of hL i
  have HE : Hid (bits .or .u64 (bits .andNot .u64 x 1099494850560) (IntKind.u64.wrap (bits .and .u64 v 65535 * 16777216)) = x % 16777216 + v % 65536 * 16777216 + x / 1099511627776 * 1099511627776) := by
    have e : IntKind.u64.wrap (bits .and .u64 v 65535 * 16777216) = bits .and .u64 v 65535 * 16777216 := by
      rw [and_mask 16 hv0 hv1 (by decide) 65535 (by decide), IntKind.wrap_u64]; omega
    rw [e]
    exact lay_int 24 16 x v 65535 h0 h1 hv0 hv1 (by decide) (by decide) 1099494850560 _ (by decide) (by simp)
  have HL : Hid (w.heap[L]? = some (.cells C 28)) := hL
  clear hL hC
  go_enter Try.func73, Try.ntmps73
  go_wp2
  refine bodyPost_end (results_none rfl _ _ _) rfl ?_
  refine ⟨rfl, ?_, ((Chg.refl _ _).setCell (by simp) _).setCell (by simp) _⟩
  rw [heap_set (heap_set HL.out i _) i _, set_set, HE.out]
set_option maxHeartbeats 400000 in
theorem lay45 (w : World) (L i : Nat) (C : Array Value) (x v : Int) (hL : w.heap[L]? = some (.cells C 28)) (hC : C[i]? = some (.int .u64 x)) (h0 : 0 ≤ x) (h1 : x < 18446744073709551616) (hv0 : 0 ≤ v) (hv1 : v < 18446744073709551616) :
    Calls Try.prog 73 #[.pointer (some ⟨L, i, none⟩), .int .u64 45, .int .u64 2047, .int .u64 v] w fun e w' => e = .returned (.tuple #[]) ∧ w'.heap[L]? = some (.cells (C.setIfInBounds i (.int .u64 (x % 35184372088832 + v % 2048 * 35184372088832 + x / 72057594037927936 * 72057594037927936))) 28) ∧ Chg [L] w w' := by
  have g0 : w.cell? ⟨L, i, none⟩ = some (.int .u64 x) := (cell_of hL i).trans hC
  have gf : w.frozen? ⟨L, i, none⟩ = false := frozen_of hL i
  have HE : Hid (bits .or .u64 (bits .andNot .u64 x 72022409665839104) (IntKind.u64.wrap (bits .and .u64 v 2047 * 35184372088832)) = x % 35184372088832 + v % 2048 * 35184372088832 + x / 72057594037927936 * 72057594037927936) := by
    have e : IntKind.u64.wrap (bits .and .u64 v 2047 * 35184372088832) = bits .and .u64 v 2047 * 35184372088832 := by
      rw [and_mask 11 hv0 hv1 (by decide) 2047 (by decide), IntKind.wrap_u64]; omega
    rw [e]
    exact lay_int 45 11 x v 2047 h0 h1 hv0 hv1 (by decide) (by decide) 72022409665839104 _ (by decide) (by simp)
  have HL : Hid (w.heap[L]? = some (.cells C 28)) := hL
  clear hL hC
  go_enter Try.func73, Try.ntmps73
  go_wp2
  refine bodyPost_end (results_none rfl _ _ _) rfl ?_
  refine ⟨rfl, ?_, ((Chg.refl _ _).setCell (by simp) _).setCell (by simp) _⟩
  rw [heap_set (heap_set HL.out i _) i _, set_set, HE.out]

theorem xor40 (x : Int) (h0 : 0 ≤ x) (h1 : x < 18446744073709551616) : bits .xor .u64 x 1099511627776 = if x / 1099511627776 % 2 = 0 then x + 1099511627776 else x - 1099511627776 := by
  obtain ⟨x, rfl⟩ := Int.eq_ofNat_of_zero_le h0
  rw [show (1099511627776 : Int) = ((1099511627776 : Nat) : Int) from rfl, u64_xor_nat x _ (by omega) (by decide)]
  have := Bt.xor_pow 40 x
  rw [show (2 : Nat) ^ 40 = 1099511627776 from by decide] at this
  rw [this]
  by_cases h : x / 1099511627776 % 2 = 0
  · rw [if_pos h, if_pos (by omega)]; omega
  · rw [if_neg h, if_neg (by omega)]; omega
/-- The new word, step by step. -/
def bx1 (x d : Int) : Int := x % 256 + (Pl.sx16 (x / 256) + Pl.sx16 d) % 65536 * 256 + x / 16777216 * 16777216
def bl (y : Int) : Int := if y / 16777216 % 65536 < 65535 then y / 16777216 % 65536 + 1 else y / 16777216 % 65536
def bx2 (y : Int) : Int := y % 16777216 + bl y * 16777216 + y / 1099511627776 * 1099511627776
def bx3 (y : Int) : Int := y % 35184372088832 + (y / 35184372088832 + 1) % 2048 * 35184372088832 + y / 72057594037927936 * 72057594037927936
def bx4 (y : Int) : Int := if y / 1099511627776 % 2 = 0 then y + 1099511627776 else y - 1099511627776
theorem bump_eq (x d : Int) (h0 : 0 ≤ x) (h1 : x < 72057594037927936) : bx4 (bx3 (bx2 (bx1 x d))) = Pl.packI (Pl.bumpH (Pl.unpackI x) d) := by
  have hx : ∃ k e l f s : Int, 0 ≤ k ∧ k < 256 ∧ 0 ≤ e ∧ e < 65536 ∧ 0 ≤ l ∧ l < 65536 ∧ 0 ≤ f ∧ f < 32 ∧ 0 ≤ s ∧ s < 2048 ∧ x = k + e * 256 + l * 16777216 + f * 1099511627776 + s * 35184372088832 :=
    ⟨x % 256, x / 256 % 65536, x / 16777216 % 65536, x / 1099511627776 % 32, x / 35184372088832, by omega, by omega, by omega, by omega, by omega, by omega, by omega, by omega, by omega, by omega, by omega⟩
  obtain ⟨k, e, l, f, s, k0, k1, e0, e1, l0, l1, f0, f1, s0, s1, hx⟩ := hx
  have u : Pl.unpackI x = ⟨(k + 128) % 256 - 128, (e + 32768) % 65536 - 32768, l, f, s⟩ := by
    unfold Pl.unpackI Pl.sx8 Pl.sx16
    simp only [Hd.mk.injEq]
    omega
  have b1 : bx1 x d = k + ((e + d) % 65536) * 256 + l * 16777216 + f * 1099511627776 + s * 35184372088832 := by
    unfold bx1 Pl.sx16; omega
  have q0 : 0 ≤ (e + d) % 65536 ∧ (e + d) % 65536 < 65536 := by omega
  have q1 : (Pl.sx16 ((e + 32768) % 65536 - 32768 + d)) % 65536 = (e + d) % 65536 := by unfold Pl.sx16; omega
  rw [b1, u]
  clear b1 u hx
  generalize hm : (e + d) % 65536 = m at *
  have b2 : bx2 (k + m * 256 + l * 16777216 + f * 1099511627776 + s * 35184372088832) = k + m * 256 + (if l < 65535 then l + 1 else l) * 16777216 + f * 1099511627776 + s * 35184372088832 := by
    have e1 : (k + m * 256 + l * 16777216 + f * 1099511627776 + s * 35184372088832) / 16777216 % 65536 = l := by omega
    unfold bx2 bl
    rw [e1]
    split <;> omega
  rw [b2]
  have q2 : 0 ≤ (if l < 65535 then l + 1 else l) ∧ (if l < 65535 then l + 1 else l) < 65536 := by split <;> omega
  have b3 : ∀ l' : Int, 0 ≤ l' → l' < 65536 → bx3 (k + m * 256 + l' * 16777216 + f * 1099511627776 + s * 35184372088832) = k + m * 256 + l' * 16777216 + f * 1099511627776 + (s + 1) % 2048 * 35184372088832 := by
    intro l' a b
    unfold bx3
    omega
  rw [b3 _ q2.1 q2.2]
  unfold Pl.packI Pl.bumpH
  simp only [q1]
  generalize (if l < 65535 then l + 1 else l) = l' at *
  unfold bx4
  have e6 : (k + m * 256 + l' * 16777216 + f * 1099511627776 + (s + 1) % 2048 * 35184372088832) / 1099511627776 % 2 = f % 2 := by omega
  rw [e6]
  have hf2 : f % 2 = 0 ∨ f % 2 = 1 := by omega
  rcases hf2 with hf2 | hf2
  · rw [if_pos hf2, if_pos hf2]; omega
  · rw [if_neg (by omega), if_neg (by omega)]; omega
theorem bx1_range (x d : Int) (h0 : 0 ≤ x) (h1 : x < 72057594037927936) : 0 ≤ bx1 x d ∧ bx1 x d < 72057594037927936 := by unfold bx1; omega
theorem bl_range (y : Int) : 0 ≤ bl y ∧ bl y < 65536 := by unfold bl; split <;> omega
theorem bx2_range (y : Int) (h0 : 0 ≤ y) (h1 : y < 72057594037927936) : 0 ≤ bx2 y ∧ bx2 y < 72057594037927936 := by
  have := bl_range y
  unfold bx2; omega
theorem bx3_range (y : Int) (h0 : 0 ≤ y) (h1 : y < 72057594037927936) : 0 ≤ bx3 y ∧ bx3 y < 72057594037927936 := by unfold bx3; omega
theorem get_set (C : Array Value) (i : Nat) (v u : Value) (h : C[i]? = some u) : (C.setIfInBounds i v)[i]? = some v := by
  have := (Array.getElem?_eq_some_iff.1 h).1
  simp [this]
set_option maxHeartbeats 1000000 in
theorem bump_any (w : World) (L i : Nat) (C : Array Value) (x d : Int) (hL : w.heap[L]? = some (.cells C 28)) (hC : C[i]? = some (.int .u64 x)) (h0 : 0 ≤ x) (h1 : x < 72057594037927936) :
    Calls Try.prog 55 #[.pointer (some ⟨L, i, none⟩), .int .i64 d] w fun e w' => e = .returned (.tuple #[]) ∧ w'.heap[L]? = some (.cells (C.setIfInBounds i (.int .u64 (Pl.packI (Pl.bumpH (Pl.unpackI x) d)))) 28) ∧ Chg [L] w w' := by
  have g0 : w.cell? ⟨L, i, none⟩ = some (.int .u64 x) := (cell_of hL i).trans hC
  have HL : Hid (w.heap[L]? = some (.cells C 28) ∧ C[i]? = some (.int .u64 x)) := ⟨hL, hC⟩
  have HV : Hid (∀ v, v % 65536 = (Pl.sx16 (x / 256) + Pl.sx16 d) % 65536 → x % 256 + v % 65536 * 256 + x / 16777216 * 16777216 = bx1 x d) := by
    intro v hv; unfold bx1; rw [hv]
  have r1 := bx1_range x d h0 h1
  have r2 := bx2_range _ r1.1 r1.2
  have r3 := bx3_range _ r2.1 r2.2
  have rl := bl_range (bx1 x d)
  have HR : Hid ((0 ≤ bx1 x d ∧ bx1 x d < 72057594037927936) ∧ (0 ≤ bx2 (bx1 x d) ∧ bx2 (bx1 x d) < 72057594037927936) ∧ (0 ≤ bx3 (bx2 (bx1 x d)) ∧ bx3 (bx2 (bx1 x d)) < 72057594037927936) ∧ 0 ≤ bl (bx1 x d) ∧ bl (bx1 x d) < 65536) := ⟨r1, r2, r3, rl⟩
  clear hL hC r1 r2 r3 rl
  go_enter Try.func55, Try.ntmps55
  go_wp2_with fail
  refine (lay8 w L i C x _ HL.out.1 HL.out.2 (by omega) (by omega) ?_ ?_).mono ?_
  · rw [IntKind.wrap_u64]; omega
  · rw [IntKind.wrap_u64]; omega
  rintro e w1 ⟨rfl, q1, c1⟩
  rw [HV.out _ (by rw [IntKind.wrap_u64, wrap_u16_eq, wrap_i16_eq, wrap_i16_eq, wrap_i16_eq]; unfold Pl.sx16; omega)] at q1
  have g1 : w1.cell? ⟨L, i, none⟩ = some (.int .u64 (bx1 x d)) := (cell_of q1 i).trans (get_set _ _ _ _ HL.out.2)
  have Q1 : Hid (w1.heap[L]? = some (.cells (C.setIfInBounds i (.int .u64 (bx1 x d))) 28) ∧ Chg [L] w w1) := ⟨q1, c1⟩
  have y0 := HR.out.1.1
  have y1 := HR.out.1.2
  clear q1 c1 g0
  have HN : Hid (bl (bx1 x d) = if bx1 x d / 16777216 % 65536 < 65535 then bx1 x d / 16777216 % 65536 + 1 else bx1 x d / 16777216 % 65536) := rfl
  generalize hy : bx1 x d = y at *
  have HY : Hid (bx1 x d = y) := hy
  clear hy
  have key : ∀ (n : Int), n = bl y → ∀ w1', w1' = w1 → Calls Try.prog 73 #[.pointer (some ⟨L, i, none⟩), .int .u64 24, .int .u64 65535, .int .u64 n] w1' fun e w' => e = .returned (.tuple #[]) ∧ w'.heap[L]? = some (.cells (C.setIfInBounds i (.int .u64 (bx2 y))) 28) ∧ Chg [L] w w' := by
    rintro n rfl w1' rfl
    refine (lay24 w1' L i _ y (bl y) Q1.out.1 (get_set _ _ _ _ HL.out.2) (by omega) (by omega) (by have := HR.out.2.2.2; omega) (by have := HR.out.2.2.2; omega)).mono ?_
    rintro e w2 ⟨rfl, q2, c2⟩
    refine ⟨rfl, ?_, Q1.out.2.trans c2⟩
    rw [q2, set_set]
    unfold bx2
    rw [Int.emod_eq_of_lt (a := bl y) (b := 65536) HR.out.2.2.2.1 HR.out.2.2.2.2]
  have HKEY := key
  clear key
  by_cases hlt : y / 16777216 % 65536 < 65535
  · have hu : IntKind.u16.wrap (y / 16777216) = y / 16777216 % 65536 := wrap_u16_eq _
    have hd : decide (y / 16777216 % 65536 < 65535) = true := decide_eq_true hlt
    go_wp2_with fail
    refine (HKEY _ (by rw [HN.out, if_pos (by omega)]) _ rfl).mono ?_
    rintro e w2 ⟨rfl, q2, c2⟩
    have g2 : w2.cell? ⟨L, i, none⟩ = some (.int .u64 (bx2 y)) := (cell_of q2 i).trans (get_set _ _ _ _ HL.out.2)
    have Q2 : Hid (w2.heap[L]? = some (.cells (C.setIfInBounds i (.int .u64 (bx2 y))) 28) ∧ Chg [L] w w2) := ⟨q2, c2⟩
    have z0 := HR.out.2.1.1
    have z1 := HR.out.2.1.2
    clear q2 c2 g1 HKEY hlt hd hu y0 y1
    have HY2 : Hid (bx3 (bx2 y) = bx3 (bx2 y)) := rfl
    generalize hy2 : bx2 y = y2 at *
    have HZ : Hid (bx2 y = y2) := hy2
    clear hy2
    go_wp2_with fail
    refine (lay45 w2 L i _ y2 _ Q2.out.1 (get_set _ _ _ _ HL.out.2) (by omega) (by omega) (by omega) (by omega)).mono ?_
    rintro e w3 ⟨rfl, q3, c3⟩
    rw [set_set] at q3
    have q3' : w3.heap[L]? = some (.cells (C.setIfInBounds i (.int .u64 (bx3 y2))) 28) := q3
    have g3 : w3.cell? ⟨L, i, none⟩ = some (.int .u64 (bx3 y2)) := (cell_of q3' i).trans (get_set _ _ _ _ HL.out.2)
    have gf : w3.frozen? ⟨L, i, none⟩ = false := frozen_of q3' i
    have Q3 : Hid (w3.heap[L]? = some (.cells (C.setIfInBounds i (.int .u64 (bx3 y2))) 28) ∧ Chg [L] w w3) := ⟨q3', Q2.out.2.trans c3⟩
    clear q3 q3' c3 g2 z0 z1
    go_wp2
    refine bodyPost_end (results_none rfl _ _ _) rfl ?_
    refine ⟨rfl, ?_, Q3.out.2.setCell (by simp) _⟩
    rw [heap_set Q3.out.1 i _, set_set, xor40 _ HR.out.2.2.1.1 (by have := HR.out.2.2.1.2; omega)]
    have := bump_eq x d h0 h1
    rw [HY.out, HZ.out] at this
    rw [← this]
    rfl
  · have hu : IntKind.u16.wrap (y / 16777216) = y / 16777216 % 65536 := wrap_u16_eq _
    have hd : decide (y / 16777216 % 65536 < 65535) = false := decide_eq_false hlt
    go_wp2_with fail
    refine (HKEY _ (by rw [HN.out, if_neg (by omega)]) _ rfl).mono ?_
    rintro e w2 ⟨rfl, q2, c2⟩
    have g2 : w2.cell? ⟨L, i, none⟩ = some (.int .u64 (bx2 y)) := (cell_of q2 i).trans (get_set _ _ _ _ HL.out.2)
    have Q2 : Hid (w2.heap[L]? = some (.cells (C.setIfInBounds i (.int .u64 (bx2 y))) 28) ∧ Chg [L] w w2) := ⟨q2, c2⟩
    have z0 := HR.out.2.1.1
    have z1 := HR.out.2.1.2
    clear q2 c2 g1 HKEY hlt hd hu y0 y1
    have HY2 : Hid (bx3 (bx2 y) = bx3 (bx2 y)) := rfl
    generalize hy2 : bx2 y = y2 at *
    have HZ : Hid (bx2 y = y2) := hy2
    clear hy2
    go_wp2_with fail
    refine (lay45 w2 L i _ y2 _ Q2.out.1 (get_set _ _ _ _ HL.out.2) (by omega) (by omega) (by omega) (by omega)).mono ?_
    rintro e w3 ⟨rfl, q3, c3⟩
    rw [set_set] at q3
    have q3' : w3.heap[L]? = some (.cells (C.setIfInBounds i (.int .u64 (bx3 y2))) 28) := q3
    have g3 : w3.cell? ⟨L, i, none⟩ = some (.int .u64 (bx3 y2)) := (cell_of q3' i).trans (get_set _ _ _ _ HL.out.2)
    have gf : w3.frozen? ⟨L, i, none⟩ = false := frozen_of q3' i
    have Q3 : Hid (w3.heap[L]? = some (.cells (C.setIfInBounds i (.int .u64 (bx3 y2))) 28) ∧ Chg [L] w w3) := ⟨q3', Q2.out.2.trans c3⟩
    clear q3 q3' c3 g2 z0 z1
    go_wp2
    refine bodyPost_end (results_none rfl _ _ _) rfl ?_
    refine ⟨rfl, ?_, Q3.out.2.setCell (by simp) _⟩
    rw [heap_set Q3.out.1 i _, set_set, xor40 _ HR.out.2.2.1.1 (by have := HR.out.2.2.1.2; omega)]
    have := bump_eq x d h0 h1
    rw [HY.out, HZ.out] at this
    rw [← this]
    rfl
end Go.Proofs.Qxb6500342a
