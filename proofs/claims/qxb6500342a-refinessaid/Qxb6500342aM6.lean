/-
  The model: take.
-/
import Derived.Test.Qxb6500342aM3
namespace Go.Proofs.Qxb6500342a
open Go.RowKit
open Go.Proofs
open Pl (Hd)
open Tx (st)
set_option linter.unusedSimpArgs false
set_option linter.unusedVariables false
attribute [local go_sem] alloc_drewN setCell_drewN shape?_drewN

theorem GhIn.congr {C : Array Value} {u v : Nat} {G F : Nat → Hd} (h : GhIn C v F) (hb : ∀ i, i < 8 → v.testBit i = u.testBit i ∧ F i = G i) : GhIn C u G :=
  ⟨fun i hi => by rw [← (hb i hi).1]; exact h.used i hi, fun i hi => by rw [← (hb i hi).2]; exact h.k i hi, fun i hi => by rw [← (hb i hi).2]; exact h.d i hi, fun i hi => by rw [← (hb i hi).2]; exact h.l i hi, fun i hi => by rw [← (hb i hi).2]; exact h.f i hi, fun i hi => by rw [← (hb i hi).2]; exact h.s i hi⟩
theorem lt_addB {u n : Nat} (hu : u < 256) (hn : n < 8) : u ||| 2 ^ n < 256 := by
  have key : ∀ u : Fin 256, ∀ n : Fin 8, u.val ||| 2 ^ n.val < 256 := by decide +kernel
  exact key ⟨u, hu⟩ ⟨n, hn⟩
theorem lt_remB {u n : Nat} (hu : u < 256) (hn : n < 8) : remB u n < 256 := by
  have key : ∀ u : Fin 256, ∀ n : Fin 8, remB u.val n.val < 256 := by decide +kernel
  exact key ⟨u, hu⟩ ⟨n, hn⟩
theorem setB {v k : Nat} (hv : v < 256) (hk : k < 8) (b : Bool) : ∃ v', v' < 256 ∧ ∀ i, i < 8 → v'.testBit i = if i = k then b else v.testBit i := by
  cases b
  · exact ⟨remB v k, lt_remB hv hk, remB_bit hv hk⟩
  · exact ⟨v ||| 2 ^ k, lt_addB hv hk, addB_bit hv hk⟩
/-- The first k slots taken over. -/
def TkR (w : World) (m u : Nat) (G : Nat → Hd) (i : Value) (wr : World) : Prop :=
  ∃ (k : Nat) (C : Array Value) (v : Nat) (F : Nat → Hd), k ≤ 8 ∧ i = .int .i64 k ∧ v < 256 ∧ MAt wr m C v F ∧ (∀ i, i < k → v.testBit i = u.testBit i ∧ F i = G i) ∧ Chg [m] w wr
set_option maxRecDepth 100000 in
set_option maxHeartbeats 2000000 in
theorem mtake_any (w : World) (m n : Nat) (C D : Array Value) (v u : Nat) (F G : Nat → Hd) (hm : MAt w m C v F) (hn : MAt w n D u G) (hv : v < 256) (hne : n ≠ m) : Calls Try.prog 76 #[.pointer (some ⟨m, 0, none⟩), .pointer (some ⟨n, 0, none⟩)] w fun e w' => e = .returned (.tuple #[]) ∧ (∃ C', MAt w' m C' u G) ∧ Chg [m] w w' := by
  have HM : Hid (MAt w m C v F ∧ MAt w n D u G) := ⟨hm, hn⟩
  have hne' : m ≠ n := Ne.symm hne
  clear hm hn
  go_enter Try.func76, Try.ntmps76
  go_wp2
  go_loopw [4] (fun i wr => TkR w m u G i wr) (fun i _ => 8 - (intOf i).toNat)
  case atStart => exact ⟨0, C, v, F, by omega, rfl, hv, HM.out.1, fun i hi => by omega, Chg.refl _ _⟩
  case round =>
    obtain ⟨k, C', v', F', hk, rfl, hv', hM, hall, hc⟩ := hrel
    have HR : Hid (MAt wr m C' v' F' ∧ (∀ i, i < k → v'.testBit i = u.testBit i ∧ F' i = G i) ∧ Chg [m] w wr ∧ v' < 256) := ⟨hM, hall, hc, hv'⟩
    by_cases hlt : k < 8
    · have hN := HM.out.2.chg hc (by simpa using hne)
      obtain ⟨nu, nk, nd, nl, nf, ns⟩ := hN.rd hlt
      obtain ⟨mu, mk, md, ml, mf, ms⟩ := hM.rd hlt
      have fz := frozen_of hM.heap
      have hk0 : (k : Int) < 8 := by omega
      have hd : decide ((k : Int) < 8) = true := decide_eq_true hk0
      have n1 : ¬ (8 + k * 5 = k) := by omega
      obtain ⟨x, hx⟩ : ∃ x, G k = x := ⟨_, rfl⟩
      obtain ⟨b, hb⟩ : ∃ b, u.testBit k = b := ⟨_, rfl⟩
      have HX : Hid (G k = x ∧ u.testBit k = b) := ⟨hx, hb⟩
      rw [hx] at nk nd nl nf ns
      rw [hb] at nu
      clear hM hall hc hv' hx hb hN
      go_wp2
      go_region
      go_wp2
      go_region
      go_wp2
      go_roundw
      case rel =>
        obtain ⟨hM, hall, hc, hv'⟩ := HR.out
        obtain ⟨v2, hv2, hb2⟩ := setB hv' hlt b
        have a1 := hM.use hlt b hb2 (w' := wr.setCell ⟨m, k, none⟩ (.bool b)) (heap_set hM.heap _ _)
        have a2 := a1.hd hlt x (heap_set5 a1.heap (8 + k * 5) x)
        have a3 := a2.ext ((Ext.refl _).drew.drew)
        have c3 := ((chg_set5 (hc.setCell (p := ⟨m, k, none⟩) (by simp) (.bool b)) (p := 8 + k * 5) (b := m) (by simp) x).drew).drew
        have hrel' : TkR w m u G (.int .i64 ((k : Int) + 1)) _ := ⟨k + 1, _, v2, _, by omega, by go_num, hv2, a3, fun i hi => by
          by_cases e : i = k
          · subst e
            exact ⟨by rw [hb2 i hlt, if_pos rfl, HX.out.2], by simp [upd, HX.out.1]⟩
          · have := hall i (by omega)
            exact ⟨by rw [hb2 i (by omega), if_neg e]; exact this.1, by simp [upd, e]; exact this.2⟩, c3⟩
        first | exact hrel' | ((repeat apply Exists.intro); exact ⟨hrel', rfl⟩)
      case measure => simp [intOf]; omega
    · have hk8 : k = 8 := by omega
      subst hk8
      clear hM hall hc hv'
      go_wp2
      refine bodyPost_end (results_none rfl _ _ _) rfl ?_
      obtain ⟨hM, hall, hc, hv'⟩ := HR.out
      exact ⟨rfl, ⟨C', hM.heap, hM.size, hM.gi.congr hall⟩, hc⟩
end Go.Proofs.Qxb6500342a
