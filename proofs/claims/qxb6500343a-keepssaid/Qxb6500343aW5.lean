/-
  Walks 5: push in one; pop; least and greatest.
-/
import Derived.Test.Qxb6500343aW4
namespace Go.Proofs.Qxb6500343a
open Go.RowKit
open Go.Proofs
open Fl
open Ieee (Datum)
set_option linter.unusedSimpArgs false
set_option linter.unusedVariables false
attribute [local go_sem] run_fadd run_fsub run_fmul run_fquo run_store_float alloc_drewN setCell_drewN shape?_drewN tape_alloc drawn_alloc tape_setCell drawn_setCell drawn_drewN drawn_drew

theorem push_ok (w : World) (p L : Nat) (ls : List Pl.LD) (a b : Int) (h : SerAt w p L ls) (hn : ls.length < 8) :
    Calls Try.prog 27 #[.pointer (some ⟨p, 0, none⟩), .int .i64 a, .int .i64 b] w fun e w' => e = .returned (.int .i64 0) ∧ SerAt w' p L (ls ++ [Pl.next ls (Pl.ratio a b)]) ∧ Chg [p, L] w w' := by
  cases hm : ls.length with
  | zero =>
    have e : ls = [] := List.length_eq_zero_iff.1 hm
    subst e
    exact push_zero w p L a b h
  | succ m =>
    obtain ⟨d, hd⟩ : ∃ d, ls[m]? = some d := ⟨ls[m]'(by omega), by simp⟩
    have e : Pl.next ls (Pl.ratio a b) = Pl.step d (Pl.ratio a b) := by
      unfold Pl.next
      rw [List.getLast?_eq_getElem?, hm, Nat.add_sub_cancel, hd]
    rw [e]
    exact push_succ w p L m ls d a b h hm (by omega) hd

set_option maxHeartbeats 400000 in
theorem pop_none (w : World) (p L : Nat) (h : SerAt w p L []) :
    Calls Try.prog 70 #[.pointer (some ⟨p, 0, none⟩)] w fun e w' => e = .returned (.int .i64 2) ∧ Ext w w' := by
  have h1 : w.cell? ⟨p, 1, none⟩ = some (.int .i64 0) := cell_of h.hp 1
  go_enter Try.func70, Try.ntmps70
  go_wp2
  go_ret
  exact ⟨rfl, Ext.refl _⟩
set_option maxHeartbeats 400000 in
theorem pop_some (w : World) (p L : Nat) (ls : List Pl.LD) (h : SerAt w p L ls) (hn : 0 < ls.length) :
    Calls Try.prog 70 #[.pointer (some ⟨p, 0, none⟩)] w fun e w' => e = .returned (.int .i64 0) ∧ SerAt w' p L ls.dropLast ∧ Chg [p, L] w w' := by
  have h1 : w.cell? ⟨p, 1, none⟩ = some (.int .i64 ls.length) := cell_of h.hp 1
  have h2 : w.frozen? ⟨p, 1, none⟩ = false := frozen_of h.hp 1
  have hz : ((ls.length : Int) == 0) = false := beq_eq_false_iff_ne.2 (by omega)
  have hl := h.len
  have HH : Hid (SerAt w p L ls) := h
  clear h
  go_enter Try.func70, Try.ntmps70
  go_wp2
  go_ret
  obtain ⟨hp, ⟨C, hL, hC, hl⟩, hlen, hne⟩ := HH.out
  refine ⟨rfl, ⟨?_, ⟨C, ?_, hC, ?_⟩, by simp; omega, hne⟩, ?_⟩
  · rw [heap_set hp]
    simp only [List.length_dropLast]
    rw [show ((ls.length - 1 : Nat) : Int) = (ls.length : Int) - 1 from by omega]
    rfl
  · rw [heap_set_ne (Ne.symm hne)]; exact hL
  · intro i d hi
    refine hl i d ?_
    rw [List.getElem?_dropLast] at hi
    split at hi
    · exact hi
    · cases hi
  · exact (Chg.refl _ _).setCell (by simp) _

set_option maxHeartbeats 400000 in
theorem min_none (w : World) (p L : Nat) (h : SerAt w p L []) :
    Calls Try.prog 66 #[.pointer (some ⟨p, 0, none⟩)] w fun e w' => e = .returned (.tuple #[.float .f64 0, .int .i64 2]) ∧ Ext w w' := by
  have h1 : w.cell? ⟨p, 1, none⟩ = some (.int .i64 0) := cell_of h.hp 1
  go_enter Try.func66, Try.ntmps66
  go_wp2
  go_ret2
  exact ⟨rfl, Ext.refl _⟩
set_option maxHeartbeats 1000000 in
theorem min_some (w : World) (p L m : Nat) (ls : List Pl.LD) (d : Pl.LD) (h : SerAt w p L ls) (hm : ls.length = m + 1) (hd : ls[m]? = some d) :
    Calls Try.prog 66 #[.pointer (some ⟨p, 0, none⟩)] w fun e w' => ∃ r, e = .returned (.tuple #[.float .f64 r, .int .i64 0]) ∧ V .f64 r = d.l ∧ Ext w w' := by
  obtain ⟨hp, ⟨C, hL, hC, hl⟩, hlen, hne⟩ := h
  obtain ⟨x0, s0, l0, h0, c0, c1, c2, c3, hv0⟩ := hl m d hd
  have HV0 : Hid (lvV x0 s0 l0 h0 d) := hv0
  rw [hm] at hp
  have g0 : ∀ w', Ext w w' → w'.cell? ⟨p, 0, none⟩ = some (.slice (some ⟨L, 0, none⟩) 8 8) := fun w' h => cell_of (h.heap hp) 0
  have g1 : ∀ w', Ext w w' → w'.cell? ⟨p, 1, none⟩ = some (.int .i64 ((m : Int) + 1)) := fun w' h => cell_of (h.heap hp) 1
  have k2 : ∀ w', Ext w w' → w'.cell? ⟨L, m * 4 + 2, none⟩ = some (.float .f64 l0) := fun w' h => (cell_of (h.heap hL) _).trans c2
  have hx0 := Ext.refl w
  have i1 : IntKind.i64.wrap (m : Int) = m := by rw [IntKind.wrap_i64]; omega
  have i2 : (m : Int) < 8 := by omega
  have hz : ((m : Int) + 1 == 0) = false := by simp; omega
  clear hv0 hm c0 c1 c2 c3 hd
  go_enter Try.func66, Try.ntmps66
  go_wp2
  refine Calm.region 14 0 (fun _ => false) (Ext w) (by kernel_rfl) (by kernel_rfl) hx0.drew ?_
  simp only [List.take, List.drop]
  repeat (first
    | (refine Calm.walk_move _ (by first | exact .inl rfl | exact .inr rfl) rfl rfl ?_; simp only [Act.put, List.setIfInBounds_toArray, List.set, Act.eval, List.getD_toArray, List.getD_cons_zero, List.getD_cons_succ])
    | (apply Calm.walk_value; rfl; rfl; (intro w' hw'; simp [go_sem, hw', g0, g1, k2, i1, i2]; rfl); simp only [Act.put, List.setIfInBounds_toArray, List.set]))
  show ∀ w', _
  intro w2 hx2
  go_wp2
  go_ret2
  exact ⟨_, rfl, HV0.out.2.2.1, hx2⟩
set_option maxHeartbeats 400000 in
theorem max_none (w : World) (p L : Nat) (h : SerAt w p L []) :
    Calls Try.prog 67 #[.pointer (some ⟨p, 0, none⟩)] w fun e w' => e = .returned (.tuple #[.float .f64 0, .int .i64 2]) ∧ Ext w w' := by
  have h1 : w.cell? ⟨p, 1, none⟩ = some (.int .i64 0) := cell_of h.hp 1
  go_enter Try.func67, Try.ntmps67
  go_wp2
  go_ret2
  exact ⟨rfl, Ext.refl _⟩
set_option maxHeartbeats 1000000 in
theorem max_some (w : World) (p L m : Nat) (ls : List Pl.LD) (d : Pl.LD) (h : SerAt w p L ls) (hm : ls.length = m + 1) (hd : ls[m]? = some d) :
    Calls Try.prog 67 #[.pointer (some ⟨p, 0, none⟩)] w fun e w' => ∃ r, e = .returned (.tuple #[.float .f64 r, .int .i64 0]) ∧ V .f64 r = d.h ∧ Ext w w' := by
  obtain ⟨hp, ⟨C, hL, hC, hl⟩, hlen, hne⟩ := h
  obtain ⟨x0, s0, l0, h0, c0, c1, c2, c3, hv0⟩ := hl m d hd
  have HV0 : Hid (lvV x0 s0 l0 h0 d) := hv0
  rw [hm] at hp
  have g0 : ∀ w', Ext w w' → w'.cell? ⟨p, 0, none⟩ = some (.slice (some ⟨L, 0, none⟩) 8 8) := fun w' h => cell_of (h.heap hp) 0
  have g1 : ∀ w', Ext w w' → w'.cell? ⟨p, 1, none⟩ = some (.int .i64 ((m : Int) + 1)) := fun w' h => cell_of (h.heap hp) 1
  have k3 : ∀ w', Ext w w' → w'.cell? ⟨L, m * 4 + 3, none⟩ = some (.float .f64 h0) := fun w' h => (cell_of (h.heap hL) _).trans c3
  have hx0 := Ext.refl w
  have i1 : IntKind.i64.wrap (m : Int) = m := by rw [IntKind.wrap_i64]; omega
  have i2 : (m : Int) < 8 := by omega
  have hz : ((m : Int) + 1 == 0) = false := by simp; omega
  clear hv0 hm c0 c1 c2 c3 hd
  go_enter Try.func67, Try.ntmps67
  go_wp2
  refine Calm.region 14 0 (fun _ => false) (Ext w) (by kernel_rfl) (by kernel_rfl) hx0.drew ?_
  simp only [List.take, List.drop]
  repeat (first
    | (refine Calm.walk_move _ (by first | exact .inl rfl | exact .inr rfl) rfl rfl ?_; simp only [Act.put, List.setIfInBounds_toArray, List.set, Act.eval, List.getD_toArray, List.getD_cons_zero, List.getD_cons_succ])
    | (apply Calm.walk_value; rfl; rfl; (intro w' hw'; simp [go_sem, hw', g0, g1, k3, i1, i2]; rfl); simp only [Act.put, List.setIfInBounds_toArray, List.set]))
  show ∀ w', _
  intro w2 hx2
  go_wp2
  go_ret2
  exact ⟨_, rfl, HV0.out.2.2.2, hx2⟩
end Go.Proofs.Qxb6500343a
