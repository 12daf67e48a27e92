/-
  Walks 4: the series' push, pop, questions.
-/
import Derived.Test.Qxb6500343aW3
namespace Go.Proofs.Qxb6500343a
open Go.RowKit
open Go.Proofs
open Fl
open Ieee (Datum)
set_option linter.unusedSimpArgs false
set_option linter.unusedVariables false
attribute [local go_sem] run_fadd run_fsub run_fmul run_fquo run_store_float alloc_drewN setCell_drewN shape?_drewN tape_alloc drawn_alloc tape_setCell drawn_setCell drawn_drewN drawn_drew

set_option maxHeartbeats 400000 in
theorem push_full (w : World) (p L : Nat) (ls : List Pl.LD) (a b : Int) (h : SerAt w p L ls) (hn : ls.length = 8) :
    Calls Try.prog 27 #[.pointer (some ⟨p, 0, none⟩), .int .i64 a, .int .i64 b] w fun e w' => e = .returned (.int .i64 1) ∧ Ext w w' := by
  have h1 : w.cell? ⟨p, 1, none⟩ = some (.int .i64 8) := by rw [cell_of h.hp 1, hn]; rfl
  go_enter Try.func27, Try.ntmps27
  go_wp2
  go_ret
  exact ⟨rfl, Ext.refl _⟩

theorem c_some {C : Array Value} {i : Nat} (h : i < C.size) : C[i]? = some C[i] := by simp [h]

set_option maxHeartbeats 1000000 in
theorem push_zero (w : World) (p L : Nat) (a b : Int) (h : SerAt w p L []) :
    Calls Try.prog 27 #[.pointer (some ⟨p, 0, none⟩), .int .i64 a, .int .i64 b] w fun e w' => e = .returned (.int .i64 0) ∧ SerAt w' p L [Pl.first (Pl.ratio a b)] ∧ Chg [p, L] w w' := by
  obtain ⟨hp, ⟨C, hL, hC, hl⟩, hlen, hne⟩ := h
  have hne' : L ≠ p := Ne.symm hne
  have g0 : ∀ w', Ext w w' → w'.cell? ⟨p, 0, none⟩ = some (.slice (some ⟨L, 0, none⟩) 8 8) := fun w' h => cell_of (h.heap hp) 0
  have g1 : ∀ w', Ext w w' → w'.cell? ⟨p, 1, none⟩ = some (.int .i64 0) := fun w' h => cell_of (h.heap hp) 1
  have g2 : ∀ w', Ext w w' → ∀ o, w'.frozen? ⟨p, o, none⟩ = false := fun w' h => frozen_of (h.heap hp)
  have g3 : ∀ w', Ext w w' → ∀ o, w'.frozen? ⟨L, o, none⟩ = false := fun w' h => frozen_of (h.heap hL)
  have k0 : ∀ w', Ext w w' → w'.cell? ⟨L, 0, none⟩ = some C[0] := fun w' h => (cell_of (h.heap hL) _).trans (c_some (by omega))
  have k1 : ∀ w', Ext w w' → w'.cell? ⟨L, 1, none⟩ = some C[1] := fun w' h => (cell_of (h.heap hL) _).trans (c_some (by omega))
  have k2 : ∀ w', Ext w w' → w'.cell? ⟨L, 2, none⟩ = some C[2] := fun w' h => (cell_of (h.heap hL) _).trans (c_some (by omega))
  have k3 : ∀ w', Ext w w' → w'.cell? ⟨L, 3, none⟩ = some C[3] := fun w' h => (cell_of (h.heap hL) _).trans (c_some (by omega))
  have hx0 := Ext.refl w
  go_enter Try.func27, Try.ntmps27
  go_wp2_with (go_at_call 63; refine (ratio_any _ _ _).mono ?_; rintro e w1 ⟨r, rfl, hr, hx⟩; have HR : Hid (V .f64 r = Pl.ratio a b) := hr; clear hr)
  refine Calm.region 7 1 (fun o => o.dst == some 26) (Ext w) (by kernel_rfl) (by kernel_rfl) hx.drew ?_
  simp only [List.take, List.drop]
  repeat (first
    | (refine Calm.walk_move _ (.inl rfl) rfl rfl ?_; simp only [Act.put, List.setIfInBounds_toArray, List.set, Act.eval, List.getD_toArray, List.getD_cons_zero, List.getD_cons_succ])
    | (refine Calm.walk_call (f := 64) (args := #[.float .f64 r]) (fun v => ∃ x s l h, v = lvC x s l h ∧ lvV x s l h (Pl.first (V .f64 r))) rfl rfl (fun _ _ => by simp [go_sem]) (fun w' hw' => (first_any r w').mono fun e w2 ⟨x, s, l, h, he, hv, hx⟩ => ⟨_, he, hw'.trans hx, ⟨x, s, l, h, rfl, hv⟩⟩) ?_; rintro v ⟨x, s, l, h, rfl, hv⟩; simp only [Act.put, List.setIfInBounds_toArray, List.set])
    | (apply Calm.walk_value; rfl; rfl; (intro w' hw'; simp [go_sem, hw', g0, g1]; rfl); simp only [Act.put, List.setIfInBounds_toArray, List.set]))
  show ∀ w', _
  intro w2 hx2
  have HV : Hid (lvV x s l h (Pl.first (V .f64 r))) := hv
  clear hv
  unfold lvC
  go_wp2
  go_ret
  have hv := HV.out
  rw [HR.out] at hv
  exact ⟨rfl, SerAt.push (ls := []) (w := w2) (hx2.heap hp) (hx2.heap hL) hC (by simp) (by simp) hne hv rfl w hx2⟩

set_option maxHeartbeats 1000000 in
theorem push_succ (w : World) (p L m : Nat) (ls : List Pl.LD) (d : Pl.LD) (a b : Int) (h : SerAt w p L ls) (hm : ls.length = m + 1) (hm7 : m < 7) (hd : ls[m]? = some d) :
    Calls Try.prog 27 #[.pointer (some ⟨p, 0, none⟩), .int .i64 a, .int .i64 b] w fun e w' => e = .returned (.int .i64 0) ∧ SerAt w' p L (ls ++ [Pl.step d (Pl.ratio a b)]) ∧ Chg [p, L] w w' := by
  obtain ⟨hp, ⟨C, hL, hC, hl⟩, hlen, hne⟩ := h
  obtain ⟨x0, s0, l0, h0, c0, c1, c2, c3, hv0⟩ := hl m d hd
  have HV0 : Hid (lvV x0 s0 l0 h0 d) := hv0
  have HM : Hid (ls.length = m + 1) := hm
  have HP : Hid (w.heap[p]? = some (.cells #[.slice (some ⟨L, 0, none⟩) 8 8, .int .i64 ls.length] 97)) := hp
  have hne' : L ≠ p := Ne.symm hne
  rw [hm] at hp
  have g0 : ∀ w', Ext w w' → w'.cell? ⟨p, 0, none⟩ = some (.slice (some ⟨L, 0, none⟩) 8 8) := fun w' h => cell_of (h.heap hp) 0
  have g1 : ∀ w', Ext w w' → w'.cell? ⟨p, 1, none⟩ = some (.int .i64 ((m : Int) + 1)) := fun w' h => cell_of (h.heap hp) 1
  have g2 : ∀ w', Ext w w' → ∀ o, w'.frozen? ⟨p, o, none⟩ = false := fun w' h => frozen_of (h.heap hp)
  have g3 : ∀ w', Ext w w' → ∀ o, w'.frozen? ⟨L, o, none⟩ = false := fun w' h => frozen_of (h.heap hL)
  have k0 : ∀ w', Ext w w' → w'.cell? ⟨L, m * 4, none⟩ = some (.float .f64 x0) := fun w' h => (cell_of (h.heap hL) _).trans c0
  have k1 : ∀ w', Ext w w' → w'.cell? ⟨L, m * 4 + 1, none⟩ = some (.float .f64 s0) := fun w' h => (cell_of (h.heap hL) _).trans c1
  have k2 : ∀ w', Ext w w' → w'.cell? ⟨L, m * 4 + 2, none⟩ = some (.float .f64 l0) := fun w' h => (cell_of (h.heap hL) _).trans c2
  have k3 : ∀ w', Ext w w' → w'.cell? ⟨L, m * 4 + 3, none⟩ = some (.float .f64 h0) := fun w' h => (cell_of (h.heap hL) _).trans c3
  have n0 : ∀ w', Ext w w' → w'.cell? ⟨L, (m + 1) * 4, none⟩ = some (C[(m + 1) * 4]'(by omega)) := fun w' h => (cell_of (h.heap hL) _).trans (c_some (by omega))
  have n1 : ∀ w', Ext w w' → w'.cell? ⟨L, (m + 1) * 4 + 1, none⟩ = some (C[(m + 1) * 4 + 1]'(by omega)) := fun w' h => (cell_of (h.heap hL) _).trans (c_some (by omega))
  have n2 : ∀ w', Ext w w' → w'.cell? ⟨L, (m + 1) * 4 + 2, none⟩ = some (C[(m + 1) * 4 + 2]'(by omega)) := fun w' h => (cell_of (h.heap hL) _).trans (c_some (by omega))
  have n3 : ∀ w', Ext w w' → w'.cell? ⟨L, (m + 1) * 4 + 3, none⟩ = some (C[(m + 1) * 4 + 3]'(by omega)) := fun w' h => (cell_of (h.heap hL) _).trans (c_some (by omega))
  have hx0 := Ext.refl w
  have i1 : IntKind.i64.wrap (m : Int) = m := by rw [IntKind.wrap_i64]; omega
  have i2 : (m : Int) < 8 := by omega
  have i3 : (m : Int) + 1 < 8 := by omega
  have i4 : ((m : Int) + 1).toNat = m + 1 := by omega
  have i5 : (0 : Int) ≤ (m : Int) + 1 := by omega
  have hz : ((m : Int) + 1 == 0) = false := by simp; omega
  clear hv0 hm c0 c1 c2 c3 hd
  go_enter Try.func27, Try.ntmps27
  go_wp2_with (go_at_call 63; refine (ratio_any _ _ _).mono ?_; rintro e w1 ⟨r, rfl, hr, hx⟩; have HR : Hid (V .f64 r = Pl.ratio a b) := hr; clear hr)
  refine Calm.region 22 1 (fun o => o.dst == some 48) (Ext w) (by kernel_rfl) (by kernel_rfl) hx.drew ?_
  simp only [List.take, List.drop]
  repeat (first
    | (refine Calm.walk_move _ (.inl rfl) rfl rfl ?_; simp only [Act.put, List.setIfInBounds_toArray, List.set, Act.eval, List.getD_toArray, List.getD_cons_zero, List.getD_cons_succ])
    | (refine Calm.walk_call (f := 65) (args := #[lvC x0 s0 l0 h0, .float .f64 r]) (fun v => ∃ x s l h, v = lvC x s l h ∧ lvV x s l h (Pl.step d (V .f64 r))) rfl rfl (fun _ _ => by simp [go_sem, lvC]) (fun w' hw' => (step_any r x0 s0 l0 h0 d HV0.out w').mono fun e w2 ⟨x, s, l, h, he, hv, hx⟩ => ⟨_, he, hw'.trans hx, ⟨x, s, l, h, rfl, hv⟩⟩) ?_; rintro v ⟨x, s, l, h, rfl, hv⟩; simp only [Act.put, List.setIfInBounds_toArray, List.set])
    | (apply Calm.walk_value; rfl; rfl; (intro w' hw'; simp [go_sem, hw', g0, g1, k0, k1, k2, k3, i1, i2, i3, i4, i5]; rfl); simp only [Act.put, List.setIfInBounds_toArray, List.set]))
  show ∀ w', _
  intro w2 hx2
  have HV : Hid (lvV x s l h (Pl.step d (V .f64 r))) := hv
  clear hv
  unfold lvC
  go_wp2
  go_ret
  have hv := HV.out
  rw [HR.out] at hv
  refine ⟨rfl, SerAt.push (w := w2) (hx2.heap HP.out) (hx2.heap hL) hC hl (by rw [HM.out]; omega) hne hv ?_ w hx2⟩
  rw [HM.out]
  rfl
end Go.Proofs.Qxb6500343a
