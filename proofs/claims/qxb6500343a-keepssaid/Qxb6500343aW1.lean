/-
  Walks 1: the small float functions.
-/
import Derived.Test.Qxb6500343aProg
import Derived.Test.Qxb6500343aPl
import Derived.Test.Qxb6500343aHp
namespace Go.Proofs.Qxb6500343a
open Go.RowKit
open Go.Proofs
open Fl
open Ieee (Datum)
set_option linter.unusedSimpArgs false
set_option linter.unusedVariables false
attribute [local go_sem] run_fadd run_fsub run_fmul run_fquo run_store_float alloc_drewN setCell_drewN shape?_drewN tape_alloc drawn_alloc tape_setCell drawn_setCell drawn_drewN drawn_drew

/-- The four cells of a level hold it. -/
def lvV (x s l h : Nat) (d : Pl.LD) : Prop := V .f64 x = d.x ∧ V .f64 s = d.s ∧ V .f64 l = d.l ∧ V .f64 h = d.h
def lvC (x s l h : Nat) : Value := .agg #[.float .f64 x, .float .f64 s, .float .f64 l, .float .f64 h]
def axV (lo hi w : Nat) (b : Bool) (d : Pl.AX) : Prop := V .f32 lo = d.lo ∧ V .f32 hi = d.hi ∧ V .f32 w = d.w ∧ b = d.wide
def axC (lo hi w : Nat) (b : Bool) : Value := .agg #[.float .f32 lo, .float .f32 hi, .float .f32 w, .bool b]

set_option maxHeartbeats 400000 in
theorem ratio_any (a b : Int) (w : World) :
    Calls Try.prog 63 #[.int .i64 a, .int .i64 b] w fun e w' => ∃ r, e = .returned (.float .f64 r) ∧ V .f64 r = Pl.ratio a b ∧ Ext w w' := by
  go_enter Try.func63, Try.ntmps63
  go_wp2
  go_ret
  exact ⟨_, rfl, V_quo _ _ _ _ _, (Ext.refl _).drewN _⟩
set_option maxHeartbeats 400000 in
theorem bratio_any (a b : Int) (w : World) :
    Calls Try.prog 69 #[.int .i64 a, .int .i64 b] w fun e w' => ∃ r, e = .returned (.float .f64 r) ∧ V .f64 r = Pl.ratio a b ∧ Ext w w' := by
  go_enter Try.func69, Try.ntmps69
  go_wp2
  go_ret
  exact ⟨_, rfl, V_quo _ _ _ _ _, (Ext.refl _).drewN _⟩
set_option maxHeartbeats 400000 in
theorem first_any (x : Nat) (w : World) :
    Calls Try.prog 64 #[.float .f64 x] w fun e w' => ∃ x' s l h, e = .returned (lvC x' s l h) ∧ lvV x' s l h (Pl.first (V .f64 x)) ∧ Ext w w' := by
  go_enter Try.func64, Try.ntmps64
  go_wp2
  apply bodyPost_ret
  focus (simp [results, Try.results64, go_sem]; rfl)
  focus rfl
  exact ⟨_, _, _, _, rfl, ⟨rfl, V_add _ _ _ _ _, rfl, rfl⟩, ((Ext.refl _).alloc _).drewN _⟩
set_option maxHeartbeats 400000 in
theorem step_any (x x0 s0 l0 h0 : Nat) (d : Pl.LD) (hd : lvV x0 s0 l0 h0 d) (w : World) :
    Calls Try.prog 65 #[lvC x0 s0 l0 h0, .float .f64 x] w fun e w' => ∃ x' s l h, e = .returned (lvC x' s l h) ∧ lvV x' s l h (Pl.step d (V .f64 x)) ∧ Ext w w' := by
  obtain ⟨d1, d2, d3, d4⟩ := hd
  have H : Hid (V .f64 x0 = d.x ∧ V .f64 s0 = d.s ∧ V .f64 l0 = d.l ∧ V .f64 h0 = d.h) := ⟨d1, d2, d3, d4⟩
  clear d1 d2 d3 d4
  unfold lvC
  go_enter Try.func65, Try.ntmps65
  go_wp2
  all_goals
    apply bodyPost_ret
    focus (simp [results, Try.results65, go_sem]; rfl)
    focus rfl
    obtain ⟨d1, d2, d3, d4⟩ := H.out
    refine ⟨_, _, _, _, rfl, ⟨rfl, by rw [V_add, d2]; rfl, ?_, ?_⟩, ((((Ext.refl _).alloc _).alloc _).alloc _).drewN _⟩
  all_goals simp_all [order_V, Pl.step, Pl.stepLo, Pl.stepHi, lt, gt]
set_option maxHeartbeats 400000 in
theorem coord_any (a b : Int) (w : World) (hf : fits32 (Pl.ratio a b) = true) :
    Calls Try.prog 29 #[.int .i64 a, .int .i64 b] w fun e w' => ∃ r, e = .returned (.float .f32 r) ∧ V .f32 r = Pl.coord a b ∧ Ext w w' := by
  go_enter Try.func29, Try.ntmps29
  go_wp2_with (go_at_call 69; refine (bratio_any _ _ _).mono ?_; rintro e w1 ⟨r, rfl, hr, hx⟩; have hc := fun wx => run_to32 (P := Try.prog) wx 80 35 r (by rw [Try.underlying80]; rfl) Try.underlying35 (by rw [hr]; exact hf))
  go_ret
  exact ⟨_, rfl, by rw [V_to32 _ _ _ (by rw [hr]; exact hf), hr]; rfl, hx.drewN _⟩
end Go.Proofs.Qxb6500343a
