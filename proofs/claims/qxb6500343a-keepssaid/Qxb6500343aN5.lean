/-
  The model's box: Inside, Clamp, Along, Cell.
-/
import Derived.Test.Qxb6500343aN4
namespace Go.Proofs.Qxb6500343a
open Go.RowKit
open Go.Proofs
open Ieee (Datum)
open Fl
open Tx (st)
open Ff (in64)
set_option linter.unusedSimpArgs false
set_option linter.unusedVariables false
attribute [local go_sem] run_fadd run_fsub run_fmul run_fquo run_store_float alloc_drewN setCell_drewN shape?_drewN tape_alloc drawn_alloc tape_setCell drawn_setCell drawn_drewN drawn_drew run_fneg

set_option maxHeartbeats 400000 in
theorem coordm_any (a b : Int) (w : World) (hf : fits32 (Pl.ratio a b) = true) :
    Calls Try.prog 91 #[.int .i64 a, .int .i64 b] w fun e w' => ∃ r, e = .returned (.float .f32 r) ∧ V .f32 r = Pl.coord a b ∧ Ext w w' := by
  have hv : ∀ τ n, V .f64 (fb .quo .f64 (floatOfInt .f64 a) (floatOfInt .f64 b) τ n) = Pl.ratio a b := fun τ n => V_quo _ _ _ _ _
  have hc := fun wx τ n => run_to32 (P := Try.prog) wx 80 35 (fb .quo .f64 (floatOfInt .f64 a) (floatOfInt .f64 b) τ n) (by rw [Try.underlying80]; rfl) Try.underlying35 (by rw [hv]; exact hf)
  go_enter Try.func91, Try.ntmps91
  go_wp2
  go_ret
  exact ⟨_, rfl, by rw [V_to32 _ _ _ (by rw [hv]; exact hf), hv]; rfl, ((Ext.refl _).drewN _)⟩
set_option maxHeartbeats 400000 in
theorem clampm_any (v lo hi : Nat) (w : World) :
    Calls Try.prog 92 #[.float .f32 v, .float .f32 lo, .float .f32 hi] w fun e w' => ∃ r, e = .returned (.float .f32 r) ∧ V .f32 r = Pl.clamp (V .f32 v) (V .f32 lo) (V .f32 hi) ∧ Ext w w' := by
  go_enter Try.func92, Try.ntmps92
  go_wp2
  all_goals go_ret
  all_goals refine ⟨_, rfl, ?_, Ext.refl _⟩
  all_goals simp_all [order_V, Pl.clamp, lt, gt]
set_option maxHeartbeats 2000000 in
theorem partm_any (p lo hi : Nat) (d : Pl.AX) (h1 : V .f32 lo = d.lo) (h2 : V .f32 hi = d.hi) (hs : Pl.SoundA d) (w : World) :
    Calls Try.prog 93 #[.float .f32 p, .float .f32 lo, .float .f32 hi] w fun e w' => e = .returned (.tuple #[.int .i64 (Pl.part d (V .f32 p)).1, .bool (Pl.part d (V .f32 p)).2]) ∧ Ext w w' := by
  obtain ⟨s1, s2, _, _⟩ := hs
  have hW : ∀ τ n, V .f32 (fb .sub .f32 hi lo τ n) = d.w := fun τ n => by rw [V_sub, h1, h2]; exact s1.symm
  have hwd : ∀ τ n τ' n', (FloatKind.f32.format.order (fb .add .f32 (fb .sub .f32 hi lo τ n) (fb .sub .f32 hi lo τ n) τ' n') (fb .sub .f32 hi lo τ n) == some .eq) = !d.wide := fun τ n τ' n' => by rw [order_V, V_add, hW, s2, Bool.not_not]; rfl
  have hf : ∀ τ n τ' n' τ2 n2, V .f32 (fb .quo .f32 (fb .sub .f32 p lo τ n) (fb .sub .f32 hi lo τ2 n2) τ' n') = Pl.frac d (V .f32 p) := by
    intro τ n τ' n' τ2 n2; rw [V_quo, V_sub, hW, h1]; rfl
  have q1 : ∀ τ n τ' n' τ2 n2, FloatKind.f32.format.order (fb .quo .f32 (fb .sub .f32 p lo τ n) (fb .sub .f32 hi lo τ2 n2) τ' n') 0 = (Pl.frac d (V .f32 p)).order Pl.zero32 := by
    intro τ n τ' n' τ2 n2; rw [order_V, hf]; rfl
  have q2 : ∀ τ n τ' n' τ2 n2, FloatKind.f32.format.order (fb .quo .f32 (fb .sub .f32 p lo τ n) (fb .sub .f32 hi lo τ2 n2) τ' n') 1065353216 = (Pl.frac d (V .f32 p)).order Pl.one32 := by
    intro τ n τ' n' τ2 n2; rw [order_V, hf]; rfl
  cases hw : d.wide
  · have HP : Hid (Pl.part d (V .f32 p) = (0, false)) := by show _ = _; simp [Pl.part, hw]
    rw [hw] at hwd
    clear hf q1 q2 hw s2 hW
    go_enter Try.func93, Try.ntmps93
    go_wp2
    go_ret2
    exact ⟨by rw [HP.out]; rfl, (Ext.refl _).drewN _⟩
  · rw [hw] at hwd
    by_cases h3 : ((Pl.frac d (V .f32 p)).order Pl.zero32 == some .gt || (Pl.frac d (V .f32 p)).order Pl.zero32 == some .eq) = true
    · by_cases h4 : ((Pl.frac d (V .f32 p)).order Pl.one32 == some .lt || (Pl.frac d (V .f32 p)).order Pl.one32 == some .eq) = true
      · have hu : Pl.inUnit (Pl.frac d (V .f32 p)) = true := by
          simp only [Pl.inUnit, ge, le, h3, h4, Bool.and_self]
        have hok : Pl.intOk (mul .f32 Pl.four32 (Pl.frac d (V .f32 p))) = true := Ff.unit_ok hu
        have hcv : ∀ τ n τ' n' τ2 n2 τ3 n3 wx, (convert 35 3 (.float .f32 (fb .mul .f32 1082130432 (fb .quo .f32 (fb .sub .f32 p lo τ n) (fb .sub .f32 hi lo τ3 n3) τ' n') τ2 n2))).run Try.prog wx = .ok (.int .i64 (Pl.toI (mul .f32 Pl.four32 (Pl.frac d (V .f32 p))))) wx := by
          intro τ n τ' n' τ2 n2 τ3 n3 wx
          have e : V .f32 (fb .mul .f32 1082130432 (fb .quo .f32 (fb .sub .f32 p lo τ n) (fb .sub .f32 hi lo τ3 n3) τ' n') τ2 n2) = mul .f32 Pl.four32 (Pl.frac d (V .f32 p)) := by rw [V_mul, hf]; rfl
          rw [run_convert_float_int wx 35 3 .f32 .i64 _ _ (by rw [Try.underlying35]; rfl) Try.underlying3 (toI_law _ _ (by rw [e]; exact hok)), e]
        have HP : Hid (Pl.part d (V .f32 p) = (Pl.cell4 (Pl.frac d (V .f32 p)), true)) := by
          show _ = _; simp [Pl.part, hw, hu]
        clear hf hu hok hw s2 hW
        go_enter Try.func93, Try.ntmps93
        go_wp2
        all_goals
          rename_i hk
          go_ret2
          refine ⟨?_, (Ext.refl _).drewN _⟩
          rw [HP.out]
          simp only [Pl.cell4]
        · rw [if_pos (by simpa using hk)]; rfl
        · rw [if_neg (by simpa using hk)]; rfl
      · have h4' : ((Pl.frac d (V .f32 p)).order Pl.one32 == some .lt || (Pl.frac d (V .f32 p)).order Pl.one32 == some .eq) = false := by simpa using h4
        have HP : Hid (Pl.part d (V .f32 p) = (0, false)) := by
          show _ = _; simp only [Pl.part, hw, Pl.inUnit, ge, le, h3, h4', Bool.and_false]; rfl
        clear hf h4 hw s2 hW
        go_enter Try.func93, Try.ntmps93
        go_wp2
        all_goals (go_ret2; exact ⟨by rw [HP.out]; rfl, (Ext.refl _).drewN _⟩)
    · have h3' : ((Pl.frac d (V .f32 p)).order Pl.zero32 == some .gt || (Pl.frac d (V .f32 p)).order Pl.zero32 == some .eq) = false := by simpa using h3
      have HP : Hid (Pl.part d (V .f32 p) = (0, false)) := by
        show _ = _; simp only [Pl.part, hw, Pl.inUnit, ge, le, h3', Bool.false_and]; rfl
      clear hf h3 hw s2 hW
      go_enter Try.func93, Try.ntmps93
      go_wp2
      all_goals (go_ret2; exact ⟨by rw [HP.out]; rfl, (Ext.refl _).drewN _⟩)
end Go.Proofs.Qxb6500343a
