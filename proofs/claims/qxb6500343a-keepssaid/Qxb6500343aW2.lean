/-
  Walks 2: the axis' functions.
-/
import Derived.Test.Qxb6500343aW1
namespace Go.Proofs.Qxb6500343a
open Go.RowKit
open Go.Proofs
open Fl
open Ieee (Datum)
set_option linter.unusedSimpArgs false
set_option linter.unusedVariables false
attribute [local go_sem] run_fadd run_fsub run_fmul run_fquo run_store_float alloc_drewN setCell_drewN shape?_drewN tape_alloc drawn_alloc tape_setCell drawn_setCell drawn_drewN drawn_drew

set_option maxHeartbeats 400000 in
theorem clamp_any (v lo hi : Nat) (w : World) :
    Calls Try.prog 33 #[.float .f32 v, .float .f32 lo, .float .f32 hi] w fun e w' => ∃ r, e = .returned (.float .f32 r) ∧ V .f32 r = Pl.clamp (V .f32 v) (V .f32 lo) (V .f32 hi) ∧ Ext w w' := by
  go_enter Try.func33, Try.ntmps33
  go_wp2
  all_goals go_ret
  all_goals refine ⟨_, rfl, ?_, Ext.refl _⟩
  all_goals simp_all [order_V, Pl.clamp, lt, gt]
set_option maxHeartbeats 400000 in
theorem lerp_any (t lo hi : Nat) (w : World) :
    Calls Try.prog 32 #[.float .f32 t, .float .f32 lo, .float .f32 hi] w fun e w' => ∃ r, e = .returned (.float .f32 r) ∧ V .f32 r = Pl.lerp (V .f32 t) (V .f32 lo) (V .f32 hi) ∧ Ext w w' := by
  go_enter Try.func32, Try.ntmps32
  go_wp2
  go_ret
  exact ⟨_, rfl, by simp only [V_add, V_mul, V_sub]; rfl, (Ext.refl _).drewN _⟩
set_option maxHeartbeats 400000 in
theorem holds_any (lo hi wd p : Nat) (b : Bool) (d : Pl.AX) (hd : axV lo hi wd b d) (w : World) :
    Calls Try.prog 30 #[axC lo hi wd b, .float .f32 p] w fun e w' => e = .returned (.bool (Pl.holds d (V .f32 p))) ∧ Ext w w' := by
  obtain ⟨d1, d2, d3, d4⟩ := hd
  have H : Hid (V .f32 lo = d.lo ∧ V .f32 hi = d.hi) := ⟨d1, d2⟩
  clear d1 d2 d3 d4
  unfold axC
  go_enter Try.func30, Try.ntmps30
  go_wp2
  all_goals go_ret
  all_goals
    obtain ⟨d1, d2⟩ := H.out
    refine ⟨?_, (Ext.refl _).alloc _⟩
    simp_all [order_V, Pl.holds, ge, le]
set_option maxHeartbeats 400000 in
theorem span_any (lo hi : Nat) (w : World) (h1 : fits32 (V .f64 lo) = true) (h2 : fits32 (V .f64 hi) = true) :
    Calls Try.prog 68 #[.float .f64 lo, .float .f64 hi] w fun e w' => ∃ l h wd b, e = .returned (axC l h wd b) ∧ axV l h wd b (Pl.span (V .f64 lo) (V .f64 hi)) ∧ Ext w w' := by
  have hc1 := fun wx => run_to32 (P := Try.prog) wx 80 35 lo (by rw [Try.underlying80]; rfl) Try.underlying35 h1
  have hc2 := fun wx => run_to32 (P := Try.prog) wx 80 35 hi (by rw [Try.underlying80]; rfl) Try.underlying35 h2
  go_enter Try.func68, Try.ntmps68
  go_wp2
  all_goals
    apply bodyPost_ret
    focus (simp [results, Try.results68, go_sem]; rfl)
    focus rfl
    refine ⟨_, _, _, _, rfl, ⟨V_to32 _ _ _ h1, V_to32 _ _ _ h2, by rw [V_sub, V_to32 _ _ _ h1, V_to32 _ _ _ h2]; rfl, ?_⟩, (((Ext.refl _).alloc _).alloc _).drewN _⟩
  all_goals
    rename_i hh
    rw [order_V, V_add, V_sub, V_to32 _ _ _ h1, V_to32 _ _ _ h2] at hh
    simp only [Pl.span, eq, hh]; rfl
theorem toInt_cn (d : Datum) : (cn d).toInt .zero = d.toInt .zero := by cases d <;> rfl
theorem toI_law (k : FloatKind) (b : Nat) (h : Pl.intOk (V k b) = true) : floatToIntVal k b .i64 = some (Pl.toI (V k b)) := by
  have e : (V k b).toInt .zero = (k.decode b).toInt .zero := toInt_cn _
  unfold Pl.intOk at h
  unfold floatToIntVal Pl.toI
  rw [e] at h ⊢
  cases hh : (k.decode b).toInt .zero with
  | none => rw [hh] at h; simp at h
  | some n => rw [hh] at h; simp at h; simp [h]
set_option maxHeartbeats 1000000 in
theorem part_any (lo hi wd p : Nat) (b : Bool) (d : Pl.AX) (hd : axV lo hi wd b d) (hok : Pl.partOk d (V .f32 p) = true) (w : World) :
    Calls Try.prog 31 #[axC lo hi wd b, .float .f32 p] w fun e w' => e = .returned (.tuple #[.int .i64 (Pl.part d (V .f32 p)).1, .bool (Pl.part d (V .f32 p)).2]) ∧ Ext w w' := by
  obtain ⟨d1, d2, d3, d4⟩ := hd
  subst d4
  have H : Hid (V .f32 lo = d.lo ∧ V .f32 wd = d.w) := ⟨d1, d3⟩
  have HO : Hid (Pl.partOk d (V .f32 p) = true) := hok
  clear d1 d2 d3 hok
  unfold axC
  by_cases hw : d.wide = true
  · have hf : ∀ τ n τ' n', V .f32 (fb .quo .f32 (fb .sub .f32 p lo τ n) wd τ' n') = Pl.frac d (V .f32 p) := by
      intro τ n τ' n'; rw [V_quo, V_sub, H.out.1, H.out.2]; rfl
    have h1 : ∀ τ n τ' n', FloatKind.f32.format.order (fb .quo .f32 (fb .sub .f32 p lo τ n) wd τ' n') 0 = (Pl.frac d (V .f32 p)).order Pl.zero32 := by
      intro τ n τ' n'; rw [order_V, hf]; rfl
    have h2 : ∀ τ n τ' n', FloatKind.f32.format.order (fb .quo .f32 (fb .sub .f32 p lo τ n) wd τ' n') 1065353216 = (Pl.frac d (V .f32 p)).order Pl.one32 := by
      intro τ n τ' n'; rw [order_V, hf]; rfl
    by_cases h3 : ((Pl.frac d (V .f32 p)).order Pl.zero32 == some .gt || (Pl.frac d (V .f32 p)).order Pl.zero32 == some .eq) = true
    · by_cases h4 : ((Pl.frac d (V .f32 p)).order Pl.one32 == some .lt || (Pl.frac d (V .f32 p)).order Pl.one32 == some .eq) = true
      · have hu : Pl.inUnit (Pl.frac d (V .f32 p)) = true := by
          simp only [Pl.inUnit, ge, le, h3, h4, Bool.and_self]
        have hok : Pl.intOk (mul .f32 Pl.four32 (Pl.frac d (V .f32 p))) = true := by
          have := HO.out; simpa [Pl.partOk, hw, hu] using this
        have hcv : ∀ τ n τ' n' τ2 n2 wx, (convert 35 3 (.float .f32 (fb .mul .f32 1082130432 (fb .quo .f32 (fb .sub .f32 p lo τ n) wd τ' n') τ2 n2))).run Try.prog wx = .ok (.int .i64 (Pl.toI (mul .f32 Pl.four32 (Pl.frac d (V .f32 p))))) wx := by
          intro τ n τ' n' τ2 n2 wx
          have e : V .f32 (fb .mul .f32 1082130432 (fb .quo .f32 (fb .sub .f32 p lo τ n) wd τ' n') τ2 n2) = mul .f32 Pl.four32 (Pl.frac d (V .f32 p)) := by rw [V_mul, hf]; rfl
          rw [run_convert_float_int wx 35 3 .f32 .i64 _ _ (by rw [Try.underlying35]; rfl) Try.underlying3 (toI_law _ _ (by rw [e]; exact hok)), e]
        have HP : Hid (Pl.part d (V .f32 p) = (Pl.cell4 (Pl.frac d (V .f32 p)), true)) := by
          show _ = _; simp [Pl.part, hw, hu]
        clear hf hu hok
        go_enter Try.func31, Try.ntmps31
        go_wp2
        all_goals
          rename_i hk
          go_ret2
          refine ⟨?_, ((Ext.refl _).alloc _).drewN _⟩
          rw [HP.out]
          simp only [Pl.cell4]
        · rw [if_pos (by simpa using hk)]; rfl
        · rw [if_neg (by simpa using hk)]; rfl
      · have h4' : ((Pl.frac d (V .f32 p)).order Pl.one32 == some .lt || (Pl.frac d (V .f32 p)).order Pl.one32 == some .eq) = false := by simpa using h4
        have HP : Hid (Pl.part d (V .f32 p) = (0, false)) := by
          show _ = _; simp only [Pl.part, hw, Pl.inUnit, ge, le, h3, h4', Bool.and_false]; rfl
        clear hf h4
        go_enter Try.func31, Try.ntmps31
        go_wp2
        go_ret2
        exact ⟨by rw [HP.out]; rfl, ((Ext.refl _).alloc _).drewN _⟩
    · have h3' : ((Pl.frac d (V .f32 p)).order Pl.zero32 == some .gt || (Pl.frac d (V .f32 p)).order Pl.zero32 == some .eq) = false := by simpa using h3
      have HP : Hid (Pl.part d (V .f32 p) = (0, false)) := by
        show _ = _; simp only [Pl.part, hw, Pl.inUnit, ge, h3', Bool.false_and]; rfl
      clear hf h3
      go_enter Try.func31, Try.ntmps31
      go_wp2
      go_ret2
      exact ⟨by rw [HP.out]; rfl, ((Ext.refl _).alloc _).drewN _⟩
  · have hw' : d.wide = false := by simpa using hw
    have HW : Hid (d.wide = false) := hw'
    rw [hw']
    clear hw hw'
    go_enter Try.func31, Try.ntmps31
    go_wp2
    go_ret2
    exact ⟨by rw [show Pl.part d (V .f32 p) = (0, false) from by simp [Pl.part, HW.out]]; rfl, (Ext.refl _).alloc _⟩
end Go.Proofs.Qxb6500343a
