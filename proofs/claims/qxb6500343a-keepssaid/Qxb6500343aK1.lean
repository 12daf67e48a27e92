/-
  Walks of Keeps 1: the law's small functions.
-/
import Derived.Test.Qxb6500343aR1
import Derived.Test.Qxb6500343aFo
namespace Go.Proofs.Qxb6500343a
open Go.RowKit
open Go.Proofs
open Ieee (Datum)
open Fl
open Tx (st)
open Ff (in64)
set_option linter.unusedSimpArgs false
set_option linter.unusedVariables false
attribute [local go_sem] run_fadd run_fsub run_fmul run_fquo run_store_float alloc_drewN setCell_drewN shape?_drewN tape_alloc drawn_alloc tape_setCell drawn_setCell drawn_drewN drawn_drew run_fneg

theorem nn (k : FloatKind) (a : Nat) : (k.format.order a a != some .eq) = (V k a).isNaN := by rw [bne, oo, Bool.not_not]
theorem o_le (k : FloatKind) (a b : Nat) : (k.format.order a b == some .lt || k.format.order a b == some .eq) = le (V k a) (V k b) := by rw [order_V]; rfl
theorem o_ge (k : FloatKind) (a b : Nat) : (k.format.order a b == some .gt || k.format.order a b == some .eq) = ge (V k a) (V k b) := by rw [order_V]; rfl
theorem o_eq (k : FloatKind) (a b : Nat) : (k.format.order a b == some .eq) = eq (V k a) (V k b) := by rw [order_V]; rfl
theorem o_ne (k : FloatKind) (a b : Nat) : (k.format.order a b != some .eq) = !eq (V k a) (V k b) := by rw [bne, o_eq]
theorem o_lt (k : FloatKind) (a b : Nat) : (k.format.order a b == some .lt) = lt (V k a) (V k b) := by rw [order_V]; rfl
theorem o_gt (k : FloatKind) (a b : Nat) : (k.format.order a b == some .gt) = gt (V k a) (V k b) := by rw [order_V]; rfl
def withinD (v lo hi : Datum) : Bool := v.isNaN || lo.isNaN || hi.isNaN || (le lo v && le v hi)
def touchD (v lo hi : Datum) : Int := (if eq v lo then 1 else 0) + (if eq v hi then 4 else 0)
def finD (a b : Datum) : Bool := eq (sub .f32 a a) Pl.zero32 && eq (sub .f32 b b) Pl.zero32
def divable (w : Datum) : Bool := gt w Pl.zero32 && !eq (add .f32 w w) w
def owedD (i : Bool) (wx wy : Datum) (f : Int) : Bool := if i then (if divable wx && divable wy then f == 0 else f == 6) else f == 5
def fracD (p lo hi : Datum) : Datum := div .f32 (sub .f32 p lo) (sub .f32 hi lo)
def partD (p lo hi : Datum) : Int := if Pl.inUnit (fracD p lo hi) then Pl.cell4 (fracD p lo hi) else -1
set_option maxHeartbeats 1000000 in
theorem within_any (v lo hi : Nat) (w : World) : Calls Try.prog 52 #[.float .f32 v, .float .f32 lo, .float .f32 hi] w fun e w' => e = .returned (.bool (withinD (V .f32 v) (V .f32 lo) (V .f32 hi))) ∧ w' = w := by
  have h1 := nn .f32 v
  have h2 := nn .f32 lo
  have h3 := nn .f32 hi
  have h4 := o_le .f32 lo v
  have h5 := o_le .f32 v hi
  unfold withinD
  generalize (V .f32 v).isNaN = a at *
  generalize (V .f32 lo).isNaN = b at *
  generalize (V .f32 hi).isNaN = c at *
  generalize le (V .f32 lo) (V .f32 v) = d at *
  generalize le (V .f32 v) (V .f32 hi) = f at *
  cases a <;> cases b <;> cases c <;> cases d
  all_goals
    go_enter Try.func52, Try.ntmps52
    go_wp2
    go_ret
    exact ⟨rfl, rfl⟩
set_option maxHeartbeats 1000000 in
theorem touch_any (v lo hi : Nat) (w : World) : Calls Try.prog 53 #[.float .f32 v, .float .f32 lo, .float .f32 hi] w fun e w' => e = .returned (.int .i64 (touchD (V .f32 v) (V .f32 lo) (V .f32 hi))) ∧ w' = w := by
  have h4 := o_eq .f32 v lo
  have h5 := o_eq .f32 v hi
  unfold touchD
  generalize eq (V .f32 v) (V .f32 lo) = d at *
  generalize eq (V .f32 v) (V .f32 hi) = f at *
  cases d <;> cases f
  all_goals
    go_enter Try.func53, Try.ntmps53
    go_wp2
    go_ret
    exact ⟨rfl, rfl⟩
set_option maxHeartbeats 1000000 in
theorem kcoord_any (a b : Int) (w : World) (ha : in64 a) (hb : in64 b) : Calls Try.prog 56 #[.int .i64 a, .int .i64 b] w fun e w' => ∃ r, e = .returned (.float .f32 r) ∧ V .f32 r = Pl.coord a b ∧ Ext w w' := by
  have hV : ∀ τ n, V .f64 (fb .quo .f64 (floatOfInt .f64 a) (floatOfInt .f64 b) τ n) = Pl.ratio a b := fun τ n => V_quo _ _ _ _ _
  have hf : ∀ τ n, fits32 (V .f64 (fb .quo .f64 (floatOfInt .f64 a) (floatOfInt .f64 b) τ n)) = true := fun τ n => by rw [hV]; exact Ff.ratio_fit a b ha hb
  have hc := fun τ n wx => run_to32 (P := Try.prog) wx 80 35 (fb .quo .f64 (floatOfInt .f64 a) (floatOfInt .f64 b) τ n) (by rw [Try.underlying80]; rfl) Try.underlying35 (hf τ n)
  have HF : Hid _ := hf
  have HV : Hid _ := hV
  clear hf hV
  go_enter Try.func56, Try.ntmps56
  go_wp2
  go_ret
  exact ⟨_, rfl, by rw [V_to32 _ _ _ (HF.out _ _), HV.out]; rfl, (Ext.refl _).drewN _⟩
set_option maxHeartbeats 1000000 in
theorem finite_any (a b : Nat) (w : World) : Calls Try.prog 57 #[.float .f32 a, .float .f32 b] w fun e w' => e = .returned (.bool (finD (V .f32 a) (V .f32 b))) ∧ Ext w w' := by
  have h1 : ∀ τ n, (FloatKind.f32.format.order (fb .sub .f32 a a τ n) 0 == some .eq) = eq (sub .f32 (V .f32 a) (V .f32 a)) Pl.zero32 := by intro τ n; rw [o_eq, V_sub]; rfl
  have h2 : ∀ τ n, (FloatKind.f32.format.order (fb .sub .f32 b b τ n) 0 == some .eq) = eq (sub .f32 (V .f32 b) (V .f32 b)) Pl.zero32 := by intro τ n; rw [o_eq, V_sub]; rfl
  unfold finD
  generalize eq (sub .f32 (V .f32 a) (V .f32 a)) Pl.zero32 = d at *
  generalize eq (sub .f32 (V .f32 b) (V .f32 b)) Pl.zero32 = f at *
  cases d
  all_goals
    go_enter Try.func57, Try.ntmps57
    go_wp2
    go_ret
    exact ⟨rfl, by first | exact (Ext.refl _).drewN _ | exact ((Ext.refl _).drewN _).drewN _⟩
set_option maxHeartbeats 2000000 in
theorem owed_any (i : Bool) (x y : Nat) (f : Int) (w : World) : Calls Try.prog 58 #[.bool i, .float .f32 x, .float .f32 y, .int .i64 f] w fun e w' => e = .returned (.bool (owedD i (V .f32 x) (V .f32 y) f)) ∧ Ext w w' := by
  have h1 : (FloatKind.f32.format.order x 0 == some .gt) = gt (V .f32 x) Pl.zero32 := o_gt _ _ _
  have h2 : (FloatKind.f32.format.order y 0 == some .gt) = gt (V .f32 y) Pl.zero32 := o_gt _ _ _
  have h3 : ∀ τ n, (FloatKind.f32.format.order (fb .add .f32 x x τ n) x != some .eq) = !eq (add .f32 (V .f32 x) (V .f32 x)) (V .f32 x) := by intro τ n; rw [o_ne, V_add]
  have h4 : ∀ τ n, (FloatKind.f32.format.order (fb .add .f32 y y τ n) y != some .eq) = !eq (add .f32 (V .f32 y) (V .f32 y)) (V .f32 y) := by intro τ n; rw [o_ne, V_add]
  unfold owedD divable
  generalize gt (V .f32 x) Pl.zero32 = a at *
  generalize gt (V .f32 y) Pl.zero32 = b at *
  generalize eq (add .f32 (V .f32 x) (V .f32 x)) (V .f32 x) = c at *
  generalize eq (add .f32 (V .f32 y) (V .f32 y)) (V .f32 y) = d at *
  cases i <;> cases a <;> cases b <;> cases c <;> cases d
  all_goals
    simp only [Bool.not_true, Bool.not_false] at h3 h4
    go_enter Try.func58, Try.ntmps58
    go_wp2
    go_ret
    exact ⟨rfl, by first | exact Ext.refl _ | exact (Ext.refl _).drewN _ | exact ((Ext.refl _).drewN _).drewN _⟩
set_option maxHeartbeats 400000 in
theorem pinch_any (v lo hi : Nat) (w : World) : Calls Try.prog 78 #[.float .f32 v, .float .f32 lo, .float .f32 hi] w fun e w' => ∃ r, e = .returned (.float .f32 r) ∧ V .f32 r = Pl.clamp (V .f32 v) (V .f32 lo) (V .f32 hi) ∧ w' = w := by
  go_enter Try.func78, Try.ntmps78
  go_wp2
  all_goals go_ret
  all_goals refine ⟨_, rfl, ?_, rfl⟩
  all_goals simp_all [order_V, Pl.clamp, lt, gt]
set_option maxHeartbeats 1000000 in
theorem kpart_any (p lo hi : Nat) (w : World) : Calls Try.prog 59 #[.float .f32 p, .float .f32 lo, .float .f32 hi] w fun e w' => e = .returned (.int .i64 (partD (V .f32 p) (V .f32 lo) (V .f32 hi))) ∧ Ext w w' := by
  obtain ⟨F, hF⟩ : ∃ F, F = fracD (V .f32 p) (V .f32 lo) (V .f32 hi) := ⟨_, rfl⟩
  have hf : ∀ τ n τ' n' τ2 n2, V .f32 (fb .quo .f32 (fb .sub .f32 p lo τ n) (fb .sub .f32 hi lo τ2 n2) τ' n') = F := by
    intro τ n τ' n' τ2 n2; rw [V_quo, V_sub, V_sub, hF]; rfl
  have h1 : ∀ τ n τ' n' τ2 n2, (FloatKind.f32.format.order (fb .quo .f32 (fb .sub .f32 p lo τ n) (fb .sub .f32 hi lo τ2 n2) τ' n') 0 == some .gt || FloatKind.f32.format.order (fb .quo .f32 (fb .sub .f32 p lo τ n) (fb .sub .f32 hi lo τ2 n2) τ' n') 0 == some .eq) = ge F Pl.zero32 := by
    intro τ n τ' n' τ2 n2; rw [o_ge, hf]; rfl
  have h2 : ∀ τ n τ' n' τ2 n2, (FloatKind.f32.format.order (fb .quo .f32 (fb .sub .f32 p lo τ n) (fb .sub .f32 hi lo τ2 n2) τ' n') 1065353216 == some .lt || FloatKind.f32.format.order (fb .quo .f32 (fb .sub .f32 p lo τ n) (fb .sub .f32 hi lo τ2 n2) τ' n') 1065353216 == some .eq) = le F Pl.one32 := by
    intro τ n τ' n' τ2 n2; rw [o_le, hf]; rfl
  have HP : Hid (partD (V .f32 p) (V .f32 lo) (V .f32 hi) = if ge F Pl.zero32 && le F Pl.one32 then Pl.cell4 F else -1) := by show _ = _; unfold partD Pl.inUnit; rw [← hF]
  rw [HP.out]
  have HU : Hid (ge F Pl.zero32 = true → le F Pl.one32 = true → Pl.intOk (mul .f32 Pl.four32 F) = true) := fun a b => Ff.unit_ok (by unfold Pl.inUnit; rw [a, b]; rfl)
  have HFF : Hid _ := hf
  clear hF hf HP
  cases ha : ge F Pl.zero32
  · rw [ha] at h1
    clear ha
    go_enter Try.func59, Try.ntmps59
    go_wp2
    go_ret
    exact ⟨rfl, by first | exact (Ext.refl _).drewN _ | exact ((Ext.refl _).drewN _).drewN _ | exact (((Ext.refl _).drewN _).drewN _).drewN _⟩
  · rw [ha] at h1
    cases hb : le F Pl.one32
    · rw [hb] at h2
      clear ha hb
      go_enter Try.func59, Try.ntmps59
      go_wp2
      go_ret
      exact ⟨rfl, by first | exact (Ext.refl _).drewN _ | exact ((Ext.refl _).drewN _).drewN _ | exact (((Ext.refl _).drewN _).drewN _).drewN _⟩
    · rw [hb] at h2
      have hok := HU.out ha hb
      have hcv : ∀ τ n τ' n' τ2 n2 τ3 n3 wx, (convert 35 3 (.float .f32 (fb .mul .f32 1082130432 (fb .quo .f32 (fb .sub .f32 p lo τ n) (fb .sub .f32 hi lo τ3 n3) τ' n') τ2 n2))).run Try.prog wx = .ok (.int .i64 (Pl.toI (mul .f32 Pl.four32 F))) wx := by
        intro τ n τ' n' τ2 n2 τ3 n3 wx
        have e : V .f32 (fb .mul .f32 1082130432 (fb .quo .f32 (fb .sub .f32 p lo τ n) (fb .sub .f32 hi lo τ3 n3) τ' n') τ2 n2) = mul .f32 Pl.four32 F := by rw [V_mul, HFF.out]; rfl
        rw [run_convert_float_int wx 35 3 .f32 .i64 _ _ (by rw [Try.underlying35]; rfl) Try.underlying3 (toI_law _ _ (by rw [e]; exact hok)), e]
      have HC : Hid (Pl.cell4 F = if Pl.toI (mul .f32 Pl.four32 F) = 4 then 3 else Pl.toI (mul .f32 Pl.four32 F)) := rfl
      rw [HC.out]
      clear hok ha hb HC HU HFF
      generalize Pl.toI (mul .f32 Pl.four32 F) = M at *
      by_cases hM : M = 4
      · subst hM
        go_enter Try.func59, Try.ntmps59
        go_wp2
        go_ret
        exact ⟨rfl, by first | exact (Ext.refl _).drewN _ | exact ((Ext.refl _).drewN _).drewN _ | exact (((Ext.refl _).drewN _).drewN _).drewN _⟩
      · have hM' : (M == 4) = false := beq_false_of_ne hM
        rw [if_neg hM]
        clear hM
        go_enter Try.func59, Try.ntmps59
        go_wp2
        go_ret
        exact ⟨rfl, by first | exact (Ext.refl _).drewN _ | exact ((Ext.refl _).drewN _).drewN _ | exact (((Ext.refl _).drewN _).drewN _).drewN _⟩
set_option maxHeartbeats 400000 in
theorem work_any (k e0 : Int) (w : World) : Calls Try.prog 19 #[.int .i64 k, .int .i64 e0, .int .i64 (-1)] w fun e w' => e = .returned (.bool true) ∧ w' = w := by
  go_enter Try.func19, Try.ntmps19
  go_wp2
  go_ret
  exact ⟨rfl, rfl⟩
set_option maxHeartbeats 400000 in
theorem mark_any (a b : Option Addr) (w : World) : Calls Try.prog 17 #[.agg #[.pointer a, .pointer b]] w fun e w' => e = .returned (.tuple #[]) ∧ Ext w w' := by
  go_enter Try.func17, Try.ntmps17
  go_wp2
  refine bodyPost_end (results_none rfl _ _ _) rfl ?_
  exact ⟨rfl, (Ext.refl _).alloc _⟩
set_option maxHeartbeats 400000 in
theorem asks_any (a b : Option Addr) (w : World) : Calls Try.prog 18 #[.agg #[.pointer a, .pointer b]] w fun e w' => e = .returned (.int .i64 (-1)) ∧ Ext w w' := by
  go_enter Try.func18, Try.ntmps18
  go_wp2
  go_ret
  exact ⟨rfl, (Ext.refl _).alloc _⟩
set_option maxHeartbeats 1000000 in
theorem mine_any (w : World) (B : Nat) (hB : B ≤ w.heap.size) : Calls Try.prog 16 #[] w fun e w' => ∃ mx my, e = .returned (.agg #[.pointer (some ⟨mx, 0, none⟩), .pointer (some ⟨my, 0, none⟩)]) ∧ SmAt w' B mx (.slice none 0 0) [] ∧ SmAt w' B my (.slice none 0 0) [] ∧ mx ≠ my ∧ w.heap.size ≤ mx ∧ w.heap.size ≤ my ∧ mx < w'.heap.size ∧ my < w'.heap.size ∧ Ext w w' := by
  go_enter Try.func16, Try.ntmps16
  go_wp2_with fail
  refine (smnew_any _).mono ?_
  rintro e w1 ⟨rfl, hw1⟩
  have hs0 : (w.alloc (.cells #[.pointer none, .pointer none] 42)).heap.size = w.heap.size + 1 := World.size_alloc _ _
  have H1 : Hid (w1 = (w.alloc (.cells #[.pointer none, .pointer none] 42)).alloc (.cells #[.slice none 0 0, .int .i64 0] 106)) := hw1
  clear hw1
  go_wp2_with fail
  refine (smnew_any _).mono ?_
  rintro e w2 ⟨rfl, hw2⟩
  have H2 : Hid (w2 = w1.alloc (.cells #[.slice none 0 0, .int .i64 0] 106)) := hw2
  have e1 : w1.heap.size = w.heap.size + 2 := by rw [H1.out, World.size_alloc, hs0]
  have e2 : w2.heap.size = w.heap.size + 3 := by rw [H2.out, World.size_alloc, e1]
  have hcell : w2.heap[w.heap.size]? = some (.cells #[.pointer none, .pointer none] 42) := by rw [H2.out, H1.out]; exact heap_alloc_lt (heap_alloc_lt (heap_alloc_new w _))
  have g0 : w2.cell? ⟨w.heap.size, 0, none⟩ = some (.pointer none) := cell_of hcell 0
  have g1 : w2.cell? ⟨w.heap.size, 1, none⟩ = some (.pointer none) := cell_of hcell 1
  have gf : ∀ o, w2.frozen? ⟨w.heap.size, o, none⟩ = false := frozen_of hcell
  have z1 : w2.heap[w.heap.size + 1]? = some (.cells #[.slice none 0 0, .int .i64 0] 106) := by rw [H2.out, H1.out, ← hs0]; exact heap_alloc_lt (heap_alloc_new _ _)
  have z2 : w2.heap[w1.heap.size]? = some (.cells #[.slice none 0 0, .int .i64 0] 106) := by rw [H2.out]; exact heap_alloc_new w1 _
  have x2 : Ext w w2 := by rw [H2.out, H1.out]; exact (((Ext.refl w).alloc _).alloc _).alloc _
  have HZ : Hid (w2.heap[w.heap.size + 1]? = some (.cells #[.slice none 0 0, .int .i64 0] 106) ∧ w2.heap[w1.heap.size]? = some (.cells #[.slice none 0 0, .int .i64 0] 106) ∧ Ext w w2 ∧ w1.heap.size = w.heap.size + 2 ∧ w2.heap.size = w.heap.size + 3) := ⟨z1, z2, x2, e1, e2⟩
  clear hw2 H1 H2 hcell z1 z2 x2 e1 e2 hs0
  go_wp2
  apply bodyPost_ret
  focus (simp [results, Try.results16, go_sem, g0, g1, gf]; rfl)
  focus rfl
  obtain ⟨z1, z2, x2, e1, e2⟩ := HZ.out
  have hc : Chg [w.heap.size] w2 ((w2.setCell ⟨w.heap.size, 0, none⟩ (.pointer (some ⟨w.heap.size + 1, 0, none⟩))).setCell ⟨w.heap.size, 1, none⟩ (.pointer (some ⟨w1.heap.size, 0, none⟩))) :=
    ((Chg.refl _ _).setCell (by simp) _).setCell (by simp) _
  have s1 : SmAt w2 B (w.heap.size + 1) (.slice none 0 0) [] := sm_fresh z1 (by omega)
  have s2 : SmAt w2 B w1.heap.size (.slice none 0 0) [] := sm_fresh z2 (by omega)
  refine ⟨w.heap.size + 1, w1.heap.size, rfl, s1.chg hc (by simp) (by simp [blk, Value.ownBlock]), s2.chg hc (by simp; omega) (by simp [blk, Value.ownBlock]), by omega, by omega, by omega, by simp only [size_set]; omega, by simp only [size_set]; omega, (x2.setCell (Nat.le_refl _) _).setCell (Nat.le_refl _) _⟩
end Go.Proofs.Qxb6500343a
