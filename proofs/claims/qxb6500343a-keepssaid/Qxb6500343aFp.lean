/-
  Plain facts of the order: corners, clamp.
-/
import Derived.Test.Qxb6500343aK1
namespace Go.Proofs.Qxb6500343a
open Go.RowKit
open Go.Proofs
open Ieee (Datum)
open Fl
open Tx (st)
open Ff (in64)
set_option linter.unusedSimpArgs false
set_option linter.unusedVariables false
attribute [local go_sem] run_fadd run_fsub run_fmul run_fquo run_store_float alloc_drewN setCell_drewN shape?_drewN tape_alloc drawn_alloc tape_setCell drawn_setCell drawn_drewN drawn_drew run_fneg

namespace Kf
open Ff
open Pl (minL maxL axis_lv minmax clamp)
theorem num32 (x : Datum) : (to32 x).isNaN = x.isNaN := Pl.to32_nan x
theorem lo_hi {xs : List Datum} (h : xs ≠ []) : (AX xs).lo = to32 (minL xs) ∧ (AX xs).hi = to32 (maxL xs) ∧ (AX xs).w = sub .f32 (AX xs).hi (AX xs).lo ∧ (AX xs).wide = !eq (add .f32 (AX xs).w (AX xs).w) (AX xs).w := by
  unfold AX
  rw [axis_lv xs h]
  exact ⟨rfl, rfl, rfl, rfl⟩
theorem lohi_nan {xs : List Datum} (h : xs ≠ []) : (AX xs).lo.isNaN = (AX xs).hi.isNaN := by
  rw [(lo_hi h).1, (lo_hi h).2.1, num32, num32]
  exact (minmax xs).2
theorem lohi_Le {xs : List Datum} (h : xs ≠ []) (hn : (AX xs).lo.isNaN = false) : Le (AX xs).lo (AX xs).hi := by
  have h1 := lohi_nan h
  rw [(lo_hi h).1, num32] at hn
  have hm : (maxL xs).isNaN = false := by rw [← (minmax xs).2]; exact hn
  rw [(lo_hi h).1, (lo_hi h).2.1]
  refine to32_Le ⟨hn, hm, ?_⟩
  have := (minmax xs).1
  unfold gt at this
  rwa [beq_eq_false_iff_ne] at this
/-- Every sample lies within the corners. -/
theorem mem_Le {xs : List Datum} {x : Datum} (hx : x ∈ xs) (hn : (AX xs).lo.isNaN = false) (hxn : (to32 x).isNaN = false) : Le (AX xs).lo (to32 x) ∧ Le (to32 x) (AX xs).hi := by
  have h : xs ≠ [] := by rintro rfl; cases hx
  rw [(lo_hi h).1, num32] at hn
  rw [num32] at hxn
  rw [(lo_hi h).1, (lo_hi h).2.1]
  have := min_le xs hn x hx hxn
  exact ⟨to32_Le this.1, to32_Le this.2⟩
theorem within_mem {xs : List Datum} {x : Datum} (hx : x ∈ xs) : withinD (to32 x) (AX xs).lo (AX xs).hi = true := by
  unfold withinD
  cases h1 : (to32 x).isNaN
  · cases h2 : (AX xs).lo.isNaN
    · obtain ⟨a, b⟩ := mem_Le hx h2 h1
      rw [(le_iff _ _).2 a, (le_iff _ _).2 b]
      simp
    · rfl
  · rfl
theorem Le_of_not_lt {x y : Datum} (hx : x.isNaN = false) (hy : y.isNaN = false) (h : lt x y = false) : Le y x := by
  rcases Le.total hy hx with h1 | h1
  · exact h1
  · by_cases h2 : Le y x
    · exact h2
    · rw [(lt_iff x y).2 ⟨h1, h2⟩] at h; cases h
theorem nan_cmp {x y : Datum} (h : x.isNaN = true) : lt x y = false ∧ gt x y = false ∧ ge x y = false ∧ le x y = false ∧ eq x y = false ∧ eq y x = false := by
  cases x with
  | nan s t => cases y <;> exact ⟨rfl, rfl, rfl, rfl, rfl, rfl⟩
  | infinity s => cases h
  | number s m e => cases h
theorem clamp_nan {v lo hi : Datum} (h : v.isNaN = true) : clamp v lo hi = v := by
  unfold clamp
  rw [(nan_cmp h).1, (nan_cmp h).2.1]
  rfl
theorem clamp_within {v lo hi : Datum} (hl : lo.isNaN = false → Le lo hi) : withinD (clamp v lo hi) lo hi = true := by
  unfold withinD
  cases h2 : lo.isNaN
  · have L := hl h2
    cases h1 : (clamp v lo hi).isNaN
    · have hv : v.isNaN = false := by
        cases hv : v.isNaN
        · rfl
        · rw [clamp_nan hv, hv] at h1; cases h1
      have : Le lo (clamp v lo hi) ∧ Le (clamp v lo hi) hi := by
        unfold clamp
        split
        · exact ⟨Le.refl h2, L⟩
        · rename_i q1
          split
          · exact ⟨L, Le.refl L.2.1⟩
          · rename_i q2
            rw [Pl.gt_lt] at q2
            exact ⟨Le_of_not_lt hv h2 (by simpa using q1), Le_of_not_lt L.2.1 hv (by simpa using q2)⟩
      rw [(le_iff _ _).2 this.1, (le_iff _ _).2 this.2]
      simp
    · rfl
  · simp
/-- What lies below is brought to the low corner. -/
theorem clamp_low {v lo hi : Datum} (h : lt v lo = true) : eq (clamp v lo hi) lo = true := by
  unfold clamp
  rw [h, if_pos rfl]
  exact (eq_iff _ _).2 ⟨Le.refl (Pl.lt_num h).2, Le.refl (Pl.lt_num h).2⟩
theorem clamp_high {v lo hi : Datum} (hl : hi.isNaN = false → Le lo hi) (h : gt v hi = true) : eq (clamp v lo hi) hi = true := by
  have h' := (gt_iff _ _).1 h
  have L := hl h'.1.1
  have : lt v lo = false := by
    cases q : lt v lo
    · rfl
    · exact absurd (((lt_iff _ _).1 q).1.trans L) h'.2
  unfold clamp
  rw [this, h]
  simp only [Bool.false_eq_true, if_false, if_true]
  exact (eq_iff _ _).2 ⟨Le.refl h'.1.1, Le.refl h'.1.1⟩
/-- Inside is 'Clamp leaves it'. -/
theorem clamp_inside {v lo hi : Datum} (hl : Le lo hi) : (ge v lo && le v hi) = eq (clamp v lo hi) v := by
  cases hv : v.isNaN
  · cases q1 : lt v lo
    · have a := Le_of_not_lt hv hl.1 q1
      cases q2 : gt v hi
      · rw [Pl.gt_lt] at q2
        have b := Le_of_not_lt hl.2.1 hv q2
        rw [← Pl.gt_lt] at q2
        unfold clamp
        rw [q1, q2, (ge_iff _ _).2 a, (le_iff _ _).2 b]
        simp only [Bool.false_eq_true, if_false]
        exact ((eq_iff v v).2 ⟨Le.refl hv, Le.refl hv⟩).symm
      · have c := (gt_iff _ _).1 q2
        unfold clamp
        rw [q1, q2]
        simp only [Bool.false_eq_true, if_false, if_true]
        have e1 : le v hi = false := by
          cases q : le v hi
          · rfl
          · exact absurd ((le_iff _ _).1 q) c.2
        have e2 : eq hi v = false := by
          cases q : eq hi v
          · rfl
          · exact absurd ((eq_iff _ _).1 q).2 c.2
        rw [e1, e2, Bool.and_false]
    · have c := (lt_iff _ _).1 q1
      unfold clamp
      rw [q1, if_pos rfl]
      have e1 : ge v lo = false := by
        cases q : ge v lo
        · rfl
        · exact absurd ((ge_iff _ _).1 q) c.2
      have e2 : eq lo v = false := by
        cases q : eq lo v
        · rfl
        · exact absurd ((eq_iff _ _).1 q).1 c.2
      rw [e1, e2, Bool.false_and]
  · rw [clamp_nan hv, (nan_cmp hv).2.2.1, (nan_cmp hv).2.2.2.2.1, Bool.false_and]
end Kf
end Go.Proofs.Qxb6500343a
