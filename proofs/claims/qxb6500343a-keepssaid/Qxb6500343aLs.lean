/-
  Samples and levels, plain.
-/
import Derived.Test.Qxb6500343aFm
namespace Go.Proofs.Qxb6500343a
open Ieee (Datum)
open Fl Go.RowKit
open Ff (in64 Bd)
namespace Pl
/-- The levels of samples. -/
def lv (xs : List Datum) : List LD := xs.foldl (fun ls x => ls ++ [next ls x]) []
theorem lv_snoc (xs : List Datum) (x : Datum) : lv (xs ++ [x]) = lv xs ++ [next (lv xs) x] := by simp [lv, List.foldl_append]
theorem lv_nil : lv [] = [] := rfl
/-- A list is empty, or has a last. -/
theorem snoc_cases {α : Type} (xs : List α) : xs = [] ∨ ∃ ys y, xs = ys ++ [y] := by
  rcases List.eq_nil_or_concat xs with h | ⟨ys, y, h⟩
  · exact .inl h
  · exact .inr ⟨ys, y, by rw [h, List.concat_eq_append]⟩
theorem snoc_ind {α : Type} {P : List α → Prop} (h0 : P []) (h1 : ∀ ys y, P ys → P (ys ++ [y])) (xs : List α) : P xs := by
  have : ∀ n (xs : List α), xs.length = n → P xs := by
    intro n
    induction n with
    | zero => intro xs h; rw [List.length_eq_zero_iff.1 h]; exact h0
    | succ n ih =>
      intro xs h
      rcases snoc_cases xs with rfl | ⟨ys, y, rfl⟩
      · simp at h
      · exact h1 ys y (ih ys (by simp at h; exact h))
  exact this _ xs rfl
theorem lv_len (xs : List Datum) : (lv xs).length = xs.length := by
  induction xs using snoc_ind with
  | h0 => rfl
  | h1 ys y ih => rw [lv_snoc, List.length_append, List.length_append, ih]; rfl
theorem lv_drop (xs : List Datum) : lv xs.dropLast = (lv xs).dropLast := by
  rcases snoc_cases xs with rfl | ⟨ys, y, rfl⟩
  · rfl
  · rw [lv_snoc, List.dropLast_concat, List.dropLast_concat]
def minL : List Datum → Datum
  | [] => zero64
  | x :: r => r.foldl (fun t x => stepLo x t) x
def maxL : List Datum → Datum
  | [] => zero64
  | x :: r => r.foldl (fun t x => stepHi x t) x
theorem minL_snoc (xs : List Datum) (x : Datum) (h : xs ≠ []) : minL (xs ++ [x]) = stepLo x (minL xs) := by
  cases xs with
  | nil => exact absurd rfl h
  | cons a r => simp [minL, List.foldl_append]
theorem maxL_snoc (xs : List Datum) (x : Datum) (h : xs ≠ []) : maxL (xs ++ [x]) = stepHi x (maxL xs) := by
  cases xs with
  | nil => exact absurd rfl h
  | cons a r => simp [maxL, List.foldl_append]
theorem lv_last (xs : List Datum) : ∀ d, (lv xs).getLast? = some d → xs ≠ [] ∧ d.l = minL xs ∧ d.h = maxL xs := by
  induction xs using snoc_ind with
  | h0 => intro d h; simp [lv] at h
  | h1 ys y ih =>
    intro d h
    rw [lv_snoc, List.getLast?_concat] at h
    cases h
    refine ⟨by simp, ?_⟩
    unfold next
    cases hl : (lv ys).getLast? with
    | none =>
      have : lv ys = [] := List.getLast?_eq_none_iff.1 hl
      have hy : ys = [] := List.length_eq_zero_iff.1 (by rw [← lv_len, this]; rfl)
      subst hy
      exact ⟨rfl, rfl⟩
    | some t =>
      obtain ⟨h1, h2, h3⟩ := ih t hl
      rw [minL_snoc _ _ h1, maxL_snoc _ _ h1, ← h2, ← h3]
      exact ⟨rfl, rfl⟩
theorem lv_some (xs : List Datum) (h : xs ≠ []) : ∃ d, (lv xs).getLast? = some d := by
  cases hl : (lv xs).getLast? with
  | none =>
    have : lv xs = [] := List.getLast?_eq_none_iff.1 hl
    exact absurd (List.length_eq_zero_iff.1 (by rw [← lv_len, this]; rfl)) h
  | some d => exact ⟨d, rfl⟩
theorem axis_lv (xs : List Datum) (h : xs ≠ []) : axisOf (lv xs) = span (minL xs) (maxL xs) := by
  obtain ⟨d, hd⟩ := lv_some xs h
  obtain ⟨_, h2, h3⟩ := lv_last xs d hd
  unfold axisOf
  rw [hd]
  simp only
  rw [h2, h3]
/-- All samples are ratios: none too great. -/
def Rat (xs : List Datum) : Prop := ∀ x, x ∈ xs → Bd 65 x
theorem fold_Bd (P : Datum → Prop) (f : Datum → Datum → Datum) (hf : ∀ x t, f x t = x ∨ f x t = t) : ∀ (r : List Datum) (t : Datum), P t → (∀ x, x ∈ r → P x) → P (r.foldl (fun t x => f x t) t)
  | [], t, ht, _ => ht
  | x :: r, t, ht, hr => by
    rw [List.foldl_cons]
    refine fold_Bd P f hf r _ ?_ (fun y hy => hr y (List.mem_cons_of_mem _ hy))
    rcases hf x t with h | h
    · rw [h]; exact hr x List.mem_cons_self
    · rw [h]; exact ht
theorem min_Bd {xs : List Datum} (h : Rat xs) (h0 : xs ≠ []) : Bd 65 (minL xs) ∧ Bd 65 (maxL xs) := by
  cases xs with
  | nil => exact absurd rfl h0
  | cons x r =>
    refine ⟨fold_Bd (Bd 65) stepLo ?_ r x (h x List.mem_cons_self) (fun y hy => h y (List.mem_cons_of_mem _ hy)), fold_Bd (Bd 65) stepHi ?_ r x (h x List.mem_cons_self) (fun y hy => h y (List.mem_cons_of_mem _ hy))⟩
    · intro x t; unfold stepLo; split <;> simp
    · intro x t; unfold stepHi; split <;> simp
theorem fit_lv {xs : List Datum} (h : Rat xs) : Fit (lv xs) := by
  intro d hd
  obtain ⟨h1, h2, h3⟩ := lv_last xs d hd
  have hb := min_Bd h h1
  rw [h2, h3]
  exact ⟨Ff.fits_Bd fun s m e he h0 => Int.le_trans (hb.1 s m e he h0) (by decide), Ff.fits_Bd fun s m e he h0 => Int.le_trans (hb.2 s m e he h0) (by decide)⟩
theorem Rat.snoc {xs : List Datum} (h : Rat xs) {a b : Int} (ha : in64 a) (hb : in64 b) : Rat (xs ++ [ratio a b]) := by
  intro x hx
  rcases List.mem_append.1 hx with h1 | h1
  · exact h x h1
  · rw [List.mem_singleton.1 h1]; exact Ff.ratio_Bd a b ha hb
theorem Rat.drop {xs : List Datum} (h : Rat xs) : Rat xs.dropLast := fun x hx => h x (List.dropLast_subset _ hx)
theorem Rat.nil : Rat [] := fun x hx => by cases hx
/-- The least is not above the greatest; and both are numbers or neither is. -/
theorem order_self (x : Datum) : gt x x = false := by
  unfold gt
  cases x with
  | nan s t => rfl
  | infinity s => cases s <;> rfl
  | number s m e => simp [Datum.order]
theorem gt_lt (x y : Datum) : gt x y = lt y x := by
  unfold gt lt
  cases x with
  | nan s t => cases y <;> rfl
  | infinity s =>
    cases y with
    | nan a b => rfl
    | infinity t => cases s <;> cases t <;> rfl
    | number t n j => cases s <;> rfl
  | number s m i =>
    cases y with
    | nan a b => rfl
    | infinity t => cases t <;> rfl
    | number t n j =>
      rw [Ff.order_base s t m n i j (min i j) (by omega) (by omega), Ff.order_base t s n m j i (min i j) (by omega) (by omega)]
      generalize Ieee.signed s m (i - min i j).toNat = a
      generalize Ieee.signed t n (j - min i j).toNat = b
      rcases Int.lt_trichotomy a b with h | h | h
      · rw [Int.compare_eq_lt.2 h, Int.compare_eq_gt.2 h]; rfl
      · subst h; rw [Int.compare_eq_eq.2 rfl]; rfl
      · rw [Int.compare_eq_gt.2 h, Int.compare_eq_lt.2 h]; rfl
theorem lt_num {x y : Datum} (h : lt x y = true) : x.isNaN = false ∧ y.isNaN = false := by
  unfold lt at h
  cases x <;> cases y <;> first | exact ⟨rfl, rfl⟩ | (simp [Datum.order] at h)
theorem minmax (xs : List Datum) : gt (minL xs) (maxL xs) = false ∧ (minL xs).isNaN = (maxL xs).isNaN := by
  induction xs using snoc_ind with
  | h0 => exact ⟨order_self _, rfl⟩
  | h1 ys y ih =>
    by_cases h : ys = []
    · subst h; exact ⟨order_self _, rfl⟩
    · rw [minL_snoc _ _ h, maxL_snoc _ _ h]
      unfold stepLo stepHi
      cases h1 : lt y (minL ys) <;> cases h2 : gt y (maxL ys)
      · exact ih
      · simp only [Bool.false_eq_true, if_false, if_true]
        rw [gt_lt] at h2
        exact ⟨by rw [gt_lt]; exact h1, by rw [ih.2, (lt_num h2).1, (lt_num h2).2]⟩
      · simp only [Bool.false_eq_true, if_false, if_true]
        exact ⟨h2, by rw [← ih.2, (lt_num h1).1, (lt_num h1).2]⟩
      · simp only [if_true]
        exact ⟨order_self _, trivial⟩
theorem eq_self (x : Datum) : eq x x = !x.isNaN := by
  unfold eq
  cases x with
  | nan s t => rfl
  | infinity s => cases s <;> rfl
  | number s m e => simp [Datum.order, Datum.isNaN]
theorem to32_nan (x : Datum) : (to32 x).isNaN = x.isNaN := by
  cases x with
  | nan s t => rfl
  | infinity s => simp only [to32, Ff.rd_inf]
  | number s m e =>
    simp only [to32]
    rw [Ff.rd_number]
    split
    · obtain ⟨m1, e1, v1, _⟩ := Ff.val_mag FloatKind.f32.format s (Ff.rung FloatKind.f32.format m e)
      rw [v1]; rfl
    · rfl
/-- What 'sound' looks at. -/
def SoundA (a : AX) : Prop := a.w = sub .f32 a.hi a.lo ∧ a.wide = !eq (add .f32 a.w a.w) a.w ∧ gt a.lo a.hi = false ∧ a.lo.isNaN = a.hi.isNaN
theorem sound_lv (xs : List Datum) (h : xs ≠ []) : SoundA (axisOf (lv xs)) := by
  rw [axis_lv xs h]
  unfold span SoundA
  simp only
  exact ⟨trivial, trivial, Ff.to32_mono _ _ (minmax xs).1, by rw [to32_nan, to32_nan]; exact (minmax xs).2⟩
theorem lv_get (xs : List Datum) : ∀ k d, (lv xs)[k]? = some d → ∃ x, xs[k]? = some x ∧ d.x = x ∧ d = next ((lv xs).take k) x := by
  induction xs using snoc_ind with
  | h0 => intro k d h; simp [lv] at h
  | h1 ys y ih =>
    intro k d h
    rw [lv_snoc] at h ⊢
    rcases Nat.lt_or_ge k (lv ys).length with hk | hk
    · rw [List.getElem?_append_left hk] at h
      obtain ⟨x, h1, h2, h3⟩ := ih k d h
      refine ⟨x, by rw [List.getElem?_append_left (by rw [← lv_len]; exact hk)]; exact h1, h2, ?_⟩
      rw [List.take_append_of_le_length (by omega)]
      exact h3
    · rw [List.getElem?_append_right hk] at h
      have hk0 : k - (lv ys).length = 0 := by
        rcases Nat.eq_zero_or_pos (k - (lv ys).length) with h' | h'
        · exact h'
        · rw [List.getElem?_eq_none (by simp; omega)] at h; cases h
      rw [hk0] at h
      simp only [List.getElem?_cons_zero, Option.some.injEq] at h
      have hke : k = (lv ys).length := by omega
      refine ⟨y, ?_, ?_, ?_⟩
      · rw [hke, lv_len, List.getElem?_append_right (Nat.le_refl _)]; simp
      · rw [← h]; unfold next; split <;> rfl
      · rw [← h, hke]; simp
end Pl
end Go.Proofs.Qxb6500343a
