/-
  Data in order; what is rounded to itself.
-/
import Derived.Test.Qxb6500343aLs
namespace Go.Proofs.Qxb6500343a
open Go.RowKit
open Ieee (Datum Format Toward)
namespace Ff
open Fl

/-- Both are numbers (or infinities), and x is not above y. -/
def Le (x y : Datum) : Prop := x.isNaN = false ∧ y.isNaN = false ∧ x.order y ≠ some .gt
theorem ord_some {x y : Datum} (hx : x.isNaN = false) (hy : y.isNaN = false) : ∃ o, x.order y = some o := by
  cases x with
  | nan s t => cases hx
  | infinity s =>
    cases y with
    | nan s t => cases hy
    | infinity t => exact ⟨_, rfl⟩
    | number t n j => exact ⟨_, rfl⟩
  | number s m i =>
    cases y with
    | nan s t => cases hy
    | infinity t => exact ⟨_, rfl⟩
    | number t n j => exact ⟨_, rfl⟩
theorem ord_num {x y : Datum} {o : Ordering} (h : x.order y = some o) : x.isNaN = false ∧ y.isNaN = false := by
  cases x with
  | nan s t => cases y <;> simp [Datum.order] at h
  | infinity s =>
    cases y with
    | nan s t => simp [Datum.order] at h
    | infinity t => exact ⟨rfl, rfl⟩
    | number t n j => exact ⟨rfl, rfl⟩
  | number s m i =>
    cases y with
    | nan s t => simp [Datum.order] at h
    | infinity t => exact ⟨rfl, rfl⟩
    | number t n j => exact ⟨rfl, rfl⟩
theorem le_iff (x y : Datum) : le x y = true ↔ Le x y := by
  unfold le Le
  simp only [Bool.or_eq_true, beq_iff_eq]
  constructor
  · rintro (h | h)
    · exact ⟨(ord_num h).1, (ord_num h).2, by rw [h]; decide⟩
    · exact ⟨(ord_num h).1, (ord_num h).2, by rw [h]; decide⟩
  · rintro ⟨h1, h2, h3⟩
    obtain ⟨o, ho⟩ := ord_some h1 h2
    rw [ho] at h3 ⊢
    cases o <;> simp_all
theorem ord_swap (x y : Datum) : x.order y = (y.order x).map Ordering.swap := by
  cases x with
  | nan s t => cases y <;> rfl
  | infinity s =>
    cases y with
    | nan a b => rfl
    | infinity t => cases s <;> cases t <;> rfl
    | number t n j => cases s <;> rfl
  | number s m i =>
    cases y with
    | nan a b => rfl
    | infinity t => cases t <;> rfl
    | number t n j =>
      rw [order_base s t m n i j (min i j) (by omega) (by omega), order_base t s n m j i (min i j) (by omega) (by omega)]
      generalize Ieee.signed s m (i - min i j).toNat = a
      generalize Ieee.signed t n (j - min i j).toNat = b
      rcases Int.lt_trichotomy a b with h | h | h
      · rw [Int.compare_eq_lt.2 h, Int.compare_eq_gt.2 h]; rfl
      · subst h; rw [Int.compare_eq_eq.2 rfl]; rfl
      · rw [Int.compare_eq_gt.2 h, Int.compare_eq_lt.2 h]; rfl
theorem ge_iff (x y : Datum) : ge x y = true ↔ Le y x := by
  rw [← le_iff]
  unfold ge le
  rw [ord_swap x y]
  cases h : y.order x with
  | none => simp
  | some o => cases o <;> simp [Ordering.swap]
theorem lt_iff (x y : Datum) : lt x y = true ↔ (Le x y ∧ ¬ Le y x) := by
  unfold lt Le
  rw [ord_swap y x]
  simp only [beq_iff_eq]
  constructor
  · intro h
    exact ⟨⟨(ord_num h).1, (ord_num h).2, by rw [h]; decide⟩, fun h' => h'.2.2 (by rw [h]; rfl)⟩
  · rintro ⟨⟨h1, h2, h3⟩, h4⟩
    obtain ⟨o, ho⟩ := ord_some h1 h2
    rw [ho] at h3 h4 ⊢
    cases o
    · rfl
    · exact absurd ⟨h2, h1, by decide⟩ h4
    · exact absurd rfl h3
theorem eq_iff (x y : Datum) : eq x y = true ↔ (Le x y ∧ Le y x) := by
  unfold eq Le
  rw [ord_swap y x]
  simp only [beq_iff_eq]
  constructor
  · intro h
    exact ⟨⟨(ord_num h).1, (ord_num h).2, by rw [h]; decide⟩, (ord_num h).2, (ord_num h).1, by rw [h]; decide⟩
  · rintro ⟨⟨h1, h2, h3⟩, _, _, h4⟩
    obtain ⟨o, ho⟩ := ord_some h1 h2
    rw [ho] at h3 h4 ⊢
    cases o
    · exact absurd rfl h4
    · rfl
    · exact absurd rfl h3
theorem gt_iff (x y : Datum) : gt x y = true ↔ (Le y x ∧ ¬ Le x y) := by rw [Pl.gt_lt]; exact lt_iff y x
theorem Le.refl {x : Datum} (h : x.isNaN = false) : Le x x := by
  have h1 := Pl.eq_self x
  rw [h] at h1
  exact ((eq_iff x x).1 h1).1
theorem Le.total {x y : Datum} (hx : x.isNaN = false) (hy : y.isNaN = false) : Le x y ∨ Le y x := by
  obtain ⟨o, ho⟩ := ord_some hx hy
  by_cases h : o = .gt
  · right
    refine ⟨hy, hx, ?_⟩
    rw [ord_swap y x, ho, h]; decide
  · left
    exact ⟨hx, hy, by rw [ho]; simpa using h⟩
theorem Le.trans {x y z : Datum} (h1 : Le x y) (h2 : Le y z) : Le x z := by
  obtain ⟨nx, ny, a⟩ := h1
  obtain ⟨_, nz, b⟩ := h2
  refine ⟨nx, nz, ?_⟩
  cases x with
  | nan s t => cases nx
  | infinity s =>
    cases s
    · cases y with
      | nan s t => cases ny
      | infinity t =>
        cases t
        · exact b
        · exact absurd rfl a
      | number t n j => exact absurd rfl a
    · cases z with
      | nan s t => cases nz
      | infinity u => cases u <;> decide
      | number u l q => simp [Datum.order]
  | number s m i =>
    cases z with
    | nan s t => cases nz
    | infinity u =>
      cases u
      · simp [Datum.order]
      · cases y with
        | nan s t => cases ny
        | infinity t =>
          cases t
          · exact absurd rfl b
          · exact absurd rfl a
        | number t n j => exact absurd rfl b
    | number u l q =>
      cases y with
      | nan s t => cases ny
      | infinity t =>
        cases t
        · exact absurd rfl b
        · exact absurd rfl a
      | number t n j =>
        have e1 := (order_not_gt (b := min i (min j q)) (by omega) (by omega)).1 a
        have e2 := (order_not_gt (b := min i (min j q)) (by omega) (by omega)).1 b
        exact (order_not_gt (b := min i (min j q)) (by omega) (by omega)).2 (Int.le_trans e1 e2)
theorem to32_Le {l h : Datum} (hg : Le l h) : Le (to32 l) (to32 h) := by
  refine ⟨by rw [Pl.to32_nan]; exact hg.1, by rw [Pl.to32_nan]; exact hg.2.1, ?_⟩
  have h1 : gt l h = false := by
    unfold gt
    rw [beq_eq_false_iff_ne]
    exact hg.2.2
  have := to32_mono l h h1
  unfold gt at this
  rwa [beq_eq_false_iff_ne] at this
/-- No sample lies below the least, none above the greatest. -/
theorem min_le (xs : List Datum) (h : (Pl.minL xs).isNaN = false) : ∀ x, x ∈ xs → x.isNaN = false → Le (Pl.minL xs) x ∧ Le x (Pl.maxL xs) := by
  induction xs using Pl.snoc_ind with
  | h0 => intro x hx; cases hx
  | h1 ys y ih =>
    intro x hx hn
    by_cases he : ys = []
    · subst he
      simp only [List.nil_append, List.mem_singleton] at hx
      subst hx
      exact ⟨Le.refl hn, Le.refl hn⟩
    · rw [Pl.minL_snoc _ _ he] at h ⊢
      rw [Pl.maxL_snoc _ _ he]
      have hmn : (Pl.minL ys).isNaN = false := by
        unfold Pl.stepLo at h
        split at h
        · rename_i hl; exact (Pl.lt_num hl).2
        · exact h
      have hmx : (Pl.maxL ys).isNaN = false := by rw [← (Pl.minmax ys).2]; exact hmn
      have low : ∀ z, Le (Pl.minL ys) z → Le (Pl.stepLo y (Pl.minL ys)) z := by
        intro z hz
        unfold Pl.stepLo
        split
        · rename_i hl; exact ((lt_iff _ _).1 hl).1.trans hz
        · exact hz
      have high : ∀ z, Le z (Pl.maxL ys) → Le z (Pl.stepHi y (Pl.maxL ys)) := by
        intro z hz
        unfold Pl.stepHi
        split
        · rename_i hl; exact hz.trans ((gt_iff _ _).1 hl).1
        · exact hz
      rcases List.mem_append.1 hx with h1 | h1
      · have := ih hmn x h1 hn
        exact ⟨low x this.1, high x this.2⟩
      · rw [List.mem_singleton] at h1
        subst h1
        constructor
        · unfold Pl.stepLo
          split
          · exact Le.refl hn
          · rename_i hl
            rcases Le.total hmn hn with h2 | h2
            · exact h2
            · by_cases h3 : Le (Pl.minL ys) x
              · exact h3
              · exact absurd ((lt_iff _ _).2 ⟨h2, h3⟩) hl
        · unfold Pl.stepHi
          split
          · exact Le.refl hn
          · rename_i hl
            rcases Le.total hn hmx with h2 | h2
            · exact h2
            · by_cases h3 : Le x (Pl.maxL ys)
              · exact h3
              · exact absurd ((gt_iff _ _).2 ⟨h2, h3⟩) hl
theorem min_mem (xs : List Datum) (h : xs ≠ []) : Pl.minL xs ∈ xs ∧ Pl.maxL xs ∈ xs := by
  cases xs with
  | nil => exact absurd rfl h
  | cons x r =>
    refine ⟨Pl.fold_Bd (· ∈ x :: r) Pl.stepLo ?_ r x List.mem_cons_self (fun y hy => List.mem_cons_of_mem _ hy), Pl.fold_Bd (· ∈ x :: r) Pl.stepHi ?_ r x List.mem_cons_self (fun y hy => List.mem_cons_of_mem _ hy)⟩
    · intro x t; unfold Pl.stepLo; split <;> simp
    · intro x t; unfold Pl.stepHi; split <;> simp
/-- Equal values, equal rungs. -/
theorem rung_congr (f : Format) {m n : Nat} {i j b : Int} (hi : b ≤ i) (hj : b ≤ j) (h : m * 2 ^ (i - b).toNat = n * 2 ^ (j - b).toNat) : rung f m i = rung f n j :=
  Nat.le_antisymm (rung_mono f hi hj (Nat.le_of_eq h)) (rung_mono f hj hi (Nat.le_of_eq h.symm))
/-- A word's own number is rounded to itself. -/
theorem rung_val (f : Format) (_hf : 0 < f.fractionBits) (s : Bool) (r : Nat) (hr : r < f.infRung) : ∃ m e, val f s r = .number s m e ∧ rung f m e = r := by
  have hb : f.binade = 2 ^ f.fractionBits := rfl
  have hbp : 0 < f.binade := Nat.two_pow_pos _
  unfold val
  split
  · rename_i h
    refine ⟨r, _, rfl, ?_⟩
    unfold rung
    split
    · rename_i h0; exact h0.symm
    · rename_i h0
      have hl : r.log2 < f.fractionBits := by rw [Nat.log2_lt h0]; exact h
      rw [show max (f.leastPlace + (r.log2 : Int) - f.fractionBits) f.leastPlace = f.leastPlace from by omega]
      rw [cut_rne]
      have : rne (r <<< (f.leastPlace - f.leastPlace).toNat) (f.leastPlace - f.leastPlace).toNat = r := by
        rw [show (f.leastPlace - f.leastPlace).toNat = 0 from by omega]
        simp [rne, Nat.mod_one]
      rw [this, show (f.leastPlace - f.leastPlace).toNat = 0 from by omega]
      omega
  · rename_i h
    refine ⟨_, _, rfl, ?_⟩
    have hq : 1 ≤ r / f.binade := by rw [Nat.le_div_iff_mul_le hbp]; omega
    have hml : (f.binade + r % f.binade).log2 = f.fractionBits := by
      have h1 := Nat.mod_lt r hbp
      have a : f.fractionBits ≤ (f.binade + r % f.binade).log2 := by rw [Nat.le_log2 (by omega)]; omega
      have b : (f.binade + r % f.binade).log2 < f.fractionBits + 1 := by rw [Nat.log2_lt (by omega), Nat.pow_succ]; omega
      omega
    unfold rung
    rw [if_neg (by omega), hml]
    rw [show max (f.leastPlace + ((r / f.binade - 1 : Nat) : Int) + (f.fractionBits : Int) - f.fractionBits) f.leastPlace = f.leastPlace + ((r / f.binade - 1 : Nat) : Int) from by omega]
    rw [cut_rne]
    generalize hL : f.leastPlace + ((r / f.binade - 1 : Nat) : Int) = L
    have : rne ((f.binade + r % f.binade) <<< (L - L).toNat) (L - L).toNat = f.binade + r % f.binade := by
      rw [show (L - L).toNat = 0 from by omega]
      simp [rne, Nat.mod_one]
    rw [this, show (L - f.leastPlace).toNat = r / f.binade - 1 from by omega]
    have d1 := Nat.div_add_mod r f.binade
    have : (r / f.binade - 1) * f.binade + (f.binade + r % f.binade) = r := by
      have : (r / f.binade - 1) * f.binade + f.binade = r / f.binade * f.binade := by
        rw [← Nat.succ_mul]
        congr 1
        omega
      rw [Nat.mul_comm] at d1
      omega
    omega
/-- A datum that the kind holds. -/
def Held (k : FloatKind) (d : Datum) : Prop := d = nanD ∨ (∃ s, d = .infinity s) ∨ ∃ s r, r < k.format.infRung ∧ d = val k.format s r
theorem V_held (k : FloatKind) (b : Nat) : Held k (V k b) := by
  unfold V Format.read
  simp only
  split
  · rename_i h
    refine .inr (.inr ⟨b / k.format.signWeight % 2 == 1, b % k.format.signWeight, ?_, ?_⟩)
    · have : k.format.binade ≤ k.format.infRung := by cases k <;> decide
      omega
    · unfold val; rw [if_pos h]; rfl
  · split
    · rename_i h1 h2
      refine .inr (.inr ⟨b / k.format.signWeight % 2 == 1, b % k.format.signWeight, h2, ?_⟩)
      unfold val; rw [if_neg h1]; rfl
    · split
      · exact .inr (.inl ⟨_, rfl⟩)
      · exact .inl rfl
/-- What is held is rounded to itself; so is whatever has its value and its sign. -/
theorem rd_held {k : FloatKind} {s : Bool} {m n : Nat} {i j b : Int} (hd : Held k (.number s m i)) (hi : b ≤ i) (hj : b ≤ j) (h : n * 2 ^ (j - b).toNat = m * 2 ^ (i - b).toNat) : rd k (.number s n j) = .number s m i := by
  rcases hd with hd | ⟨t, hd⟩ | ⟨t, r, hr, hd⟩
  · cases hd
  · cases hd
  · obtain ⟨m', e', h1, h2⟩ := rung_val k.format (by cases k <;> decide) t r hr
    rw [h1] at hd
    cases hd
    rw [rd_number, rung_congr k.format hj hi h, h2, if_pos hr, h1]
end Ff
end Go.Proofs.Qxb6500343a
