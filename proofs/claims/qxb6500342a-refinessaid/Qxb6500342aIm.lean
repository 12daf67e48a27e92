/-
  Images, plain: records, export, judgement, import.
-/
import Derived.Test.Qxb6500342aBd
namespace Go.Proofs.Qxb6500342a
namespace Im
open Pl (Hd)
/-- A record: the slot, the word's seven bytes, big end first. -/
def recB (i x : Nat) : List Nat := [i, x / 281474976710656 % 256, x / 1099511627776 % 256, x / 4294967296 % 256, x / 16777216 % 256, x / 65536 % 256, x / 256 % 256, x % 256]
def wordN (h : Hd) : Nat := (Pl.packI h).toNat
/-- The first k slots' records. -/
def exTo (u : Nat) (H : Nat → Hd) : Nat → List Nat
  | 0 => []
  | k + 1 => exTo u H k ++ (if u.testBit k then recB k (wordN (H k)) else [])
theorem exTo_len (u : Nat) (H : Nat → Hd) : ∀ k, (exTo u H k).length ≤ 8 * k
  | 0 => by simp [exTo]
  | k + 1 => by
    have := exTo_len u H k
    unfold exTo
    split <;> simp [recB] <;> omega
theorem exTo_congr (u v : Nat) (H G : Nat → Hd) : ∀ k, (∀ i, i < k → u.testBit i = v.testBit i) → (∀ i, i < k → u.testBit i = true → H i = G i) → exTo u H k = exTo v G k
  | 0, _, _ => rfl
  | k + 1, h1, h => by
    unfold exTo
    rw [exTo_congr u v H G k (fun i hi => h1 i (by omega)) (fun i hi => h i (by omega)), ← h1 k (by omega)]
    by_cases hb : u.testBit k = true
    · rw [h k (by omega) hb]
    · simp [hb]
/-- The judgement of r records from place 'at' on, the last slot being 'last'. -/
def jd (B : Nat → Nat) : Nat → Nat → Int → Int
  | 0, _, _ => 0
  | r + 1, at_, last => if 8 ≤ B at_ ∨ (B at_ : Int) ≤ last then 9 else jd B r (at_ + 8) (B at_)
def judge (sz : Nat) (B : Nat → Nat) : Int := if 64 < sz then 1 else if sz % 8 ≠ 0 then 9 else jd B (sz / 8) 0 (-1)
/-- Seven bytes as a word; the first k of them. -/
def wTo (B : Nat → Nat) (at_ : Nat) : Nat → Nat
  | 0 => 0
  | k + 1 => wTo B at_ k * 256 + B (at_ + 1 + k)
def recW (B : Nat → Nat) (at_ : Nat) : Nat := wTo B at_ 7
theorem wTo_lt (B : Nat → Nat) (hB : ∀ i, B i < 256) (at_ : Nat) : ∀ k, wTo B at_ k < 256 ^ k
  | 0 => by simp [wTo]
  | k + 1 => by
    have h1 := wTo_lt B hB at_ k
    have h2 := hB (at_ + 1 + k)
    unfold wTo
    rw [Nat.pow_succ]
    have : (wTo B at_ k + 1) * 256 ≤ 256 ^ k * 256 := Nat.mul_le_mul_right _ h1
    omega
theorem recW_lt (B : Nat → Nat) (hB : ∀ i, B i < 256) (at_ : Nat) : recW B at_ < 72057594037927936 := wTo_lt B hB at_ 7
def hdOf (x : Nat) : Hd := Pl.unpackI (x : Int)
theorem wordN_hdOf (x : Nat) (h : x < 72057594037927936) : wordN (hdOf x) = x := by
  unfold wordN hdOf
  rw [Pl.pack_unpack _ (by omega) (by omega)]
  omega
/-- The state behind the first n records. -/
def impU (B : Nat → Nat) : Nat → Nat
  | 0 => 0
  | n + 1 => impU B n ||| 2 ^ B (8 * n)
def impH (B : Nat → Nat) (H0 : Nat → Hd) : Nat → (Nat → Hd)
  | 0 => H0
  | n + 1 => fun j => if j = B (8 * n) then hdOf (recW B (8 * n)) else impH B H0 n j
/-- Slots that rise, below eight. -/
def Rises (B : Nat → Nat) (n : Nat) : Prop := (∀ i, i < n → B (8 * i) < 8) ∧ ∀ i, i + 1 < n → B (8 * i) < B (8 * (i + 1))
theorem jd_spec (B : Nat → Nat) : ∀ (r i : Nat) (last : Int), jd B r (8 * i) last = 0 ↔ ((∀ k, k < r → B (8 * (i + k)) < 8) ∧ (∀ k, k + 1 < r → B (8 * (i + k)) < B (8 * (i + k + 1))) ∧ (0 < r → last < B (8 * i)))
  | 0, i, last => by simp [jd]
  | r + 1, i, last => by
    have ih := jd_spec B r (i + 1) (B (8 * i))
    rw [show 8 * (i + 1) = 8 * i + 8 from by omega] at ih
    unfold jd
    by_cases h : 8 ≤ B (8 * i) ∨ (B (8 * i) : Int) ≤ last
    · rw [if_pos h]
      constructor
      · intro h0; omega
      · rintro ⟨h1, _, h3⟩
        have a := h1 0 (by omega)
        have b := h3 (by omega)
        simp only [Nat.add_zero] at a
        omega
    · rw [if_neg h, ih]
      constructor
      · rintro ⟨h1, h2, h3⟩
        refine ⟨fun k hk => ?_, fun k hk => ?_, fun _ => by omega⟩
        · cases k with
          | zero => simp only [Nat.add_zero]; omega
          | succ k => have := h1 k (by omega); rw [show i + (k + 1) = i + 1 + k from by omega]; exact this
        · cases k with
          | zero => simp only [Nat.add_zero]; have := h3 (by omega); rw [show 8 * (i + 1) = 8 * i + 8 from by omega]; omega
          | succ k => have := h2 k (by omega); rw [show i + (k + 1) = i + 1 + k from by omega]; exact this
      · rintro ⟨h1, h2, h3⟩
        refine ⟨fun k hk => ?_, fun k hk => ?_, fun hr => ?_⟩
        · have := h1 (k + 1) (by omega); rw [show i + (k + 1) = i + 1 + k from by omega] at this; exact this
        · have := h2 (k + 1) (by omega); rw [show i + (k + 1) = i + 1 + k from by omega] at this; exact this
        · have := h2 0 (by omega); simp only [Nat.add_zero] at this; rw [show 8 * (i + 1) = 8 * i + 8 from by omega] at this; omega
theorem rises_of {sz : Nat} {B : Nat → Nat} (h : judge sz B = 0) : sz ≤ 64 ∧ sz = 8 * (sz / 8) ∧ Rises B (sz / 8) := by
  unfold judge at h
  split at h
  · omega
  · split at h
    · omega
    · rename_i h1 h2
      have := (jd_spec B (sz / 8) 0 (-1)).1 (by simpa using h)
      simp only [Nat.zero_add] at this
      exact ⟨by omega, by omega, this.1, this.2.1⟩
theorem jd_val (B : Nat → Nat) : ∀ (r a : Nat) (last : Int), jd B r a last = 0 ∨ jd B r a last = 9
  | 0, _, _ => .inl rfl
  | r + 1, a, last => by
    unfold jd
    split
    · exact .inr rfl
    · exact jd_val B r _ _
theorem rises_lt {B : Nat → Nat} {n : Nat} (h : Rises B n) : ∀ i j, i < j → j < n → B (8 * i) < B (8 * j) := by
  intro i j hij hj
  induction j with
  | zero => omega
  | succ j ih =>
    rcases Nat.lt_or_ge i j with h1 | h1
    · have a := ih h1 (by omega)
      have b := h.2 j (by omega)
      omega
    · have : i = j := by omega
      subst this
      exact h.2 i (by omega)
theorem impU_lt {B : Nat → Nat} {n : Nat} (h : Rises B n) : ∀ k, k ≤ n → impU B k < 256
  | 0, _ => by simp [impU]
  | k + 1, hk => by
    unfold impU
    exact Bd.add_lt _ _ (impU_lt h k (by omega)) (h.1 k (by omega))
theorem impU_bit (B : Nat → Nat) (j : Nat) : ∀ k, (impU B k).testBit j = decide (∃ i, i < k ∧ B (8 * i) = j)
  | 0 => by simp [impU]
  | k + 1 => by
    unfold impU
    rw [Bd.add_bit, impU_bit B j k]
    rw [Bool.eq_iff_iff]
    simp only [Bool.or_eq_true, decide_eq_true_eq]
    constructor
    · rintro (⟨i, h1, h2⟩ | h)
      · exact ⟨i, by omega, h2⟩
      · exact ⟨k, by omega, h.symm⟩
    · rintro ⟨i, h1, h2⟩
      rcases Nat.lt_or_ge i k with h3 | h3
      · exact .inl ⟨i, h3, h2⟩
      · have : i = k := by omega
        subst this
        exact .inr h2.symm
theorem impH_at {B : Nat → Nat} {H0 : Nat → Hd} {n : Nat} (h : Rises B n) : ∀ k, k ≤ n → ∀ i, i < k → impH B H0 k (B (8 * i)) = hdOf (recW B (8 * i))
  | 0, _, i, hi => by omega
  | k + 1, hk, i, hi => by
    unfold impH
    by_cases e : B (8 * i) = B (8 * k)
    · have : i = k := by
        rcases Nat.lt_trichotomy i k with h1 | h1 | h1
        · have := rises_lt h i k h1 (by omega); omega
        · exact h1
        · omega
      subst this
      simp
    · have hne : i ≠ k := fun e' => e (by rw [e'])
      rw [if_neg e]
      exact impH_at h k (by omega) i (by omega)
/-- The bytes of the first n records. -/
def bytesTo (B : Nat → Nat) : Nat → List Nat
  | 0 => []
  | n + 1 => bytesTo B n ++ [B (8 * n), B (8 * n + 1), B (8 * n + 2), B (8 * n + 3), B (8 * n + 4), B (8 * n + 5), B (8 * n + 6), B (8 * n + 7)]
theorem recB_recW (B : Nat → Nat) (hB : ∀ i, B i < 256) (s a : Nat) : recB s (recW B a) = [s, B (a + 1), B (a + 2), B (a + 3), B (a + 4), B (a + 5), B (a + 6), B (a + 7)] := by
  have h1 := hB (a + 1)
  have h2 := hB (a + 2)
  have h3 := hB (a + 3)
  have h4 := hB (a + 4)
  have h5 := hB (a + 5)
  have h6 := hB (a + 6)
  have h7 := hB (a + 7)
  simp only [recB, recW, wTo, Nat.zero_mul, Nat.zero_add, Nat.add_assoc, Nat.reduceAdd, List.cons.injEq, and_true, true_and, Nat.add_zero]
  omega
theorem exTo_imp {B : Nat → Nat} {H0 : Nat → Hd} (hB : ∀ i, B i < 256) {n : Nat} (h : Rises B n) : ∀ k, k ≤ n → ∀ m, m ≤ 8 → (∀ i, i < k → B (8 * i) < m) → exTo (impU B k) (impH B H0 k) m = bytesTo B k
  | 0, _, m, _, _ => by
    have : ∀ m, exTo (impU B 0) (impH B H0 0) m = [] := by
      intro m
      induction m with
      | zero => rfl
      | succ m ih => unfold exTo; rw [ih]; simp [impU]
    rw [this]; rfl
  | k + 1, hk, m, hm, hlt => by
    have hs8 := h.1 k (by omega)
    have hsm := hlt k (by omega)
    have ih := exTo_imp (H0 := H0) hB h k (by omega) (B (8 * k)) (by omega) (fun i hi => rises_lt h i k hi (by omega))
    have hbit : ∀ j, (impU B (k + 1)).testBit j = ((impU B k).testBit j || decide (j = B (8 * k))) := fun j => Bd.add_bit (impU B k) (B (8 * k)) j
    have hold : exTo (impU B (k + 1)) (impH B H0 (k + 1)) (B (8 * k)) = bytesTo B k := by
      rw [← ih]
      apply exTo_congr
      · intro i hi; rw [hbit]; simp; omega
      · intro i hi _; show (if i = B (8 * k) then _ else impH B H0 k i) = _; rw [if_neg (by omega)]
    -- at the slot
    have hat : exTo (impU B (k + 1)) (impH B H0 (k + 1)) (B (8 * k) + 1) = bytesTo B (k + 1) := by
      rw [exTo, hold, hbit]
      have e : impH B H0 (k + 1) (B (8 * k)) = hdOf (recW B (8 * k)) := by unfold impH; simp
      rw [e, wordN_hdOf _ (recW_lt B hB _), recB_recW B hB]
      simp [bytesTo]
    -- beyond it
    have hbey : ∀ d, B (8 * k) + 1 + d ≤ 8 → exTo (impU B (k + 1)) (impH B H0 (k + 1)) (B (8 * k) + 1 + d) = bytesTo B (k + 1) := by
      intro d
      induction d with
      | zero => intro _; exact hat
      | succ d ih2 =>
        intro hd
        rw [← Nat.add_assoc, exTo, ih2 (by omega)]
        have hf : (impU B (k + 1)).testBit (B (8 * k) + 1 + d) = false := by
          rw [impU_bit]
          rw [decide_eq_false_iff_not]
          rintro ⟨i, h1, h2⟩
          rcases Nat.lt_or_ge i k with h3 | h3
          · have := rises_lt h i k h3 (by omega); omega
          · have : i = k := by omega
            subst this; omega
        simp [hf]
    have := hbey (m - (B (8 * k) + 1)) (by omega)
    rw [show B (8 * k) + 1 + (m - (B (8 * k) + 1)) = m from by omega] at this
    exact this
theorem cnt_add : ∀ u : Fin 256, ∀ n : Fin 8, u.val.testBit n.val = false → Bd.cnt (u.val ||| 2 ^ n.val) = Bd.cnt u.val + 1 := by decide +kernel
theorem cnt_imp {B : Nat → Nat} {n : Nat} (h : Rises B n) : ∀ k, k ≤ n → Bd.cnt (impU B k) = k
  | 0, _ => by show Bd.cnt 0 = 0; decide
  | k + 1, hk => by
    have ih := cnt_imp h k (by omega)
    have hf : (impU B k).testBit (B (8 * k)) = false := by
      rw [impU_bit, decide_eq_false_iff_not]
      rintro ⟨i, h1, h2⟩
      have := rises_lt h i k h1 (by omega); omega
    have := cnt_add ⟨impU B k, impU_lt h k (by omega)⟩ ⟨B (8 * k), h.1 k (by omega)⟩ hf
    unfold impU
    rw [this, ih]
end Im
end Go.Proofs.Qxb6500342a
