/-
  Texts, plain: decimal digits, headers as text.
-/
import Derived.Test.Qxb6500342aPl
import Derived.Laws.Concat
namespace Go.Proofs.Qxb6500342a
namespace Tx
open Pl (Hd)
/-- A string out of its bytes. -/
def st (l : List Nat) : ByteArray := ⟨(l.map UInt8.ofNat).toArray⟩
theorem st_append (a b : List Nat) : st a ++ st b = st (a ++ b) := by
  unfold st
  rw [ByteArray.mk_append_mk]
  simp
theorem st_size (a : List Nat) : (st a).size = a.length := by simp [st, ByteArray.size]
/-- The digits of m, the last first, at most f of them. -/
def dg : Nat → Nat → List Nat
  | 0, _ => []
  | f + 1, m => if m = 0 then [] else (48 + m % 10) :: dg f (m / 10)
theorem dg_len : ∀ f m, (dg f m).length ≤ f
  | 0, _ => by simp [dg]
  | f + 1, m => by
    unfold dg
    split
    · simp
    · have := dg_len f (m / 10); simp; omega
theorem dg_zero (f : Nat) : dg f 0 = [] := by cases f <;> simp [dg]
theorem dg_byte : ∀ f m x, x ∈ dg f m → x < 256
  | 0, _, x, h => by simp [dg] at h
  | f + 1, m, x, h => by
    unfold dg at h
    split at h
    · simp at h
    · rcases List.mem_cons.1 h with rfl | h
      · omega
      · exact dg_byte f _ x h
/-- The digits, the last first, and the sign. -/
def rev (n : Int) : List Nat := dg 20 n.natAbs ++ (if n < 0 then [45] else [])
def itoa (n : Int) : List Nat := if n = 0 then [48] else (rev n).reverse
theorem rev_len (n : Int) : (rev n).length ≤ 21 := by
  unfold rev
  have := dg_len 20 n.natAbs
  split <;> simp <;> omega
theorem itoa_len (n : Int) : (itoa n).length ≤ 21 := by
  unfold itoa
  split
  · simp
  · rw [List.length_reverse]; exact rev_len n
def showH (h : Hd) : List Nat := itoa h.k ++ [58] ++ itoa h.d ++ [58] ++ itoa h.l ++ [58] ++ itoa h.f ++ [58] ++ itoa h.s
theorem showH_len (h : Hd) : (showH h).length ≤ 109 := by
  have a := itoa_len h.k
  have b := itoa_len h.d
  have c := itoa_len h.l
  have d := itoa_len h.f
  have e := itoa_len h.s
  unfold showH
  simp only [List.length_append, List.length_cons, List.length_nil]
  omega
/-- One slot as Show spells it. -/
def slotT (i : Nat) (h : Hd) : List Nat := itoa i ++ [61] ++ showH h ++ [59]
theorem slotT_len (i : Nat) (h : Hd) : (slotT i h).length ≤ 132 := by
  have a := itoa_len (i : Int)
  have b := showH_len h
  unfold slotT
  simp only [List.length_append, List.length_cons, List.length_nil]
  omega
/-- The first k slots' text. -/
def showTo (u : Nat) (H : Nat → Hd) : Nat → List Nat
  | 0 => []
  | k + 1 => showTo u H k ++ (if u.testBit k then slotT k (H k) else [])
theorem showTo_len (u : Nat) (H : Nat → Hd) : ∀ k, (showTo u H k).length ≤ 132 * k
  | 0 => by simp [showTo]
  | k + 1 => by
    have := showTo_len u H k
    have b := slotT_len k (H k)
    unfold showTo
    split <;> simp <;> omega
theorem showTo_congr (u : Nat) (H G : Nat → Hd) : ∀ k, (∀ i, i < k → u.testBit i = true → H i = G i) → showTo u H k = showTo u G k
  | 0, _ => rfl
  | k + 1, h => by
    unfold showTo
    rw [showTo_congr u H G k (fun i hi => h i (by omega))]
    by_cases hb : u.testBit k = true
    · rw [h k (by omega) hb]
    · simp [hb]
end Tx
end Go.Proofs.Qxb6500342a
