/-
  Texts, plain: decimal digits.
-/
import Derived.Test.Qxb6500343aFm
import Derived.Laws.Concat
namespace Go.Proofs.Qxb6500343a
open Ff (in64)
namespace Tx
/-- A string out of its bytes. -/
def st (l : List Nat) : ByteArray := ⟨(l.map UInt8.ofNat).toArray⟩
theorem st_append (a b : List Nat) : st a ++ st b = st (a ++ b) := by
  unfold st
  rw [ByteArray.mk_append_mk]
  simp
theorem st_size (a : List Nat) : (st a).size = a.length := by simp [st, ByteArray.size]
/-- The digits of m, the last first, at most f of them. -/
def dg : Nat → Nat → List Nat
  | 0, _ => []
  | f + 1, m => if m = 0 then [] else (48 + m % 10) :: dg f (m / 10)
theorem dg_len : ∀ f m, (dg f m).length ≤ f
  | 0, _ => by simp [dg]
  | f + 1, m => by
    unfold dg
    split
    · simp
    · have := dg_len f (m / 10); simp; omega
theorem dg_zero (f : Nat) : dg f 0 = [] := by cases f <;> simp [dg]
/-- The digits, the last first, and the sign. -/
def rev (n : Int) : List Nat := dg 20 n.natAbs ++ (if n < 0 then [45] else [])
def itoa (n : Int) : List Nat := if n = 0 then [48] else (rev n).reverse
theorem rev_len (n : Int) : (rev n).length ≤ 21 := by
  unfold rev
  have := dg_len 20 n.natAbs
  split <;> simp <;> omega
theorem itoa_len (n : Int) : (itoa n).length ≤ 21 := by
  unfold itoa
  split
  · simp
  · rw [List.length_reverse]; exact rev_len n
end Tx
end Go.Proofs.Qxb6500343a
