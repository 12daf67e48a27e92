/-
  A string's bytes, as the list of its numbers.
-/
import Derived.Test.Qxb6500342aV20
namespace Go.Proofs.Qxb6500342a
open Go.RowKit
open Go.Proofs
open Pl (Hd)
open Tx (st)
theorem bytesTo_range (B : Nat → Nat) : ∀ k, Im.bytesTo B k = (List.range (8 * k)).map B
  | 0 => rfl
  | k + 1 => by
    rw [show 8 * (k + 1) = 8 * k + 8 from by omega, List.range_add, List.map_append, ← bytesTo_range B k]
    simp [Im.bytesTo, List.range_succ]
theorem st_Bf (s : ByteArray) : st ((List.range s.size).map (Bf s)) = s := by
  obtain ⟨⟨l⟩⟩ := s
  simp only [st, ByteArray.size]
  congr 1
  apply Array.ext'
  simp only [List.map_map]
  apply List.ext_getElem?
  intro i
  simp only [List.getElem?_map, List.size_toArray]
  by_cases h : i < l.length
  · rw [List.getElem?_range h]
    simp [Bf, h]
  · rw [List.getElem?_eq_none (by simpa using h), List.getElem?_eq_none (by simpa using h)]; rfl
theorem st_bytesTo (s : ByteArray) (n : Nat) (h : s.size = 8 * n) : st (Im.bytesTo (Bf s) n) = s := by
  rw [bytesTo_range, ← h, st_Bf]
theorem ex_imp (s : ByteArray) (H0 : Nat → Hd) (hz : Im.judge s.size (Bf s) = 0) : st (Im.exTo (Im.impU (Bf s) (s.size / 8)) (Im.impH (Bf s) H0 (s.size / 8)) 8) = s := by
  obtain ⟨_, h1, h2⟩ := Im.rises_of hz
  rw [Im.exTo_imp (Bf_lt s) h2 _ (Nat.le_refl _) 8 (Nat.le_refl _) (fun i hi => h2.1 i hi)]
  exact st_bytesTo s _ h1
end Go.Proofs.Qxb6500342a
