/-
  The plain functions of the store: headers, packed words.
-/
import Derived.Laws.BitsAllLaws
import Derived.Laws.BitsLemmas
namespace Go.Proofs.Qxb6500342a
namespace Pl
/-- A header: five ints. -/
structure Hd where
  k : Int
  d : Int
  l : Int
  f : Int
  s : Int
def zeroH : Hd := ⟨0, 0, 0, 0, 0⟩
def good (h : Hd) : Bool := decide (-128 ≤ h.k) && decide (h.k ≤ 127) && decide (-32768 ≤ h.d) && decide (h.d ≤ 32767) && decide (0 ≤ h.l) && decide (h.l ≤ 65535) && decide (0 ≤ h.f) && decide (h.f ≤ 31) && decide (0 ≤ h.s) && decide (h.s ≤ 2047)
theorem good_iff (h : Hd) : good h = true ↔ (-128 ≤ h.k ∧ h.k ≤ 127 ∧ -32768 ≤ h.d ∧ h.d ≤ 32767 ∧ 0 ≤ h.l ∧ h.l ≤ 65535 ∧ 0 ≤ h.f ∧ h.f ≤ 31 ∧ 0 ≤ h.s ∧ h.s ≤ 2047) := by
  simp only [good, Bool.and_eq_true, decide_eq_true_eq]
  constructor
  · intro h; omega
  · intro h; omega
/-- The packed word, of any header: each field's low bits. -/
def packI (h : Hd) : Int := h.k % 256 + (h.d % 65536) * 256 + (h.l % 65536) * 16777216 + (h.f % 32) * 1099511627776 + (h.s % 2048) * 35184372088832
def sx8 (n : Int) : Int := (n + 128) % 256 - 128
def sx16 (n : Int) : Int := (n + 32768) % 65536 - 32768
/-- The header of a word. -/
def unpackI (w : Int) : Hd := ⟨sx8 w, sx16 (w / 256), w / 16777216 % 65536, w / 1099511627776 % 32, w / 35184372088832 % 2048⟩
theorem pack_range (h : Hd) : 0 ≤ packI h ∧ packI h < 72057594037927936 := by unfold packI; omega
theorem pack_unpack (w : Int) (h0 : 0 ≤ w) (h1 : w < 72057594037927936) : packI (unpackI w) = w := by
  unfold packI unpackI sx8 sx16
  dsimp only
  omega
theorem unpack_pack (h : Hd) (hg : good h = true) : unpackI (packI h) = h := by
  have hg := (good_iff h).1 hg
  obtain ⟨k, d, l, f, s⟩ := h
  simp only at hg
  unfold packI unpackI sx8 sx16
  simp only [Hd.mk.injEq]
  omega
theorem good_unpack (w : Int) : good (unpackI w) = true := by
  rw [good_iff]
  unfold unpackI sx8 sx16
  dsimp only
  omega
/-- What Bump makes of a header. -/
def bumpH (h : Hd) (d : Int) : Hd := ⟨h.k, sx16 (h.d + d), if h.l < 65535 then h.l + 1 else h.l, if h.f % 2 = 0 then h.f + 1 else h.f - 1, (h.s + 1) % 2048⟩
theorem good_bump (h : Hd) (d : Int) (hg : good h = true) : good (bumpH h d) = true := by
  rw [good_iff] at *
  unfold bumpH sx16
  dsimp only
  split <;> split <;> omega
end Pl
end Go.Proofs.Qxb6500342a
