/-
  Walks 26: Owed, all five kinds; Kept over them.
-/
import Derived.Test.Qxb6500342aV22
import Derived.Test.Qxb6500342aV23
import Derived.Test.Qxb6500342aV24
import Derived.Test.Qxb6500342aV25
namespace Go.Proofs.Qxb6500342a
open Go.RowKit
open Go.Proofs
open Pl (Hd)
open Tx (st)
set_option linter.unusedSimpArgs false
set_option linter.unusedVariables false
attribute [local go_sem] alloc_drewN setCell_drewN shape?_drewN

theorem atE_cases (u : Nat) (n : Int) : (n < 0 ∧ atE u n = 2) ∨ (8 ≤ n ∧ atE u n = 2) ∨ (∃ m : Nat, m < 8 ∧ n = m ∧ u.testBit m = false ∧ atE u n = 8) ∨ (∃ m : Nat, m < 8 ∧ n = m ∧ u.testBit m = true ∧ atE u n = 0) := by
  by_cases h0 : n < 0
  · exact .inl ⟨h0, by simp [atE, h0]⟩
  · by_cases h8 : 8 ≤ n
    · exact .inr (.inl ⟨h8, by simp [atE, h8]⟩)
    · obtain ⟨m, rfl⟩ := Int.eq_ofNat_of_zero_le (show 0 ≤ n by omega)
      have hm : m < 8 := by omega
      cases hb : u.testBit m
      · exact .inr (.inr (.inl ⟨m, hm, rfl, hb, by simp only [atE]; rw [if_neg (by omega)]; simp [hb]⟩))
      · exact .inr (.inr (.inr ⟨m, hm, rfl, hb, by simp only [atE]; rw [if_neg (by omega)]; simp [hb]⟩))
def five (k : Int) : Prop := k = 4 ∨ k = 5 ∨ k = 6 ∨ k = 7 ∨ k = 8
theorem owed_any (w : World) (g : Nat) (C : Array Value) (u : Nat) (H : Nat → Hd) (h : Hd) (img : ByteArray) (o : Stp) (hg : GhAt w g C u H h img) (hu : u < 256) (ha : in64 o.a) (hb : in64 o.b) (hgd : ∀ i, i < 8 → u.testBit i = true → Pl.good (H i) = true) (hk : five o.k) :
    Calls Try.prog 43 #[.pointer (some ⟨g, 0, none⟩), opV o] w fun e w' => e = .returned (anV (step u H h img o).a) ∧ (∃ C', GhAt w' g C' (step u H h img o).u (step u H h img o).H h img) ∧ Chg [g] w w' := by
  rcases hk with hk | hk | hk | hk | hk
  · simp only [step, hk, if_true]
    cases hgo : Pl.good h
    · simp only [sPut, hgo, Bool.false_eq_true, if_false]
      exact owed_putbad w g C u H h img o hg hu hk ha hb hgd hgo
    · by_cases hl : Bd.low u < 8
      · simp only [sPut, hgo, if_true, if_pos hl]
        exact owed_putok w g C u H h img o hg hu hk ha hb hgd hgo hl
      · simp only [sPut, hgo, if_true, if_neg hl]
        exact owed_putfull w g C u H h img o hg hu hk ha hb hgd hgo hl
  · have e : step u H h img o = sGet u H o.a := by simp [step, hk]
    rw [e]
    rcases atE_cases u o.a with ⟨h0, hz⟩ | ⟨h8, hz⟩ | ⟨m, hm, hma, hbit, hz⟩ | ⟨m, hm, hma, hbit, hz⟩
    · simp only [sGet, hz, getH]
      exact owed_getneg w g C u H h img o hg hu hk ha hb hgd h0
    · simp only [sGet, hz, getH]
      exact owed_getbig w g C u H h img o hg hu hk ha hb hgd h8
    · simp only [sGet, hz, getH]
      exact owed_getoff w g C u H h img o hg hu hk ha hb hgd m hm hma hbit
    · rw [hma] at hz
      simp only [sGet, hz, getH, if_true, hma, Int.toNat_natCast]
      exact owed_geton w g C u H h img o hg hu hk ha hb hgd m hm hma hbit
  · have e : step u H h img o = sDrop u H o.a := by simp [step, hk]
    rw [e]
    rcases atE_cases u o.a with ⟨h0, hz⟩ | ⟨h8, hz⟩ | ⟨m, hm, hma, hbit, hz⟩ | ⟨m, hm, hma, hbit, hz⟩
    · simp only [sDrop, hz]
      exact owed_dropneg w g C u H h img o hg hu hk ha hb hgd h0
    · simp only [sDrop, hz]
      exact owed_dropbig w g C u H h img o hg hu hk ha hb hgd h8
    · simp only [sDrop, hz]
      exact owed_dropoff w g C u H h img o hg hu hk ha hb hgd m hm hma hbit
    · rw [hma] at hz
      simp only [sDrop, hz, if_true, hma, Int.toNat_natCast]
      exact owed_dropon w g C u H h img o hg hu hk ha hb hgd m hm hma hbit
  · have e : step u H h img o = sBump u H o.a o.b := by simp [step, hk]
    rw [e]
    rcases atE_cases u o.a with ⟨h0, hz⟩ | ⟨h8, hz⟩ | ⟨m, hm, hma, hbit, hz⟩ | ⟨m, hm, hma, hbit, hz⟩
    · simp only [sBump, hz]
      exact owed_bumpneg w g C u H h img o hg hu hk ha hb hgd h0
    · simp only [sBump, hz]
      exact owed_bumpbig w g C u H h img o hg hu hk ha hb hgd h8
    · simp only [sBump, hz]
      exact owed_bumpoff w g C u H h img o hg hu hk ha hb hgd m hm hma hbit
    · rw [hma] at hz
      simp only [sBump, hz, if_true, hma, Int.toNat_natCast]
      exact owed_bumpon w g C u H h img o hg hu hk ha hb hgd m hm hma hbit
  · have e : step u H h img o = ⟨⟨0, Bd.cnt u, []⟩, u, H⟩ := by simp [step, hk]
    rw [e]
    exact owed_len w g C u H h img o hg hu hk ha hb hgd
end Go.Proofs.Qxb6500342a
