/-
  The model answers as the store does.
-/
import Derived.Test.Qxb6500342aM8
namespace Go.Proofs.Qxb6500342a
open Go.RowKit
open Go.Proofs
open Pl (Hd)
open Tx (st)
set_option linter.unusedSimpArgs false
set_option linter.unusedVariables false
attribute [local go_sem] alloc_drewN setCell_drewN shape?_drewN

/-- The two sides' headers agree on the slots in use. -/
def Agree (u : Nat) (G H : Nat → Hd) : Prop := ∀ i, i < 8 → u.testBit i = true → G i = H i
theorem Agree.refl (u : Nat) (H : Nat → Hd) : Agree u H H := fun _ _ _ => rfl
theorem getH_agree {u : Nat} {G H : Nat → Hd} (ha : Agree u G H) (n : Int) : getH u G n = getH u H n := by
  unfold getH
  split
  · rename_i hz
    obtain ⟨m, rfl, hm, hb⟩ := atE_zero hz
    rw [Int.toNat_natCast]
    exact ha m hm hb
  · rfl
theorem agree_put {u : Nat} {G H : Nat → Hd} (hu : u < 256) (ha : Agree u G H) (h : Hd) : (sPut u G h).a = (sPut u H h).a ∧ (sPut u G h).u = (sPut u H h).u ∧ Agree (sPut u H h).u (sPut u G h).H (sPut u H h).H := by
  unfold sPut
  split
  · split
    · rename_i hl
      refine ⟨rfl, rfl, fun i hi hb => ?_⟩
      simp only at hb ⊢
      unfold upd
      split
      · rfl
      · rename_i hne
        rw [addB_bit hu hl i hi, if_neg hne] at hb
        exact ha i hi hb
    · exact ⟨rfl, rfl, ha⟩
  · exact ⟨rfl, rfl, ha⟩
theorem agree_drop {u : Nat} {G H : Nat → Hd} (hu : u < 256) (ha : Agree u G H) (n : Int) : (mDrop u G n).a = (sDrop u H n).a ∧ (mDrop u G n).u = (sDrop u H n).u ∧ Agree (sDrop u H n).u (mDrop u G n).H (sDrop u H n).H := by
  unfold mDrop sDrop
  refine ⟨rfl, rfl, fun i hi hb => ?_⟩
  simp only at hb ⊢
  split
  · rename_i hz
    rw [if_pos hz] at hb
    obtain ⟨m, rfl, hm, _⟩ := atE_zero hz
    rw [Int.toNat_natCast] at hb ⊢
    rw [remB_bit hu hm i hi] at hb
    by_cases e : i = m
    · rw [if_pos e] at hb; cases hb
    · rw [if_neg e] at hb
      unfold upd
      rw [if_neg e]
      exact ha i hi hb
  · rename_i hz
    rw [if_neg hz] at hb
    exact ha i hi hb
theorem agree_bump {u : Nat} {G H : Nat → Hd} (hu : u < 256) (ha : Agree u G H) (n d : Int) : (sBump u G n d).a = (sBump u H n d).a ∧ (sBump u G n d).u = (sBump u H n d).u ∧ Agree (sBump u H n d).u (sBump u G n d).H (sBump u H n d).H := by
  unfold sBump
  refine ⟨rfl, rfl, fun i hi hb => ?_⟩
  simp only at hb ⊢
  split
  · rename_i hz
    obtain ⟨m, rfl, hm, hmb⟩ := atE_zero hz
    rw [Int.toNat_natCast]
    unfold upd
    by_cases e : i = m
    · rw [if_pos e, if_pos e, ha m hm hmb]
    · rw [if_neg e, if_neg e]; exact ha i hi hb
  · exact ha i hi hb
theorem impH_agree {s : ByteArray} (hz : Im.judge s.size (Bf s) = 0) (G H : Nat → Hd) : Agree (Im.impU (Bf s) (s.size / 8)) (Im.impH (Bf s) G (s.size / 8)) (Im.impH (Bf s) H (s.size / 8)) := by
  intro i hi hb
  have hr := (Im.rises_of hz).2.2
  rw [Im.impU_bit, decide_eq_true_eq] at hb
  obtain ⟨k, hk, rfl⟩ := hb
  rw [Im.impH_at hr _ (Nat.le_refl _) k hk, Im.impH_at hr _ (Nat.le_refl _) k hk]
theorem agree_imp {u : Nat} {G H : Nat → Hd} (ha : Agree u G H) (s : ByteArray) : (mImp u G s).a = (sImp u H s).a ∧ (mImp u G s).u = (sImp u H s).u ∧ Agree (sImp u H s).u (mImp u G s).H (sImp u H s).H := by
  unfold mImp sImp
  refine ⟨rfl, rfl, ?_⟩
  simp only
  split
  · rename_i hz; exact impH_agree hz _ _
  · exact ha
theorem agree_step {u : Nat} {G H : Nat → Hd} (hu : u < 256) (ha : Agree u G H) (h : Hd) (img : ByteArray) (o : Stp) : (stepM u G h img o).a = (step u H h img o).a ∧ (stepM u G h img o).u = (step u H h img o).u ∧ Agree (step u H h img o).u (stepM u G h img o).H (step u H h img o).H := by
  unfold stepM step
  split
  · exact agree_put hu ha h
  split
  · unfold sGet; rw [getH_agree ha]; exact ⟨rfl, rfl, ha⟩
  split
  · exact agree_drop hu ha _
  split
  · exact agree_bump hu ha _ _
  split
  · exact ⟨rfl, rfl, ha⟩
  split
  · rw [Im.exTo_congr u u G H 8 (fun _ _ => rfl) (fun i hi hb => ha i (by omega) hb)]; exact ⟨rfl, rfl, ha⟩
  split
  · exact agree_imp ha _
  split
  · exact agree_imp ha _
  split
  · rw [Tx.showTo_congr u G H 8 (fun i hi hb => ha i (by omega) hb)]; exact ⟨rfl, rfl, ha⟩
  split
  · exact ⟨rfl, rfl, ha⟩
  · exact ⟨rfl, rfl, ha⟩
theorem Gd.of {w : World} {q : SId} {u : Nat} {G H : Nat → Hd} (hs : StAt w q u H) (ha : Agree u G H) : Gd u G :=
  ⟨hs.lt, fun i hi hb => by rw [ha i hi hb]; exact hs.good i hi hb⟩
theorem atE_bit {u k : Nat} (hu : u < 256) (hk : k < 64) : (atE u (k : Int) == 0) = u.testBit k := by
  unfold atE
  by_cases h8 : k < 8
  · rw [if_neg (by omega), Int.toNat_natCast]
    cases u.testBit k <;> rfl
  · rw [if_pos (.inr (by omega)), Nat.testBit_lt_two_pow (Nat.lt_of_lt_of_le hu (Nat.le_trans (by decide : 256 ≤ 2 ^ 8) (Nat.pow_le_pow_right (by decide) (by omega))))]
    rfl
set_option maxRecDepth 100000 in
set_option maxHeartbeats 1000000 in
theorem handed_any (w : World) (b m u : Nat) (G : Nat → Hd) (hb : BoardAt w b u) (hm : MX w m u G) (hg : Gd u G) : Calls Try.prog 49 #[.agg #[.pointer (some ⟨b, 0, none⟩)], .pointer (some ⟨m, 0, none⟩)] w fun e w' => e = .returned (.bool true) ∧ Ext w w' := by
  have HB : Hid (BoardAt w b u ∧ MX w m u G ∧ Gd u G) := ⟨hb, hm, hg⟩
  clear hb hm hg
  go_enter Try.func49, Try.ntmps49
  go_wp2
  go_loopw [5] (fun i wr => ∃ k : Nat, k ≤ 64 ∧ i = .int .i64 k ∧ Ext w wr ∧ wr.heap[w.heap.size]? = some (.cells #[.pointer (some ⟨b, 0, none⟩)] 48)) (fun i _ => 64 - (intOf i).toNat)
  case atStart => exact ⟨0, by omega, rfl, (Ext.refl w).alloc _, heap_alloc_new w _⟩
  case round =>
    obtain ⟨k, hk, rfl, hx, hz⟩ := hrel
    have HX : Hid (Ext w wr ∧ wr.heap[w.heap.size]? = some (.cells #[.pointer (some ⟨b, 0, none⟩)] 48)) := ⟨hx, hz⟩
    clear hx hz
    by_cases hlt : k < 64
    · have hk0 : (k : Int) < 64 := by omega
      have hd : decide ((k : Int) < 64) = true := decide_eq_true hk0
      go_wp2_with fail
      refine (xget wr m u G (k : Int) HB.out.2.2 (HB.out.2.1.ext HX.out.1)).mono ?_
      rintro e w1 ⟨rfl, x1⟩
      have X1 : Hid (Ext w w1 ∧ w1.heap[w.heap.size]? = some (.cells #[.pointer (some ⟨b, 0, none⟩)] 48)) := ⟨HX.out.1.trans x1, x1.heap HX.out.2⟩
      have hl := lt_of_heap X1.out.2
      have c0 : w1.cell? ⟨w.heap.size, 0, none⟩ = some (.pointer (some ⟨b, 0, none⟩)) := cell_of X1.out.2 0
      have HE : Hid ((atE u (k : Int) == 0) = u.testBit k) := atE_bit HB.out.2.2.1 hlt
      clear x1 HX
      generalize getH u G (k : Int) = x at *
      unfold hdV
      generalize atE u (k : Int) = e at *
      go_wp2_with fail
      refine (has_in _ b u k (HB.out.1.ext (X1.out.1.alloc _)) (by have := HB.out.2.2.1; omega) hlt).mono ?_
      rintro e2 w2 ⟨rfl, x2⟩
      have X2 : Hid (Ext w w2 ∧ w2.heap[w.heap.size]? = some (.cells #[.pointer (some ⟨b, 0, none⟩)] 48)) := ⟨(X1.out.1.alloc _).trans x2, x2.heap (heap_alloc_lt X1.out.2)⟩
      have he : (e == 0) = u.testBit k := HE.out
      clear x2 c0 hl HE
      generalize u.testBit k = t at *
      go_wp2
      go_roundw
      case rel => exact ⟨k + 1, by omega, by go_num, X2.out⟩
      case measure => simp [intOf]; omega
    · have hk8 : k = 64 := by omega
      subst hk8
      go_wp2
      go_ret
      exact ⟨rfl, HX.out.1⟩
end Go.Proofs.Qxb6500342a
