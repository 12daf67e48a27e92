/-
  Walks 21: the ghost's Exported.
-/
import Derived.Test.Qxb6500342aV20
namespace Go.Proofs.Qxb6500342a
open Go.RowKit
open Go.Proofs
open Pl (Hd)
open Tx (st)
set_option linter.unusedSimpArgs false
set_option linter.unusedVariables false
attribute [local go_sem] alloc_drewN setCell_drewN shape?_drewN

def bs (X : Nat) : List Nat := [X / 281474976710656 % 256, X / 1099511627776 % 256, X / 4294967296 % 256, X / 16777216 % 256, X / 65536 % 256, X / 256 % 256, X % 256]
def InR (w : World) (S : List Nat) (X : Nat) (v k : Value) (wr : World) : Prop :=
  ∃ j : Nat, j ≤ 7 ∧ k = .int .i64 (6 - (j : Int)) ∧ Own wr w.heap.size v (S ++ (bs X).take j) ∧ Ext w wr
set_option maxRecDepth 100000 in
set_option maxHeartbeats 2000000 in
theorem exported_any (w : World) (g : Nat) (C : Array Value) (u : Nat) (H : Nat → Hd) (h : Hd) (img : ByteArray) (hg : GhAt w g C u H h img) : Calls Try.prog 45 #[.pointer (some ⟨g, 0, none⟩)] w fun e w' => e = .returned (.string (st (Im.exTo u H 8))) ∧ Ext w w' := by
  have HG : Hid (GhAt w g C u H h img) := hg
  have hx0 := Ext.refl w
  clear hg
  go_enter Try.func45, Try.ntmps45
  go_wp2
  go_loopw [3, 4] (fun v i wr => ExR w u H v i wr) (fun _ i _ => 8 - (intOf i).toNat)
  case atStart => exact ⟨0, by omega, rfl, Own.nil _ _, hx0⟩
  case round =>
    obtain ⟨k, hk, rfl, hown, hx⟩ := hrel
    have HO : Hid (Own wr w.heap.size _ (Im.exTo u H k)) := hown
    clear hown
    by_cases hlt8 : k < 8
    · have gc := HG.out.ext hx
      have gu : wr.cell? ⟨g, k, none⟩ = some (.bool (u.testBit k)) := (cell_of gc.heap _).trans (gc.gi.used k hlt8)
      have hk0 : (k : Int) < 8 := by omega
      have hd : decide ((k : Int) < 8) = true := decide_eq_true hk0
      cases hb : u.testBit k
      · have HT : Hid (Im.exTo u H (k + 1) = Im.exTo u H k) := by show _ = _; simp [Im.exTo, hb]
        rw [hb] at gu
        clear hb gc
        go_wp2
        go_roundw
        case rel => exact ⟨k + 1, by omega, by go_num, by rw [HT.out]; exact HO.out, hx⟩
        case measure => simp [intOf]; omega
      · have HT : Hid (Im.exTo u H (k + 1) = Im.exTo u H k ++ Im.recB k (Pl.packI (H k)).toNat) := by show _ = _; simp [Im.exTo, hb, Im.wordN]
        have r0 : wr.cell? ⟨g, 8 + k * 5, none⟩ = some (.int .i64 (H k).k) := (cell_of gc.heap _).trans (gc.gi.k k hlt8)
        have r1 : wr.cell? ⟨g, 8 + k * 5 + 1, none⟩ = some (.int .i64 (H k).d) := (cell_of gc.heap _).trans (gc.gi.d k hlt8)
        have r2 : wr.cell? ⟨g, 8 + k * 5 + 2, none⟩ = some (.int .i64 (H k).l) := (cell_of gc.heap _).trans (gc.gi.l k hlt8)
        have r3 : wr.cell? ⟨g, 8 + k * 5 + 3, none⟩ = some (.int .i64 (H k).f) := (cell_of gc.heap _).trans (gc.gi.f k hlt8)
        have r4 : wr.cell? ⟨g, 8 + k * 5 + 4, none⟩ = some (.int .i64 (H k).s) := (cell_of gc.heap _).trans (gc.gi.s k hlt8)
        rw [hb] at gu
        clear hb gc
        have hpr := Pl.pack_range (H k)
        obtain ⟨X, hX⟩ := Int.eq_ofNat_of_zero_le hpr.1
        rw [hX] at hpr
        have HX : Hid (Pl.packI (H k) = (X : Int)) := hX
        clear hX
        generalize hhk : H k = hh at *
        go_wp2_with fail
        refine (pack_any hh wr).mono ?_
        rintro e w2 ⟨rfl, x2⟩
        rw [HX.out]
        have O2 : Hid (Own w2 w.heap.size _ (Im.exTo u H k)) := HO.out.ext x2
        replace x2 := hx.trans x2
        have hl := Im.exTo_len u H k
        have hsz := x2.size
        clear r0 r1 r2 r3 r4 gu HO
        go_wp2_with (at_builtin; refine append_bytes rfl _ _ rfl w.heap.size _ (Im.exTo u H k) rfl (O2.out.ext ((Ext.refl _).alloc _)) ⟨w2.heap.size, 0, none⟩ 1 1 [k] rfl rfl (news_one _ _ _ ?c1) ?c2 ?c3 ?_)
        case c1 => first | rfl | (rw [wrap_u8_eq]; omega) | omega
        case c2 => simp; omega
        case c3 => first | omega | (simp; omega)
        intro v' w3 hown' hgr hext
        have X3 : Hid (Own w3 w.heap.size v' (Im.exTo u H k ++ [k]) ∧ Ext w w3) := ⟨hown', hext w (x2.alloc _) (Nat.le_refl _)⟩
        have HL : Hid ((Im.exTo u H k ++ [k]).length ≤ 100) := by show _ ≤ _; simp; omega
        have HT2 : Hid (Im.exTo u H (k + 1) = (Im.exTo u H k ++ [k]) ++ bs X) := by
          show _ = _
          rw [HT.out, HX.out]; simp [Im.recB, bs]
        clear hown' hgr hext O2 hl hsz x2 HT HX
        generalize Im.exTo u H k ++ [k] = S at *
        go_wp2
        go_loopw [3, 6] (fun v kk wr => InR w S X v kk wr) (fun _ kk _ => (intOf kk + 1).toNat)
        case atStart => exact ⟨0, by omega, rfl, by simpa using X3.out.1, X3.out.2⟩
        case round =>
          obtain ⟨j, hj, rfl, hown, hx4⟩ := hrel
          have HO4 : Hid (Own wr w.heap.size _ (S ++ (bs X).take j)) := hown
          clear hown
          have hsz := hx4.size
          by_cases hj7 : j < 7
          · have HL4 : Hid ((S ++ (bs X).take j).length ≤ 110) := by
              have := HL.out
              show _ ≤ _
              rw [List.length_append]
              have : ((bs X).take j).length ≤ 7 := by rw [List.length_take]; omega
              omega
            rcases (by omega : j = 0 ∨ j = 1 ∨ j = 2 ∨ j = 3 ∨ j = 4 ∨ j = 5 ∨ j = 6) with rfl | rfl | rfl | rfl | rfl | rfl | rfl
            · go_wp2_with (at_builtin; refine append_bytes rfl _ _ rfl w.heap.size _ (S ++ (bs X).take 0) rfl (HO4.out.ext ((Ext.refl _).alloc _)) ⟨wr.heap.size, 0, none⟩ 1 1 [X / 281474976710656 % 256] rfl rfl (news_one _ _ _ ?c1) ?c2 ?c3 ?_)
              case c1 => first | omega | (simp; omega)
              case c2 => have := HL4.out; rw [List.length_singleton]; omega
              case c3 => first | omega | (rw [World.size_alloc]; omega)
              intro v' w5 hown' hgr hext
              have X5 : Hid (Own w5 w.heap.size v' (S ++ (bs X).take 1) ∧ Ext w w5) := ⟨by simpa [bs] using hown', hext w (hx4.alloc _) (Nat.le_refl _)⟩
              clear hown' hgr hext
              go_wp2
              go_roundw
              case rel =>
                have hrel' : InR w S X v' (.int .i64 (5)) w5 := ⟨1, by omega, by simp, X5.out.1, X5.out.2⟩
                first | exact hrel' | ((repeat apply Exists.intro); exact ⟨hrel', rfl⟩)
              case measure => simp [intOf]
            · go_wp2_with (at_builtin; refine append_bytes rfl _ _ rfl w.heap.size _ (S ++ (bs X).take 1) rfl (HO4.out.ext ((Ext.refl _).alloc _)) ⟨wr.heap.size, 0, none⟩ 1 1 [X / 1099511627776 % 256] rfl rfl (news_one _ _ _ ?c1) ?c2 ?c3 ?_)
              case c1 => first | omega | (simp; omega)
              case c2 => have := HL4.out; rw [List.length_singleton]; omega
              case c3 => first | omega | (rw [World.size_alloc]; omega)
              intro v' w5 hown' hgr hext
              have X5 : Hid (Own w5 w.heap.size v' (S ++ (bs X).take 2) ∧ Ext w w5) := ⟨by simpa [bs] using hown', hext w (hx4.alloc _) (Nat.le_refl _)⟩
              clear hown' hgr hext
              go_wp2
              go_roundw
              case rel =>
                have hrel' : InR w S X v' (.int .i64 (4)) w5 := ⟨2, by omega, by simp, X5.out.1, X5.out.2⟩
                first | exact hrel' | ((repeat apply Exists.intro); exact ⟨hrel', rfl⟩)
              case measure => simp [intOf]
            · go_wp2_with (at_builtin; refine append_bytes rfl _ _ rfl w.heap.size _ (S ++ (bs X).take 2) rfl (HO4.out.ext ((Ext.refl _).alloc _)) ⟨wr.heap.size, 0, none⟩ 1 1 [X / 4294967296 % 256] rfl rfl (news_one _ _ _ ?c1) ?c2 ?c3 ?_)
              case c1 => first | omega | (simp; omega)
              case c2 => have := HL4.out; rw [List.length_singleton]; omega
              case c3 => first | omega | (rw [World.size_alloc]; omega)
              intro v' w5 hown' hgr hext
              have X5 : Hid (Own w5 w.heap.size v' (S ++ (bs X).take 3) ∧ Ext w w5) := ⟨by simpa [bs] using hown', hext w (hx4.alloc _) (Nat.le_refl _)⟩
              clear hown' hgr hext
              go_wp2
              go_roundw
              case rel =>
                have hrel' : InR w S X v' (.int .i64 (3)) w5 := ⟨3, by omega, by simp, X5.out.1, X5.out.2⟩
                first | exact hrel' | ((repeat apply Exists.intro); exact ⟨hrel', rfl⟩)
              case measure => simp [intOf]
            · go_wp2_with (at_builtin; refine append_bytes rfl _ _ rfl w.heap.size _ (S ++ (bs X).take 3) rfl (HO4.out.ext ((Ext.refl _).alloc _)) ⟨wr.heap.size, 0, none⟩ 1 1 [X / 16777216 % 256] rfl rfl (news_one _ _ _ ?c1) ?c2 ?c3 ?_)
              case c1 => first | omega | (simp; omega)
              case c2 => have := HL4.out; rw [List.length_singleton]; omega
              case c3 => first | omega | (rw [World.size_alloc]; omega)
              intro v' w5 hown' hgr hext
              have X5 : Hid (Own w5 w.heap.size v' (S ++ (bs X).take 4) ∧ Ext w w5) := ⟨by simpa [bs] using hown', hext w (hx4.alloc _) (Nat.le_refl _)⟩
              clear hown' hgr hext
              go_wp2
              go_roundw
              case rel =>
                have hrel' : InR w S X v' (.int .i64 (2)) w5 := ⟨4, by omega, by simp, X5.out.1, X5.out.2⟩
                first | exact hrel' | ((repeat apply Exists.intro); exact ⟨hrel', rfl⟩)
              case measure => simp [intOf]
            · go_wp2_with (at_builtin; refine append_bytes rfl _ _ rfl w.heap.size _ (S ++ (bs X).take 4) rfl (HO4.out.ext ((Ext.refl _).alloc _)) ⟨wr.heap.size, 0, none⟩ 1 1 [X / 65536 % 256] rfl rfl (news_one _ _ _ ?c1) ?c2 ?c3 ?_)
              case c1 => first | omega | (simp; omega)
              case c2 => have := HL4.out; rw [List.length_singleton]; omega
              case c3 => first | omega | (rw [World.size_alloc]; omega)
              intro v' w5 hown' hgr hext
              have X5 : Hid (Own w5 w.heap.size v' (S ++ (bs X).take 5) ∧ Ext w w5) := ⟨by simpa [bs] using hown', hext w (hx4.alloc _) (Nat.le_refl _)⟩
              clear hown' hgr hext
              go_wp2
              go_roundw
              case rel =>
                have hrel' : InR w S X v' (.int .i64 (1)) w5 := ⟨5, by omega, by simp, X5.out.1, X5.out.2⟩
                first | exact hrel' | ((repeat apply Exists.intro); exact ⟨hrel', rfl⟩)
              case measure => simp [intOf]
            · go_wp2_with (at_builtin; refine append_bytes rfl _ _ rfl w.heap.size _ (S ++ (bs X).take 5) rfl (HO4.out.ext ((Ext.refl _).alloc _)) ⟨wr.heap.size, 0, none⟩ 1 1 [X / 256 % 256] rfl rfl (news_one _ _ _ ?c1) ?c2 ?c3 ?_)
              case c1 => first | omega | (simp; omega)
              case c2 => have := HL4.out; rw [List.length_singleton]; omega
              case c3 => first | omega | (rw [World.size_alloc]; omega)
              intro v' w5 hown' hgr hext
              have X5 : Hid (Own w5 w.heap.size v' (S ++ (bs X).take 6) ∧ Ext w w5) := ⟨by simpa [bs] using hown', hext w (hx4.alloc _) (Nat.le_refl _)⟩
              clear hown' hgr hext
              go_wp2
              go_roundw
              case rel =>
                have hrel' : InR w S X v' (.int .i64 (0)) w5 := ⟨6, by omega, by simp, X5.out.1, X5.out.2⟩
                first | exact hrel' | ((repeat apply Exists.intro); exact ⟨hrel', rfl⟩)
              case measure => simp [intOf]
            · go_wp2_with (at_builtin; refine append_bytes rfl _ _ rfl w.heap.size _ (S ++ (bs X).take 6) rfl (HO4.out.ext ((Ext.refl _).alloc _)) ⟨wr.heap.size, 0, none⟩ 1 1 [X % 256] rfl rfl (news_one _ _ _ ?c1) ?c2 ?c3 ?_)
              case c1 => first | omega | (simp; omega)
              case c2 => have := HL4.out; rw [List.length_singleton]; omega
              case c3 => first | omega | (rw [World.size_alloc]; omega)
              intro v' w5 hown' hgr hext
              have X5 : Hid (Own w5 w.heap.size v' (S ++ (bs X).take 7) ∧ Ext w w5) := ⟨by simpa [bs] using hown', hext w (hx4.alloc _) (Nat.le_refl _)⟩
              clear hown' hgr hext
              go_wp2
              go_roundw
              case rel =>
                have hrel' : InR w S X v' (.int .i64 (-1)) w5 := ⟨7, by omega, by simp, X5.out.1, X5.out.2⟩
                first | exact hrel' | ((repeat apply Exists.intro); exact ⟨hrel', rfl⟩)
              case measure => simp [intOf]
          · have hj8 : j = 7 := by omega
            subst hj8
            go_wp2
            go_roundw
            case rel =>
              have hrel' : ExR w u H _ (.int .i64 ((k : Int) + 1)) wr := ⟨k + 1, by omega, by go_num, by rw [HT2.out]; exact HO4.out, hx4⟩
              first | exact hrel' | ((repeat apply Exists.intro); exact ⟨hrel', rfl⟩)
            case measure => simp [intOf]; omega
    · have hk8 : k = 8 := by omega
      subst hk8
      have hcv := conv_own wr _ _ _ HO.out
      go_wp2
      go_ret
      exact ⟨rfl, hx⟩
end Go.Proofs.Qxb6500342a
