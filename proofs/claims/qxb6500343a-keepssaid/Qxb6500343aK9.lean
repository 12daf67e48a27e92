/-
  Walks of Keeps 9: Bounds of an empty box.
-/
import Derived.Test.Qxb6500343aK8
namespace Go.Proofs.Qxb6500343a
open Go.RowKit
open Go.Proofs
open Ieee (Datum)
open Fl
open Tx (st)
open Ff (in64)
set_option linter.unusedSimpArgs false
set_option linter.unusedVariables false
attribute [local go_sem] run_fadd run_fsub run_fmul run_fquo run_store_float alloc_drewN setCell_drewN shape?_drewN tape_alloc drawn_alloc tape_setCell drawn_setCell drawn_drewN drawn_drew run_fneg

theorem showB_zero (ax ay : Pl.AX) : st (showB 0 ax ay) = { data := #[110, 61] } ++ st (Tx.itoa ((0 : Nat) : Int)) := by
  unfold showB
  rw [if_pos rfl, ← Tx.st_append]; rfl
set_option maxRecDepth 100000 in
set_option maxHeartbeats 16000000 in
theorem bounds_none (w : World) (B : Nat) (i : BId) (h : HId) (hb : BoxAt w i (Pl.lv []) (Pl.lv [])) (hp : PairAt w B h [] []) (dis : ∀ k, k ∈ i.all → k ∉ h.all) :
    Calls Try.prog 23 #[.pointer (some ⟨i.b, 0, none⟩), .agg #[.pointer (some ⟨h.mx, 0, none⟩), .pointer (some ⟨h.my, 0, none⟩)]] w fun e w' => e = .returned (.bool true) ∧ BoxAt w' i (Pl.lv []) (Pl.lv []) ∧ PairAt w' B h [] [] ∧ Chg [h.mx, h.my] w w' := by
  have B0 : Hid _ := Bst.new hb hp dis
  clear hb hp dis
  go_enter Try.func23, Try.ntmps23
  go_wp2_with fail
  refine (smlen_any _ B h.mx h.vx [] B0.out.p.sx).mono ?_
  rintro e w1 ⟨rfl, x1⟩
  rw [show ((([] : List Datum).length : Nat) : Int) = 0 from rfl]
  have B1 : Hid (Bst w w1 B i h [] []) := B0.out.ext x1
  clear x1 B0
  go_wp2_with fail
  refine (e_len _ i [] [] B1.out.b).mono ?_
  rintro e w2 ⟨rfl, x2⟩
  rw [show ((([] : List Datum).length : Nat) : Int) = 0 from rfl]
  have B2 : Hid (Bst w w2 B i h [] []) := B1.out.ext x2
  clear x2 B1
  go_wp2_with fail
  refine (e_corner _ i [] [] 0 B2.out.b).mono ?_
  rintro e w3 ⟨lx, rfl, hlx, x3⟩
  have B3 : Hid (Bst w w3 B i h [] []) := B2.out.ext x3
  clear x3 hlx B2
  generalize (corner (AX []) (AX []) ([] : List Datum).isEmpty 0).2 = E0
  go_wp2_with fail
  refine (e_corner _ i [] [] 1 B3.out.b).mono ?_
  rintro e w4 ⟨ly, rfl, hly, x4⟩
  have B4 : Hid (Bst w w4 B i h [] []) := B3.out.ext x4
  clear x4 hly B3
  generalize (corner (AX []) (AX []) ([] : List Datum).isEmpty 1).2 = E1
  go_wp2_with fail
  refine (e_corner _ i [] [] 2 B4.out.b).mono ?_
  rintro e w5 ⟨hx, rfl, hhx, x5⟩
  have B5 : Hid (Bst w w5 B i h [] []) := B4.out.ext x5
  clear x5 hhx B4
  generalize (corner (AX []) (AX []) ([] : List Datum).isEmpty 2).2 = E2
  go_wp2_with fail
  refine (e_corner _ i [] [] 3 B5.out.b).mono ?_
  rintro e w6 ⟨hy, rfl, hhy, x6⟩
  have B6 : Hid (Bst w w6 B i h [] []) := B5.out.ext x6
  clear x6 hhy B5
  generalize (corner (AX []) (AX []) ([] : List Datum).isEmpty 3).2 = E3
  go_wp2_with fail
  refine (itoa_all 0 (by unfold in64; omega) _).mono ?_
  rintro e w7 ⟨rfl, x7⟩
  have B7 : Hid (Bst w w7 B i h [] []) := B6.out.ext x7
  have L1 : (st (Tx.itoa 0)).size ≤ 21 := by rw [Tx.st_size]; exact Tx.itoa_len _
  have HT : Hid (st (showB ([] : List Datum).length (AX []) (AX [])) = { data := #[110, 61] } ++ st (Tx.itoa 0)) := showB_zero _ _
  generalize st (Tx.itoa 0) = A at *
  clear x7 B6
  go_wp2_with fail
  refine (e_show _ i [] [] B7.out.b).mono ?_
  rintro e w8 ⟨rfl, x8⟩
  rw [HT.out]
  have B8 : Hid (Bst w w8 B i h [] []) := B7.out.ext x8
  clear x8 B7
  generalize { data := #[110, 61] } ++ A = SH at *
  go_wp2
  go_loopw [27, 28] (fun t i wr => t = .int .i64 0 ∧ i = .int .i64 0 ∧ wr = w8) (fun _ _ _ => 0)
  case atStart => exact ⟨rfl, rfl, rfl⟩
  case round =>
    obtain ⟨rfl, rfl, rfl⟩ := hrel
    obtain ⟨c0, c1⟩ := B8.out.cells
    go_wp2_with fail
    refine (smwhole wr B h.mx h.vx [] B8.out.p.sx).mono ?_
    rintro e wg ⟨K, f, rfl, hK, hwg⟩
    subst hwg
    clear hK
    go_wp2
    go_ret
    exact ⟨rfl, B8.out.b, B8.out.p, B8.out.c⟩
theorem bounds_any (w : World) (B : Nat) (i : BId) (h : HId) (xs ys : List Datum) (hb : BoxAt w i (Pl.lv xs) (Pl.lv ys)) (hp : PairAt w B h xs ys) (dis : ∀ k, k ∈ i.all → k ∉ h.all) (rx : Pl.Rat xs) (ry : Pl.Rat ys) :
    Calls Try.prog 23 #[.pointer (some ⟨i.b, 0, none⟩), .agg #[.pointer (some ⟨h.mx, 0, none⟩), .pointer (some ⟨h.my, 0, none⟩)]] w fun e w' => e = .returned (.bool true) ∧ BoxAt w' i (Pl.lv xs) (Pl.lv ys) ∧ PairAt w' B h xs ys ∧ Chg [h.mx, h.my] w w' := by
  by_cases hn : xs.length = 0
  · have e1 := nil_of hn
    have e2 := nil_of (hp.len.trans hn)
    subst e1 e2
    exact bounds_none w B i h hb hp dis
  · exact bounds_some w B i h xs ys hb hp dis (by omega) rx ry
end Go.Proofs.Qxb6500343a
