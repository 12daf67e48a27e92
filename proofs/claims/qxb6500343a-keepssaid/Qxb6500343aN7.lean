/-
  The model's box: Show.
-/
import Derived.Test.Qxb6500343aN6
namespace Go.Proofs.Qxb6500343a
open Go.RowKit
open Go.Proofs
open Ieee (Datum)
open Fl
open Tx (st)
open Ff (in64)
set_option linter.unusedSimpArgs false
set_option linter.unusedVariables false
attribute [local go_sem] run_fadd run_fsub run_fmul run_fquo run_store_float alloc_drewN setCell_drewN shape?_drewN tape_alloc drawn_alloc tape_setCell drawn_setCell drawn_drewN drawn_drew run_fneg

def shT (n : Nat) (ax ay : Pl.AX) : Nat → List Nat
  | 0 => [110, 61] ++ Tx.itoa n
  | 1 => [110, 61] ++ Tx.itoa n ++ [32] ++ text32 ax.lo
  | 2 => [110, 61] ++ Tx.itoa n ++ [32] ++ text32 ax.lo ++ [32] ++ text32 ay.lo
  | 3 => [110, 61] ++ Tx.itoa n ++ [32] ++ text32 ax.lo ++ [32] ++ text32 ay.lo ++ [32] ++ text32 ax.hi
  | _ => [110, 61] ++ Tx.itoa n ++ [32] ++ text32 ax.lo ++ [32] ++ text32 ay.lo ++ [32] ++ text32 ax.hi ++ [32] ++ text32 ay.hi
theorem shT_len (n : Nat) (ax ay : Pl.AX) (k : Nat) : (st (shT n ax ay k)).size ≤ 300 := by
  rw [Tx.st_size]
  have h1 := Tx.itoa_len n
  have h2 := text_len (to64 ax.lo)
  have h3 := text_len (to64 ay.lo)
  have h4 := text_len (to64 ax.hi)
  have h5 := text_len (to64 ay.hi)
  unfold shT
  split <;> simp only [List.length_append, List.length_cons, List.length_nil, text32] <;> omega
def SwR (w : World) (B : Nat) (i : BM) (xs ys : List Datum) (t k : Value) (wr : World) : Prop :=
  ∃ j : Nat, j ≤ 4 ∧ k = .int .i64 j ∧ t = .string (st (shT xs.length (Pl.axisOf (Pl.lv xs)) (Pl.axisOf (Pl.lv ys)) j)) ∧ BmAt wr B i xs ys ∧ Chg i.all w wr
set_option maxRecDepth 100000 in
set_option maxHeartbeats 4000000 in
theorem bmshow_any (w : World) (B : Nat) (i : BM) (xs ys : List Datum) (h : BmAt w B i xs ys) (hx : Pl.Rat xs) (hy : Pl.Rat ys) : Calls Try.prog 87 #[.pointer (some ⟨i.mb, 0, none⟩)] w fun e w' => e = .returned (.string (st (showB xs.length (Pl.axisOf (Pl.lv xs)) (Pl.axisOf (Pl.lv ys))))) ∧ BmAt w' B i xs ys ∧ Chg i.all w w' := by
  have H : Hid (BmAt w B i xs ys ∧ Pl.Rat xs ∧ Pl.Rat ys) := ⟨h, hx, hy⟩
  have hl8 := h.sx.len
  have g0 : w.cell? ⟨i.mb, 0, none⟩ = some (.pointer (some ⟨i.mx, 0, none⟩)) := cell_of h.hb 0
  clear h hx hy
  go_enter Try.func87, Try.ntmps87
  go_wp2_with fail
  refine (smlen_any w B i.mx i.vx xs H.out.1.sx).mono ?_
  rintro e w1 ⟨rfl, x1⟩
  have X1 : Hid (Ext w w1) := x1
  clear x1 g0
  go_wp2_with fail
  refine (itoa_all (xs.length : Int) (by unfold in64; omega) _).mono ?_
  rintro e w2 ⟨rfl, x2⟩
  have X2 : Hid (Ext w w2) := X1.out.trans x2
  clear x2
  have L1 : (st (Tx.itoa (xs.length : Int))).size ≤ 21 := by rw [Tx.st_size]; exact Tx.itoa_len _
  have H0 : Hid (st (shT xs.length (Pl.axisOf (Pl.lv xs)) (Pl.axisOf (Pl.lv ys)) 0) = { data := #[110, 61] } ++ st (Tx.itoa (xs.length : Int))) := by
    show st ([110, 61] ++ Tx.itoa xs.length) = _
    rw [← Tx.st_append]; rfl
  generalize st (Tx.itoa (xs.length : Int)) = A at *
  by_cases hn : xs.length = 0
  · have HB : Hid (st (showB xs.length (Pl.axisOf (Pl.lv xs)) (Pl.axisOf (Pl.lv ys))) = { data := #[110, 61] } ++ A) := by
      rw [← H0.out]
      show _ = _
      unfold showB
      rw [if_pos hn]; rfl
    have hz : ((xs.length : Int) == 0) = true := by rw [hn]; rfl
    clear hn
    go_wp2
    go_ret
    exact ⟨by rw [HB.out]; rfl, H.out.1.ext X2.out, Chg.of_ext X2.out⟩
  · have HB : Hid (showB xs.length (Pl.axisOf (Pl.lv xs)) (Pl.axisOf (Pl.lv ys)) = shT xs.length (Pl.axisOf (Pl.lv xs)) (Pl.axisOf (Pl.lv ys)) 4) := by
      show _ = _
      unfold showB
      rw [if_neg hn]; rfl
    have hz : ((xs.length : Int) == 0) = false := beq_eq_false_iff_ne.2 (by omega)
    have hp : 0 < xs.length := by omega
    go_wp2
    go_loopw [4, 5] (fun t k wr => SwR w B i xs ys t k wr) (fun _ k _ => 4 - (intOf k).toNat)
    case atStart => exact ⟨0, by omega, rfl, by rw [H0.out], H.out.1.ext X2.out, Chg.of_ext X2.out⟩
    case round =>
      obtain ⟨j, hj, rfl, rfl, hb, hc⟩ := hrel
      have HR : Hid (BmAt wr B i xs ys ∧ Chg i.all w wr) := ⟨hb, hc⟩
      have L2 := shT_len xs.length (Pl.axisOf (Pl.lv xs)) (Pl.axisOf (Pl.lv ys)) j
      clear hb hc
      rcases (by omega : j = 0 ∨ j = 1 ∨ j = 2 ∨ j = 3 ∨ j = 4) with rfl | rfl | rfl | rfl | rfl
      · have HN : Hid (st (shT xs.length (Pl.axisOf (Pl.lv xs)) (Pl.axisOf (Pl.lv ys)) 1) = st (shT xs.length (Pl.axisOf (Pl.lv xs)) (Pl.axisOf (Pl.lv ys)) 0) ++ { data := #[32] } ++ st (text32 (Pl.axisOf (Pl.lv xs)).lo)) := by
          show st (shT xs.length (Pl.axisOf (Pl.lv xs)) (Pl.axisOf (Pl.lv ys)) 0 ++ [32] ++ text32 (Pl.axisOf (Pl.lv xs)).lo) = _
          rw [← Tx.st_append, ← Tx.st_append]; rfl
        generalize st (shT xs.length (Pl.axisOf (Pl.lv xs)) (Pl.axisOf (Pl.lv ys)) 0) = S at *
        go_wp2_with fail
        refine (bmcorner_0 wr B i xs ys HR.out.1 hp H.out.2.1 H.out.2.2).mono ?_
        rintro e w4 ⟨r, rfl, hr, b4, c4⟩
        have H4 : Hid (BmAt w4 B i xs ys ∧ Chg i.all w w4 ∧ V .f32 r = (Pl.axisOf (Pl.lv xs)).lo) := ⟨b4, HR.out.2.trans c4, hr⟩
        clear b4 c4 hr
        go_wp2_with fail
        refine (text32_any r _).mono ?_
        rintro e w5 ⟨rfl, x5⟩
        rw [H4.out.2.2]
        have L3 : (st (text32 (Pl.axisOf (Pl.lv xs)).lo)).size ≤ 50 := by rw [Tx.st_size]; exact text_len _
        have H5 : Hid (BmAt w5 B i xs ys ∧ Chg i.all w w5) := ⟨H4.out.1.ext x5, H4.out.2.1.then x5⟩
        clear x5
        generalize st (text32 (Pl.axisOf (Pl.lv xs)).lo) = T at *
        go_wp2
        go_roundw
        case rel =>
          have hrel' : SwR w B i xs ys (.string (S ++ { data := #[32] } ++ T)) (.int .i64 1) w5 := ⟨1, by omega, rfl, by rw [HN.out], H5.out.1, H5.out.2⟩
          first | exact hrel' | ((repeat apply Exists.intro); exact ⟨hrel', rfl⟩)
        case measure => simp [intOf]
      · have HN : Hid (st (shT xs.length (Pl.axisOf (Pl.lv xs)) (Pl.axisOf (Pl.lv ys)) 2) = st (shT xs.length (Pl.axisOf (Pl.lv xs)) (Pl.axisOf (Pl.lv ys)) 1) ++ { data := #[32] } ++ st (text32 (Pl.axisOf (Pl.lv ys)).lo)) := by
          show st (shT xs.length (Pl.axisOf (Pl.lv xs)) (Pl.axisOf (Pl.lv ys)) 1 ++ [32] ++ text32 (Pl.axisOf (Pl.lv ys)).lo) = _
          rw [← Tx.st_append, ← Tx.st_append]; rfl
        generalize st (shT xs.length (Pl.axisOf (Pl.lv xs)) (Pl.axisOf (Pl.lv ys)) 1) = S at *
        go_wp2_with fail
        refine (bmcorner_1 wr B i xs ys HR.out.1 hp H.out.2.1 H.out.2.2).mono ?_
        rintro e w4 ⟨r, rfl, hr, b4, c4⟩
        have H4 : Hid (BmAt w4 B i xs ys ∧ Chg i.all w w4 ∧ V .f32 r = (Pl.axisOf (Pl.lv ys)).lo) := ⟨b4, HR.out.2.trans c4, hr⟩
        clear b4 c4 hr
        go_wp2_with fail
        refine (text32_any r _).mono ?_
        rintro e w5 ⟨rfl, x5⟩
        rw [H4.out.2.2]
        have L3 : (st (text32 (Pl.axisOf (Pl.lv ys)).lo)).size ≤ 50 := by rw [Tx.st_size]; exact text_len _
        have H5 : Hid (BmAt w5 B i xs ys ∧ Chg i.all w w5) := ⟨H4.out.1.ext x5, H4.out.2.1.then x5⟩
        clear x5
        generalize st (text32 (Pl.axisOf (Pl.lv ys)).lo) = T at *
        go_wp2
        go_roundw
        case rel =>
          have hrel' : SwR w B i xs ys (.string (S ++ { data := #[32] } ++ T)) (.int .i64 2) w5 := ⟨2, by omega, rfl, by rw [HN.out], H5.out.1, H5.out.2⟩
          first | exact hrel' | ((repeat apply Exists.intro); exact ⟨hrel', rfl⟩)
        case measure => simp [intOf]
      · have HN : Hid (st (shT xs.length (Pl.axisOf (Pl.lv xs)) (Pl.axisOf (Pl.lv ys)) 3) = st (shT xs.length (Pl.axisOf (Pl.lv xs)) (Pl.axisOf (Pl.lv ys)) 2) ++ { data := #[32] } ++ st (text32 (Pl.axisOf (Pl.lv xs)).hi)) := by
          show st (shT xs.length (Pl.axisOf (Pl.lv xs)) (Pl.axisOf (Pl.lv ys)) 2 ++ [32] ++ text32 (Pl.axisOf (Pl.lv xs)).hi) = _
          rw [← Tx.st_append, ← Tx.st_append]; rfl
        generalize st (shT xs.length (Pl.axisOf (Pl.lv xs)) (Pl.axisOf (Pl.lv ys)) 2) = S at *
        go_wp2_with fail
        refine (bmcorner_2 wr B i xs ys HR.out.1 hp H.out.2.1 H.out.2.2).mono ?_
        rintro e w4 ⟨r, rfl, hr, b4, c4⟩
        have H4 : Hid (BmAt w4 B i xs ys ∧ Chg i.all w w4 ∧ V .f32 r = (Pl.axisOf (Pl.lv xs)).hi) := ⟨b4, HR.out.2.trans c4, hr⟩
        clear b4 c4 hr
        go_wp2_with fail
        refine (text32_any r _).mono ?_
        rintro e w5 ⟨rfl, x5⟩
        rw [H4.out.2.2]
        have L3 : (st (text32 (Pl.axisOf (Pl.lv xs)).hi)).size ≤ 50 := by rw [Tx.st_size]; exact text_len _
        have H5 : Hid (BmAt w5 B i xs ys ∧ Chg i.all w w5) := ⟨H4.out.1.ext x5, H4.out.2.1.then x5⟩
        clear x5
        generalize st (text32 (Pl.axisOf (Pl.lv xs)).hi) = T at *
        go_wp2
        go_roundw
        case rel =>
          have hrel' : SwR w B i xs ys (.string (S ++ { data := #[32] } ++ T)) (.int .i64 3) w5 := ⟨3, by omega, rfl, by rw [HN.out], H5.out.1, H5.out.2⟩
          first | exact hrel' | ((repeat apply Exists.intro); exact ⟨hrel', rfl⟩)
        case measure => simp [intOf]
      · have HN : Hid (st (shT xs.length (Pl.axisOf (Pl.lv xs)) (Pl.axisOf (Pl.lv ys)) 4) = st (shT xs.length (Pl.axisOf (Pl.lv xs)) (Pl.axisOf (Pl.lv ys)) 3) ++ { data := #[32] } ++ st (text32 (Pl.axisOf (Pl.lv ys)).hi)) := by
          show st (shT xs.length (Pl.axisOf (Pl.lv xs)) (Pl.axisOf (Pl.lv ys)) 3 ++ [32] ++ text32 (Pl.axisOf (Pl.lv ys)).hi) = _
          rw [← Tx.st_append, ← Tx.st_append]; rfl
        generalize st (shT xs.length (Pl.axisOf (Pl.lv xs)) (Pl.axisOf (Pl.lv ys)) 3) = S at *
        go_wp2_with fail
        refine (bmcorner_3 wr B i xs ys HR.out.1 hp H.out.2.1 H.out.2.2).mono ?_
        rintro e w4 ⟨r, rfl, hr, b4, c4⟩
        have H4 : Hid (BmAt w4 B i xs ys ∧ Chg i.all w w4 ∧ V .f32 r = (Pl.axisOf (Pl.lv ys)).hi) := ⟨b4, HR.out.2.trans c4, hr⟩
        clear b4 c4 hr
        go_wp2_with fail
        refine (text32_any r _).mono ?_
        rintro e w5 ⟨rfl, x5⟩
        rw [H4.out.2.2]
        have L3 : (st (text32 (Pl.axisOf (Pl.lv ys)).hi)).size ≤ 50 := by rw [Tx.st_size]; exact text_len _
        have H5 : Hid (BmAt w5 B i xs ys ∧ Chg i.all w w5) := ⟨H4.out.1.ext x5, H4.out.2.1.then x5⟩
        clear x5
        generalize st (text32 (Pl.axisOf (Pl.lv ys)).hi) = T at *
        go_wp2
        go_roundw
        case rel =>
          have hrel' : SwR w B i xs ys (.string (S ++ { data := #[32] } ++ T)) (.int .i64 4) w5 := ⟨4, by omega, rfl, by rw [HN.out], H5.out.1, H5.out.2⟩
          first | exact hrel' | ((repeat apply Exists.intro); exact ⟨hrel', rfl⟩)
        case measure => simp [intOf]
      · generalize hS : st (shT xs.length (Pl.axisOf (Pl.lv xs)) (Pl.axisOf (Pl.lv ys)) 4) = S at *
        have HS : Hid (st (showB xs.length (Pl.axisOf (Pl.lv xs)) (Pl.axisOf (Pl.lv ys))) = S) := by
          show _ = _
          rw [HB.out, hS]
        clear hS
        go_wp2
        go_ret
        exact ⟨by rw [HS.out]; rfl, HR.out⟩
end Go.Proofs.Qxb6500343a

