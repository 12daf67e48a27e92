/-
  Walks of Keeps 3: the series' Show, both.
-/
import Derived.Test.Qxb6500343aK2
namespace Go.Proofs.Qxb6500343a
open Go.RowKit
open Go.Proofs
open Ieee (Datum)
open Fl
open Tx (st)
open Ff (in64)
set_option linter.unusedSimpArgs false
set_option linter.unusedVariables false
attribute [local go_sem] run_fadd run_fsub run_fmul run_fquo run_store_float alloc_drewN setCell_drewN shape?_drewN tape_alloc drawn_alloc tape_setCell drawn_setCell drawn_drewN drawn_drew run_fneg

def flatT (xs : List Datum) : List Nat := xs.flatMap fun x => 32 :: text x
theorem flatT_snoc (xs : List Datum) (x : Datum) : flatT (xs ++ [x]) = flatT xs ++ [32] ++ text x := by simp [flatT]
theorem flatT_len (xs : List Datum) : (flatT xs).length ≤ 51 * xs.length := by
  induction xs with
  | nil => simp [flatT]
  | cons x r ih =>
    have := text_len x
    simp [flatT] at ih ⊢
    omega
def preT (xs : List Datum) : List Nat := [110, 61] ++ Tx.itoa xs.length
def showS (xs : List Datum) : List Nat :=
  if xs.length = 0 then preT xs ++ flatT xs ++ [32, 115, 61] ++ text (Pl.sumL xs)
  else preT xs ++ flatT xs ++ [32, 115, 61] ++ text (Pl.sumL xs) ++ [32, 109, 61] ++ text (Pl.mean xs) ++ [32, 108, 61] ++ text (Pl.minL xs) ++ [32, 104, 61] ++ text (Pl.maxL xs)
theorem ssum_any (w : World) (p L : Nat) (xs : List Datum) (h : SerAt w p L (Pl.lv xs)) : Calls Try.prog 74 #[.pointer (some ⟨p, 0, none⟩)] w fun e w' => ∃ r, e = .returned (.float .f64 r) ∧ V .f64 r = Pl.sumL xs ∧ Ext w w' := by
  cases hm : (Pl.lv xs).length with
  | zero =>
    have hx : xs = [] := List.length_eq_zero_iff.1 (by rw [← Pl.lv_len]; exact hm)
    subst hx
    exact ssum_none w p L h
  | succ m =>
    obtain ⟨d, hd⟩ : ∃ d, (Pl.lv xs)[m]? = some d := ⟨(Pl.lv xs)[m]'(by omega), by simp⟩
    exact (ssum_some w p L m _ d h hm hd).mono fun e w' ⟨r, he, hr, hx⟩ => ⟨r, he, by rw [hr, Pl.lv_sum xs d (last_of hm hd)], hx⟩
theorem smean_any (w : World) (p L : Nat) (xs : List Datum) (h : SerAt w p L (Pl.lv xs)) (hn : xs.length ≠ 0) : Calls Try.prog 75 #[.pointer (some ⟨p, 0, none⟩)] w fun e w' => ∃ r, e = .returned (.tuple #[.float .f64 r, .int .i64 0]) ∧ V .f64 r = Pl.mean xs ∧ Ext w w' := by
  cases hm : (Pl.lv xs).length with
  | zero => rw [Pl.lv_len] at hm; exact absurd hm hn
  | succ m =>
    obtain ⟨d, hd⟩ : ∃ d, (Pl.lv xs)[m]? = some d := ⟨(Pl.lv xs)[m]'(by omega), by simp⟩
    have hl : xs.length = m + 1 := by rw [← Pl.lv_len]; exact hm
    exact (smean_some w p L m _ d h hm hd).mono fun e w' ⟨r, he, hr, hx⟩ => ⟨r, he, by rw [hr, Pl.lv_sum xs d (last_of hm hd)]; unfold Pl.mean; rw [hl]; rfl, hx⟩
def ShR (w : World) (xs : List Datum) (o i : Value) (wr : World) : Prop := ∃ k : Nat, k ≤ xs.length ∧ i = .int .i64 k ∧ o = .string (st (preT xs ++ flatT (xs.take k))) ∧ Ext w wr
theorem sh_len (xs : List Datum) (k : Nat) (h : xs.length ≤ 8) : (st (preT xs ++ flatT (xs.take k))).size ≤ 500 := by
  rw [Tx.st_size, List.length_append]
  have h1 := flatT_len (xs.take k)
  have h2 := Tx.itoa_len (xs.length : Int)
  rw [List.length_take] at h1
  unfold preT
  simp only [List.length_append, List.length_cons, List.length_nil]
  omega
theorem sh_step (xs : List Datum) (k : Nat) (hk : k < xs.length) (x : Datum) (hx : xs[k]? = some x) : st (preT xs ++ flatT (xs.take (k + 1))) = st (preT xs ++ flatT (xs.take k)) ++ { data := #[32] } ++ st (text x) := by
  rw [List.take_add_one, hx]
  simp only [Option.toList_some]
  rw [flatT_snoc, ← List.append_assoc, ← List.append_assoc, ← Tx.st_append, ← Tx.st_append]
  rfl
theorem sh_pre (xs : List Datum) : st (preT xs ++ flatT (xs.take 0)) = { data := #[110, 61] } ++ st (Tx.itoa (xs.length : Int)) := by
  rw [List.take_zero]
  show st (preT xs ++ []) = _
  rw [List.append_nil]
  unfold preT
  rw [← Tx.st_append]
  rfl
set_option maxRecDepth 100000 in
set_option maxHeartbeats 4000000 in
theorem sshow_any (w : World) (p L : Nat) (xs : List Datum) (h : SerAt w p L (Pl.lv xs)) : Calls Try.prog 45 #[.pointer (some ⟨p, 0, none⟩)] w fun e w' => e = .returned (.string (st (showS xs))) ∧ Ext w w' := by
  have HS : Hid (SerAt w p L (Pl.lv xs)) := h
  obtain ⟨hp, ⟨C, hL, hC, hl⟩, hlen, hne⟩ := h
  rw [Pl.lv_len] at hp hlen
  have HP : Hid (w.heap[p]? = some (.cells #[.slice (some ⟨L, 0, none⟩) 8 8, .int .i64 xs.length] 97) ∧ w.heap[L]? = some (.cells C 100) ∧ ∀ i d, (Pl.lv xs)[i]? = some d → lvAt C i d) := ⟨hp, hL, hl⟩
  have g1 : w.cell? ⟨p, 1, none⟩ = some (.int .i64 xs.length) := cell_of hp 1
  clear hp hL hl
  go_enter Try.func45, Try.ntmps45
  go_wp2_with fail
  refine (itoa_all (xs.length : Int) (by unfold in64; omega) _).mono ?_
  rintro e w1 ⟨rfl, x1⟩
  have L1 : (st (Tx.itoa (xs.length : Int))).size ≤ 21 := by rw [Tx.st_size]; exact Tx.itoa_len _
  have X1 : Hid (Ext w w1 ∧ st (preT xs ++ flatT (xs.take 0)) = { data := #[110, 61] } ++ st (Tx.itoa (xs.length : Int))) := ⟨x1, sh_pre xs⟩
  have g2 : w1.cell? ⟨p, 1, none⟩ = some (.int .i64 xs.length) := cell_of (x1.heap HP.out.1) 1
  clear x1 g1
  generalize st (Tx.itoa (xs.length : Int)) = A at *
  go_wp2
  go_loopw [3, 4] (fun o i wr => ShR w xs o i wr) (fun _ i _ => xs.length - (intOf i).toNat)
  case atStart => exact ⟨0, by omega, rfl, by rw [X1.out.2], X1.out.1⟩
  case round =>
    obtain ⟨k, hk, rfl, rfl, hx⟩ := hrel
    have HX : Hid (Ext w wr) := hx
    have g3 : wr.cell? ⟨p, 1, none⟩ = some (.int .i64 xs.length) := cell_of (hx.heap HP.out.1) 1
    have LO := sh_len xs k hlen
    clear hx g2
    by_cases hlt : k < xs.length
    · have hd : decide ((k : Int) < (xs.length : Int)) = true := decide_eq_true (by omega)
      obtain ⟨d, hdk⟩ : ∃ d, (Pl.lv xs)[k]? = some d := ⟨_, List.getElem?_eq_getElem (by rw [Pl.lv_len]; exact hlt)⟩
      obtain ⟨x0, hx0, hdx, _⟩ := Pl.lv_get xs k d hdk
      obtain ⟨x, s, l, h, cx, _, _, _, hvx⟩ := HP.out.2.2 k d hdk
      have g4 : wr.cell? ⟨p, 0, none⟩ = some (.slice (some ⟨L, 0, none⟩) 8 8) := cell_of (HX.out.heap HP.out.1) 0
      have g5 : wr.cell? ⟨L, k * 4, none⟩ = some (.float .f64 x) := (cell_of (HX.out.heap HP.out.2.1) _).trans cx
      have hk8 : (k : Int) < 8 := by omega
      have HT : Hid (st (preT xs ++ flatT (xs.take (k + 1))) = st (preT xs ++ flatT (xs.take k)) ++ { data := #[32] } ++ st (text (V .f64 x))) := by
        show _ = _
        rw [hvx.1, hdx]
        exact sh_step xs k hlt x0 hx0
      clear hdk hx0 hdx cx hvx
      generalize st (preT xs ++ flatT (xs.take k)) = O at *
      go_wp2_with fail
      refine (text_any x _).mono ?_
      rintro e w2 ⟨rfl, x2⟩
      have B1 : (st (text (V .f64 x))).size ≤ 50 := by rw [Tx.st_size]; exact text_len _
      have X2 : Hid (Ext w w2) := HX.out.trans x2
      clear x2
      generalize st (text (V .f64 x)) = T at *
      have SO : (O ++ { data := #[32] }).size = O.size + 1 := ByteArray.size_append
      go_wp2
      go_roundw
      case rel =>
        have hrel' : ShR w xs (.string (O ++ { data := #[32] } ++ T)) (.int .i64 ((k : Int) + 1)) w2 := ⟨k + 1, by omega, by go_num, by rw [HT.out], X2.out⟩
        first | exact hrel' | ((repeat apply Exists.intro); exact ⟨hrel', rfl⟩)
      case measure => simp [intOf]; omega
    · have hd : decide ((k : Int) < (xs.length : Int)) = false := decide_eq_false (by omega)
      have HO : Hid (st (preT xs ++ flatT (xs.take k)) = st (preT xs ++ flatT xs)) := by
        show _ = _
        rw [List.take_of_length_le (by omega)]
      rw [HO.out] at LO ⊢
      by_cases hn : xs.length = 0
      · have HSS : Hid (st (showS xs) = st (preT xs ++ flatT xs) ++ { data := #[32, 115, 61] } ++ st (text (Pl.sumL xs))) := by
          show _ = _
          unfold showS
          rw [if_pos hn]
          simp only [← Tx.st_append]; rfl
        have HN : Hid (xs.length = 0) := hn
        clear hn
        generalize st (preT xs ++ flatT xs) = O at *
        go_wp2_with fail
        refine (ssum_any wr p L xs (HS.out.ext HX.out)).mono ?_
        rintro e w2 ⟨r, rfl, hr, x2⟩
        have X2 : Hid (Ext w w2 ∧ V .f64 r = Pl.sumL xs) := ⟨HX.out.trans x2, hr⟩
        clear x2 hr
        go_wp2_with fail
        refine (text_any r _).mono ?_
        rintro e w3 ⟨rfl, x3⟩
        rw [X2.out.2]
        have B1 : (st (text (Pl.sumL xs))).size ≤ 50 := by rw [Tx.st_size]; exact text_len _
        have X3 : Hid (Ext w w3) := X2.out.1.trans x3
        have g6 : w3.cell? ⟨p, 1, none⟩ = some (.int .i64 0) := by rw [cell_of (X3.out.heap HP.out.1) 1, HN.out]; rfl
        clear x3 g3
        generalize st (text (Pl.sumL xs)) = T at *
        have SO : (O ++ { data := #[32, 115, 61] }).size = O.size + 3 := ByteArray.size_append
        go_wp2
        go_ret
        exact ⟨by rw [HSS.out]; rfl, X3.out⟩
      · have HSS : Hid (st (showS xs) = st (preT xs ++ flatT xs) ++ { data := #[32, 115, 61] } ++ st (text (Pl.sumL xs)) ++ { data := #[32, 109, 61] } ++ st (text (Pl.mean xs)) ++ { data := #[32, 108, 61] } ++ st (text (Pl.minL xs)) ++ { data := #[32, 104, 61] } ++ st (text (Pl.maxL xs))) := by
          show _ = _
          unfold showS
          rw [if_neg hn]
          simp only [← Tx.st_append]; rfl
        have HN : Hid (xs.length ≠ 0) := hn
        generalize st (preT xs ++ flatT xs) = O at *
        go_wp2_with fail
        refine (ssum_any wr p L xs (HS.out.ext HX.out)).mono ?_
        rintro e w2 ⟨r, rfl, hr, x2⟩
        have X2 : Hid (Ext w w2 ∧ V .f64 r = Pl.sumL xs) := ⟨HX.out.trans x2, hr⟩
        clear x2 hr
        go_wp2_with fail
        refine (text_any r _).mono ?_
        rintro e w3 ⟨rfl, x3⟩
        rw [X2.out.2]
        have B1 : (st (text (Pl.sumL xs))).size ≤ 50 := by rw [Tx.st_size]; exact text_len _
        have X3 : Hid (Ext w w3) := X2.out.1.trans x3
        have g6 : w3.cell? ⟨p, 1, none⟩ = some (.int .i64 xs.length) := cell_of (X3.out.heap HP.out.1) 1
        have hz : ((xs.length : Int) == 0) = false := beq_eq_false_iff_ne.2 (by omega)
        clear x3 g3
        generalize st (text (Pl.sumL xs)) = T at *
        have SO : (O ++ { data := #[32, 115, 61] }).size = O.size + 3 := ByteArray.size_append
        go_wp2_with fail
        refine (smean_any w3 p L xs (HS.out.ext X3.out) HN.out).mono ?_
        rintro e w4 ⟨r4, rfl, hr4, x4⟩
        have X4 : Hid (Ext w w4 ∧ V .f64 r4 = Pl.mean xs) := ⟨X3.out.trans x4, hr4⟩
        clear x4 hr4 g6
        obtain ⟨m, hm⟩ : ∃ m, xs.length = m + 1 := ⟨xs.length - 1, by omega⟩
        obtain ⟨d, hdk⟩ : ∃ d, (Pl.lv xs)[m]? = some d := ⟨_, List.getElem?_eq_getElem (by rw [Pl.lv_len]; omega)⟩
        have hlast := Pl.lv_last xs d (last_of (by rw [Pl.lv_len]; exact hm) hdk)
        obtain ⟨x0, s0, l0, h0, c0, c1, c2, c3, hvx⟩ := HP.out.2.2 m d hdk
        have HV : Hid (V .f64 l0 = Pl.minL xs ∧ V .f64 h0 = Pl.maxL xs) := ⟨hvx.2.2.1.trans hlast.2.1, hvx.2.2.2.trans hlast.2.2⟩
        have q1 : w4.cell? ⟨p, 1, none⟩ = some (.int .i64 ((m : Int) + 1)) := by rw [cell_of (X4.out.1.heap HP.out.1) 1, hm]; rfl
        have q0 : w4.cell? ⟨p, 0, none⟩ = some (.slice (some ⟨L, 0, none⟩) 8 8) := cell_of (X4.out.1.heap HP.out.1) 0
        have k0 : w4.cell? ⟨L, m * 4, none⟩ = some (.float .f64 x0) := (cell_of (X4.out.1.heap HP.out.2.1) _).trans c0
        have k1 : w4.cell? ⟨L, m * 4 + 1, none⟩ = some (.float .f64 s0) := (cell_of (X4.out.1.heap HP.out.2.1) _).trans c1
        have k2 : w4.cell? ⟨L, m * 4 + 2, none⟩ = some (.float .f64 l0) := (cell_of (X4.out.1.heap HP.out.2.1) _).trans c2
        have k3 : w4.cell? ⟨L, m * 4 + 3, none⟩ = some (.float .f64 h0) := (cell_of (X4.out.1.heap HP.out.2.1) _).trans c3
        have i1 : IntKind.i64.wrap (m : Int) = m := by rw [IntKind.wrap_i64]; omega
        have i3 : wrap64 (m : Int) = m := IntWalk.wrap64_in _ (by omega)
        have i2 : (m : Int) < 8 := by omega
        have i4 : (m : Int) + 1 - 1 = m := by omega
        clear hm hdk hlast c0 c1 c2 c3 hvx hz hn
        have hz1 := lt_of_heap (X4.out.1.heap HP.out.1)
        have hz2 := lt_of_heap (X4.out.1.heap HP.out.2.1)
        have xz : Ext w4 (w4.alloc (.cells #[.float .f64 0, .float .f64 0, .float .f64 0, .float .f64 0] 100)) := (Ext.refl w4).alloc _
        have z0 : (w4.alloc (.cells #[.float .f64 0, .float .f64 0, .float .f64 0, .float .f64 0] 100)).cell? ⟨p, 0, none⟩ = some (.slice (some ⟨L, 0, none⟩) 8 8) := cell_of (xz.heap (X4.out.1.heap HP.out.1)) 0
        have z1 : (w4.alloc (.cells #[.float .f64 0, .float .f64 0, .float .f64 0, .float .f64 0] 100)).cell? ⟨p, 1, none⟩ = some (.int .i64 ((m : Int) + 1)) := by rw [cell_of (xz.heap (X4.out.1.heap HP.out.1)) 1, ← cell_of (X4.out.1.heap HP.out.1) 1]; exact q1
        have z2 : (w4.alloc (.cells #[.float .f64 0, .float .f64 0, .float .f64 0, .float .f64 0] 100)).cell? ⟨L, m * 4, none⟩ = some (.float .f64 x0) := by rw [cell_of (xz.heap (X4.out.1.heap HP.out.2.1)), ← cell_of (X4.out.1.heap HP.out.2.1)]; exact k0
        have z3 : (w4.alloc (.cells #[.float .f64 0, .float .f64 0, .float .f64 0, .float .f64 0] 100)).cell? ⟨L, m * 4 + 1, none⟩ = some (.float .f64 s0) := by rw [cell_of (xz.heap (X4.out.1.heap HP.out.2.1)), ← cell_of (X4.out.1.heap HP.out.2.1)]; exact k1
        have z4 : (w4.alloc (.cells #[.float .f64 0, .float .f64 0, .float .f64 0, .float .f64 0] 100)).cell? ⟨L, m * 4 + 2, none⟩ = some (.float .f64 l0) := by rw [cell_of (xz.heap (X4.out.1.heap HP.out.2.1)), ← cell_of (X4.out.1.heap HP.out.2.1)]; exact k2
        have z5 : (w4.alloc (.cells #[.float .f64 0, .float .f64 0, .float .f64 0, .float .f64 0] 100)).cell? ⟨L, m * 4 + 3, none⟩ = some (.float .f64 h0) := by rw [cell_of (xz.heap (X4.out.1.heap HP.out.2.1)), ← cell_of (X4.out.1.heap HP.out.2.1)]; exact k3
        clear xz
        go_wp2
        go_region
        go_wp2_with fail
        refine (text_any r4 _).mono ?_
        rintro e w5 ⟨rfl, x5⟩
        rw [X4.out.2]
        have B2 : (st (text (Pl.mean xs))).size ≤ 50 := by rw [Tx.st_size]; exact text_len _
        have X5 : Hid (Ext w w5 ∧ w5.heap[w4.heap.size]? = some (.cells #[.float .f64 x0, .float .f64 s0, .float .f64 l0, .float .f64 h0] 100)) := ⟨(X4.out.1.trans (by first | exact ((Ext.refl w4).alloc _).drew | exact (Ext.refl w4).drew.alloc _ | exact ((Ext.refl w4).alloc _).drewN _)).trans x5, by first | exact x5.heap (heap_alloc_new w4 _) | exact x5.heap (heap_alloc_new w4.drew _)⟩
        have t2 : w5.cell? ⟨w4.heap.size, 2, none⟩ = some (.float .f64 l0) := cell_of X5.out.2 2
        clear x5 q0 q1 k0 k1 k2 k3 z0 z1 z2 z3 z4 z5 hz1 hz2
        generalize st (text (Pl.mean xs)) = T2 at *
        have SO2 : (O ++ { data := #[32, 115, 61] } ++ T).size = O.size + 3 + T.size := by rw [ByteArray.size_append, SO]
        have SO3 : (O ++ { data := #[32, 115, 61] } ++ T ++ { data := #[32, 109, 61] }).size = O.size + 3 + T.size + 3 := by rw [ByteArray.size_append, SO2]; rfl
        have SO4 : (O ++ { data := #[32, 115, 61] } ++ T ++ { data := #[32, 109, 61] } ++ T2).size = O.size + 3 + T.size + 3 + T2.size := by rw [ByteArray.size_append, SO3]
        have SO5 : (O ++ { data := #[32, 115, 61] } ++ T ++ { data := #[32, 109, 61] } ++ T2 ++ { data := #[32, 108, 61] }).size = O.size + 3 + T.size + 3 + T2.size + 3 := by rw [ByteArray.size_append, SO4]; rfl
        go_wp2_with fail
        refine (text_any l0 _).mono ?_
        rintro e w6 ⟨rfl, x6⟩
        rw [HV.out.1]
        have B3 : (st (text (Pl.minL xs))).size ≤ 50 := by rw [Tx.st_size]; exact text_len _
        have X6 : Hid (Ext w w6 ∧ w6.heap[w4.heap.size]? = some (.cells #[.float .f64 x0, .float .f64 s0, .float .f64 l0, .float .f64 h0] 100)) := ⟨X5.out.1.trans x6, x6.heap X5.out.2⟩
        have t3 : w6.cell? ⟨w4.heap.size, 3, none⟩ = some (.float .f64 h0) := cell_of X6.out.2 3
        clear x6 t2
        generalize st (text (Pl.minL xs)) = T3 at *
        have SO6 : (O ++ { data := #[32, 115, 61] } ++ T ++ { data := #[32, 109, 61] } ++ T2 ++ { data := #[32, 108, 61] } ++ T3).size = O.size + 3 + T.size + 3 + T2.size + 3 + T3.size := by rw [ByteArray.size_append, SO5]
        have SO7 : (O ++ { data := #[32, 115, 61] } ++ T ++ { data := #[32, 109, 61] } ++ T2 ++ { data := #[32, 108, 61] } ++ T3 ++ { data := #[32, 104, 61] }).size = O.size + 3 + T.size + 3 + T2.size + 3 + T3.size + 3 := by rw [ByteArray.size_append, SO6]; rfl
        go_wp2_with fail
        refine (text_any h0 _).mono ?_
        rintro e w7 ⟨rfl, x7⟩
        rw [HV.out.2]
        have B4 : (st (text (Pl.maxL xs))).size ≤ 50 := by rw [Tx.st_size]; exact text_len _
        have X7 : Hid (Ext w w7) := X6.out.1.trans x7
        clear x7 t3
        generalize st (text (Pl.maxL xs)) = T4 at *
        go_wp2
        go_ret
        exact ⟨by rw [HSS.out]; rfl, X7.out⟩
end Go.Proofs.Qxb6500343a
