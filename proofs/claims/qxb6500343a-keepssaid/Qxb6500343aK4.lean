/-
  Walks of Keeps 4: the model series' Show; Handed.
-/
import Derived.Test.Qxb6500343aK3
namespace Go.Proofs.Qxb6500343a
open Go.RowKit
open Go.Proofs
open Ieee (Datum)
open Fl
open Tx (st)
open Ff (in64)
set_option linter.unusedSimpArgs false
set_option linter.unusedVariables false
attribute [local go_sem] run_fadd run_fsub run_fmul run_fquo run_store_float alloc_drewN setCell_drewN shape?_drewN tape_alloc drawn_alloc tape_setCell drawn_setCell drawn_drewN drawn_drew run_fneg

/-- Setting the count again. -/
theorem SmAt.asks {w : World} {B m : Nat} {v : Value} {xs : List Datum} (h : SmAt w B m v xs) (c : Int) : SmAt (w.setCell ⟨m, 1, none⟩ (.int .i64 c)) B m v xs := by
  have cs : Chg [m] w (w.setCell ⟨m, 1, none⟩ (.int .i64 c)) := (Chg.refl _ _).setCell (by simp) _
  obtain ⟨⟨a, ha⟩, ⟨l', ho, hl'⟩, hne, hlen, hB⟩ := h
  refine ⟨⟨c, by rw [heap_set ha]; rfl⟩, ⟨l', ho.chg cs ?_, hl'⟩, hne, hlen, hB⟩
  intro g hg
  simp only [List.mem_singleton]
  rintro rfl
  exact hne hg
set_option maxRecDepth 100000 in
set_option maxHeartbeats 4000000 in
theorem smshow_any (w : World) (B m : Nat) (v : Value) (xs : List Datum) (h : SmAt w B m v xs) : Calls Try.prog 46 #[.pointer (some ⟨m, 0, none⟩)] w fun e w' => e = .returned (.string (st (showS xs))) ∧ SmAt w' B m v xs ∧ Chg [m] w w' := by
  have HS : Hid (SmAt w B m v xs) := h
  obtain ⟨ad, cap, l, hv, hll, hl, hf⟩ := h.form
  obtain ⟨c, ha⟩ := h.hp
  have HV : Hid (v = .slice ad xs.length cap) := hv
  have hlen := h.len
  have HF : Hid (l.length = xs.length ∧ l.map (V .f64) = xs ∧ (xs.length = 0 ∨ ∃ g, ad = some ⟨g, 0, none⟩ ∧ ∀ w', Ext w w' → ∀ i, i < xs.length → w'.cell? ⟨g, i, none⟩ = some (.float .f64 (l.getD i 0)))) := ⟨hll, hl, hf⟩
  have G0 : Hid (∀ w', Ext w w' → w'.cell? ⟨m, 0, none⟩ = some (.slice ad xs.length cap) ∧ w'.cell? ⟨m, 1, none⟩ = some (.int .i64 c)) := fun w' hx => ⟨by rw [cell_of (hx.heap ha) 0, hv]; rfl, cell_of (hx.heap ha) 1⟩
  have g1 := (G0.out w (Ext.refl _)).1
  clear h ha hv hl hll hf
  go_enter Try.func46, Try.ntmps46
  go_wp2_with fail
  refine (itoa_all (xs.length : Int) (by unfold in64; omega) _).mono ?_
  rintro e w1 ⟨rfl, x1⟩
  have L1 : (st (Tx.itoa (xs.length : Int))).size ≤ 21 := by rw [Tx.st_size]; exact Tx.itoa_len _
  have X1 : Hid (Ext w w1 ∧ st (preT xs ++ flatT (xs.take 0)) = { data := #[110, 61] } ++ st (Tx.itoa (xs.length : Int))) := ⟨x1, sh_pre xs⟩
  have g2 := (G0.out w1 x1).1
  clear x1 g1
  generalize st (Tx.itoa (xs.length : Int)) = A at *
  go_wp2
  go_loopw [3, 4] (fun o i wr => ShR w xs o i wr) (fun _ i _ => xs.length - (intOf i).toNat)
  case atStart => exact ⟨0, by omega, rfl, by rw [X1.out.2], X1.out.1⟩
  case round =>
    obtain ⟨k, hk, rfl, rfl, hx⟩ := hrel
    have HX : Hid (Ext w wr) := hx
    have g3 := (G0.out wr hx).1
    have LO := sh_len xs k hlen
    clear hx g2
    by_cases hlt : k < xs.length
    · have hd : decide ((k : Int) < (xs.length : Int)) = true := decide_eq_true (by omega)
      have hk0 : (k : Int) < (xs.length : Int) := by omega
      obtain ⟨g, hg, hcell⟩ : ∃ g, ad = some ⟨g, 0, none⟩ ∧ ∀ w', Ext w w' → ∀ i, i < xs.length → w'.cell? ⟨g, i, none⟩ = some (.float .f64 (l.getD i 0)) := by
        rcases HF.out.2.2 with h0 | h
        · omega
        · exact h
      have kk : wr.cell? ⟨g, k, none⟩ = some (.float .f64 (l.getD k 0)) := hcell wr HX.out k hlt
      rw [hg] at g3
      clear hcell hg
      have HT : Hid (st (preT xs ++ flatT (xs.take (k + 1))) = st (preT xs ++ flatT (xs.take k)) ++ { data := #[32] } ++ st (text (V .f64 (l.getD k 0)))) := by
        show _ = _
        obtain ⟨hll, hl, _⟩ := HF.out
        rw [getD_V hl (by omega)]
        exact sh_step xs k hlt _ (by simp [hlt])
      generalize l.getD k 0 = x at *
      generalize st (preT xs ++ flatT (xs.take k)) = O at *
      go_wp2_with fail
      refine (text_any x _).mono ?_
      rintro e w2 ⟨rfl, x2⟩
      have B1 : (st (text (V .f64 x))).size ≤ 50 := by rw [Tx.st_size]; exact text_len _
      have X2 : Hid (Ext w w2) := HX.out.trans x2
      clear x2
      generalize st (text (V .f64 x)) = T at *
      have SO : (O ++ { data := #[32] }).size = O.size + 1 := ByteArray.size_append
      go_wp2
      go_roundw
      case rel =>
        have hrel' : ShR w xs (.string (O ++ { data := #[32] } ++ T)) (.int .i64 ((k : Int) + 1)) w2 := ⟨k + 1, by omega, by go_num, by rw [HT.out], X2.out⟩
        first | exact hrel' | ((repeat apply Exists.intro); exact ⟨hrel', rfl⟩)
      case measure => simp [intOf]; omega
    · have hd : decide ((k : Int) < (xs.length : Int)) = false := decide_eq_false (by omega)
      have HO : Hid (st (preT xs ++ flatT (xs.take k)) = st (preT xs ++ flatT xs)) := by
        show _ = _
        rw [List.take_of_length_le (by omega)]
      rw [HO.out] at LO ⊢
      by_cases hn : xs.length = 0
      · have HSS : Hid (st (showS xs) = st (preT xs ++ flatT xs) ++ { data := #[32, 115, 61] } ++ st (text (Pl.sumL xs))) := by
          show _ = _
          unfold showS
          rw [if_pos hn]
          simp only [← Tx.st_append]; rfl
        have HN : Hid (xs.length = 0) := hn
        clear hn
        generalize st (preT xs ++ flatT xs) = O at *
        go_wp2_with fail
        refine (smsum_any wr B m v xs (HS.out.ext HX.out)).mono ?_
        rintro e w2 ⟨r, rfl, hr, x2⟩
        have X2 : Hid (Ext w w2 ∧ V .f64 r = Pl.sumL xs) := ⟨HX.out.trans x2, hr⟩
        clear x2 hr
        go_wp2_with fail
        refine (text_any r _).mono ?_
        rintro e w3 ⟨rfl, x3⟩
        rw [X2.out.2]
        have B1 : (st (text (Pl.sumL xs))).size ≤ 50 := by rw [Tx.st_size]; exact text_len _
        have X3 : Hid (Ext w w3) := X2.out.1.trans x3
        have g6 : w3.cell? ⟨m, 0, none⟩ = some (.slice ad 0 cap) := by rw [(G0.out w3 X3.out).1, HN.out]
        clear x3 g3
        generalize st (text (Pl.sumL xs)) = T at *
        have SO : (O ++ { data := #[32, 115, 61] }).size = O.size + 3 := ByteArray.size_append
        go_wp2
        go_ret
        exact ⟨by rw [HSS.out]; rfl, HS.out.ext X3.out, Chg.of_ext X3.out⟩
      · have HSS : Hid (st (showS xs) = st (preT xs ++ flatT xs) ++ { data := #[32, 115, 61] } ++ st (text (Pl.sumL xs)) ++ { data := #[32, 109, 61] } ++ st (text (Pl.mean xs)) ++ { data := #[32, 108, 61] } ++ st (text (Pl.minL xs)) ++ { data := #[32, 104, 61] } ++ st (text (Pl.maxL xs))) := by
          show _ = _
          unfold showS
          rw [if_neg hn]
          simp only [← Tx.st_append]; rfl
        have hn0 : 0 < xs.length := by omega
        have HN : Hid (0 < xs.length) := hn0
        generalize st (preT xs ++ flatT xs) = O at *
        go_wp2_with fail
        refine (smsum_any wr B m v xs (HS.out.ext HX.out)).mono ?_
        rintro e w2 ⟨r, rfl, hr, x2⟩
        have X2 : Hid (Ext w w2 ∧ V .f64 r = Pl.sumL xs) := ⟨HX.out.trans x2, hr⟩
        clear x2 hr
        go_wp2_with fail
        refine (text_any r _).mono ?_
        rintro e w3 ⟨rfl, x3⟩
        rw [X2.out.2]
        have B1 : (st (text (Pl.sumL xs))).size ≤ 50 := by rw [Tx.st_size]; exact text_len _
        have X3 : Hid (Ext w w3) := X2.out.1.trans x3
        have g6 := (G0.out w3 X3.out).1
        have g7 := (G0.out w3 X3.out).2
        have hz : ((xs.length : Int) == 0) = false := beq_eq_false_iff_ne.2 (by omega)
        clear x3 g3
        generalize st (text (Pl.sumL xs)) = T at *
        have SO : (O ++ { data := #[32, 115, 61] }).size = O.size + 3 := ByteArray.size_append
        go_wp2_with fail
        refine (smmean_some w3 B m v xs (HS.out.ext X3.out) HN.out).mono ?_
        rintro e w4 ⟨r4, rfl, hr4, x4⟩
        have X4 : Hid (SmAt w4 B m v xs ∧ Chg [m] w w4 ∧ V .f64 r4 = Pl.mean xs) := ⟨HS.out.ext (X3.out.trans x4), Chg.of_ext (X3.out.trans x4), hr4⟩
        clear x4 hr4 g6 g7 hz
        go_wp2_with fail
        refine (smmin_some w4 B m v xs X4.out.1 HN.out).mono ?_
        rintro e w5 ⟨r5, rfl, hr5, s5, c5⟩
        have X5 : Hid (SmAt w5 B m v xs ∧ Chg [m] w w5 ∧ V .f64 r5 = Pl.minL xs) := ⟨s5, X4.out.2.1.trans c5, hr5⟩
        clear s5 c5 hr5
        go_wp2_with fail
        refine (smmax_some w5 B m v xs X5.out.1 HN.out).mono ?_
        rintro e w6 ⟨r6, rfl, hr6, s6, c6⟩
        have X6 : Hid (SmAt w6 B m v xs ∧ Chg [m] w w6 ∧ V .f64 r6 = Pl.maxL xs) := ⟨s6, X5.out.2.1.trans c6, hr6⟩
        obtain ⟨c', hc'⟩ := s6.hp
        have f0 : w6.cell? ⟨m, 1, none⟩ = some (.int .i64 c') := cell_of hc' 1
        have ff := frozen_of hc'
        clear s6 c6 hr6 hc'
        have X7 : Hid (SmAt (w6.setCell ⟨m, 1, none⟩ (.int .i64 c)) B m v xs ∧ Chg [m] w (w6.setCell ⟨m, 1, none⟩ (.int .i64 c))) := ⟨X6.out.1.asks c, X6.out.2.1.setCell (by simp) _⟩
        go_wp2_with fail
        refine (text_any r4 _).mono ?_
        rintro e w8 ⟨rfl, x8⟩
        rw [X4.out.2.2]
        have B2 : (st (text (Pl.mean xs))).size ≤ 50 := by rw [Tx.st_size]; exact text_len _
        have X8 : Hid (SmAt w8 B m v xs ∧ Chg [m] w w8) := ⟨X7.out.1.ext x8, X7.out.2.then x8⟩
        clear x8 f0 ff
        generalize st (text (Pl.mean xs)) = T2 at *
        have SO2 : (O ++ { data := #[32, 115, 61] } ++ T).size = O.size + 3 + T.size := by rw [ByteArray.size_append, SO]
        have SO3 : (O ++ { data := #[32, 115, 61] } ++ T ++ { data := #[32, 109, 61] }).size = O.size + 3 + T.size + 3 := by rw [ByteArray.size_append, SO2]; rfl
        have SO4 : (O ++ { data := #[32, 115, 61] } ++ T ++ { data := #[32, 109, 61] } ++ T2).size = O.size + 3 + T.size + 3 + T2.size := by rw [ByteArray.size_append, SO3]
        have SO5 : (O ++ { data := #[32, 115, 61] } ++ T ++ { data := #[32, 109, 61] } ++ T2 ++ { data := #[32, 108, 61] }).size = O.size + 3 + T.size + 3 + T2.size + 3 := by rw [ByteArray.size_append, SO4]; rfl
        go_wp2_with fail
        refine (text_any r5 _).mono ?_
        rintro e w9 ⟨rfl, x9⟩
        rw [X5.out.2.2]
        have B3 : (st (text (Pl.minL xs))).size ≤ 50 := by rw [Tx.st_size]; exact text_len _
        have X9 : Hid (SmAt w9 B m v xs ∧ Chg [m] w w9) := ⟨X8.out.1.ext x9, X8.out.2.then x9⟩
        clear x9
        generalize st (text (Pl.minL xs)) = T3 at *
        have SO6 : (O ++ { data := #[32, 115, 61] } ++ T ++ { data := #[32, 109, 61] } ++ T2 ++ { data := #[32, 108, 61] } ++ T3).size = O.size + 3 + T.size + 3 + T2.size + 3 + T3.size := by rw [ByteArray.size_append, SO5]
        have SO7 : (O ++ { data := #[32, 115, 61] } ++ T ++ { data := #[32, 109, 61] } ++ T2 ++ { data := #[32, 108, 61] } ++ T3 ++ { data := #[32, 104, 61] }).size = O.size + 3 + T.size + 3 + T2.size + 3 + T3.size + 3 := by rw [ByteArray.size_append, SO6]; rfl
        go_wp2_with fail
        refine (text_any r6 _).mono ?_
        rintro e w10 ⟨rfl, x10⟩
        rw [X6.out.2.2]
        have B4 : (st (text (Pl.maxL xs))).size ≤ 50 := by rw [Tx.st_size]; exact text_len _
        have X10 : Hid (SmAt w10 B m v xs ∧ Chg [m] w w10) := ⟨X9.out.1.ext x10, X9.out.2.then x10⟩
        clear x10
        generalize st (text (Pl.maxL xs)) = T4 at *
        go_wp2
        go_ret
        exact ⟨by rw [HSS.out]; rfl, X10.out⟩
/-- The law's own pair. -/
structure HId where
  mx : Nat
  my : Nat
  vx : Value
  vy : Value
def HId.all (h : HId) : List Nat := h.mx :: h.my :: (blk h.vx ++ blk h.vy)
structure PairAt (w : World) (B : Nat) (h : HId) (xs ys : List Datum) : Prop where
  sx : SmAt w B h.mx h.vx xs
  sy : SmAt w B h.my h.vy ys
  len : ys.length = xs.length
  d1 : h.mx ≠ h.my
  d2 : h.mx ∉ blk h.vy
  d3 : h.my ∉ blk h.vx
  d4 : ∀ g, g ∈ blk h.vx → g ∉ blk h.vy
theorem PairAt.chg {S : List Nat} {w w' : World} {B : Nat} {h : HId} {xs ys : List Datum} (p : PairAt w B h xs ys) (hx : Chg S w w') (hn : ∀ k, k ∈ h.all → k ∉ S) : PairAt w' B h xs ys :=
  ⟨p.sx.chg hx (hn _ (by simp [HId.all])) (fun g hg => hn g (by simp [HId.all, hg])), p.sy.chg hx (hn _ (by simp [HId.all])) (fun g hg => hn g (by simp [HId.all, hg])), p.len, p.d1, p.d2, p.d3, p.d4⟩
theorem PairAt.ext {w w' : World} {B : Nat} {h : HId} {xs ys : List Datum} (p : PairAt w B h xs ys) (hx : Ext w w') : PairAt w' B h xs ys := p.chg (S := []) (Chg.of_ext hx) (by simp)
theorem PairAt.lt {w : World} {B : Nat} {h : HId} {xs ys : List Datum} (p : PairAt w B h xs ys) : ∀ k, k ∈ h.all → k < w.heap.size ∧ B ≤ k := by
  intro k hk
  simp only [HId.all, List.mem_cons, List.mem_append] at hk
  rcases hk with rfl | rfl | hk | hk
  · exact ⟨p.sx.lt.1, p.sx.hB⟩
  · exact ⟨p.sy.lt.1, p.sy.hB⟩
  · exact p.sx.lt.2 k hk
  · exact p.sy.lt.2 k hk
/-- A question of the one, of the other. -/
theorem PairAt.turnX {w w' : World} {B : Nat} {h : HId} {xs ys : List Datum} (p : PairAt w B h xs ys) (s : SmAt w' B h.mx h.vx xs) (c : Chg [h.mx] w w') : PairAt w' B h xs ys :=
  ⟨s, p.sy.chg c (by simp; exact Ne.symm p.d1) (by simp; intro g hg e; subst e; exact p.d2 hg), p.len, p.d1, p.d2, p.d3, p.d4⟩
theorem PairAt.turnY {w w' : World} {B : Nat} {h : HId} {xs ys : List Datum} (p : PairAt w B h xs ys) (s : SmAt w' B h.my h.vy ys) (c : Chg [h.my] w w') : PairAt w' B h xs ys :=
  ⟨p.sx.chg c (by simp; exact p.d1) (by simp; intro g hg e; subst e; exact p.d3 hg), s, p.len, p.d1, p.d2, p.d3, p.d4⟩
set_option maxRecDepth 100000 in
set_option maxHeartbeats 2000000 in
theorem handed_any (w : World) (B : Nat) (i : BId) (h : HId) (xs ys : List Datum) (hb : BoxAt w i (Pl.lv xs) (Pl.lv ys)) (hp : PairAt w B h xs ys) (dis : ∀ k, k ∈ i.all → k ∉ h.all) :
    Calls Try.prog 22 #[.agg #[.pointer (some ⟨i.px, 0, none⟩), .pointer (some ⟨i.py, 0, none⟩)], .agg #[.pointer (some ⟨h.mx, 0, none⟩), .pointer (some ⟨h.my, 0, none⟩)]] w fun e w' => e = .returned (.bool true) ∧ BoxAt w' i (Pl.lv xs) (Pl.lv ys) ∧ PairAt w' B h xs ys ∧ Chg [h.mx, h.my] w w' := by
  have HB : Hid (BoxAt w i (Pl.lv xs) (Pl.lv ys) ∧ PairAt w B h xs ys) := ⟨hb, hp⟩
  have HD : Hid (∀ k, k ∈ i.all → k ∉ [h.mx, h.my]) := fun k hk hm => dis k hk (by simp [HId.all] at hm ⊢; omega)
  have hl1 := hp.lt h.mx (by simp [HId.all])
  have hl2 := hp.lt h.my (by simp [HId.all])
  have HL : Hid (h.mx < w.heap.size ∧ h.my < w.heap.size) := ⟨hl1.1, hl2.1⟩
  clear hb hp dis hl1 hl2
  go_enter Try.func22, Try.ntmps22
  go_wp2_with fail
  obtain ⟨W0, hW0⟩ : ∃ W0, W0 = (w.alloc (.cells #[.pointer (some ⟨i.px, 0, none⟩), .pointer (some ⟨i.py, 0, none⟩)] 27)).alloc (.cells #[.pointer (some ⟨h.mx, 0, none⟩), .pointer (some ⟨h.my, 0, none⟩)] 42) := ⟨_, rfl⟩
  have X0 : Hid (Ext w W0 ∧ W0.heap[w.heap.size]? = some (.cells #[.pointer (some ⟨i.px, 0, none⟩), .pointer (some ⟨i.py, 0, none⟩)] 27) ∧ W0.heap[w.heap.size + 1]? = some (.cells #[.pointer (some ⟨h.mx, 0, none⟩), .pointer (some ⟨h.my, 0, none⟩)] 42)) := by
    rw [hW0]
    exact ⟨((Ext.refl w).alloc _).alloc _, heap_alloc_lt (heap_alloc_new w _), heap_alloc2 w _ _⟩
  rw [← hW0]
  clear hW0
  refine (sshow_any W0 i.px i.Lx xs (HB.out.1.sx.ext X0.out.1)).mono ?_
  rintro e w1 ⟨rfl, x1⟩
  have X1 : Hid (Ext w w1 ∧ w1.heap[w.heap.size]? = some (.cells #[.pointer (some ⟨i.px, 0, none⟩), .pointer (some ⟨i.py, 0, none⟩)] 27) ∧ w1.heap[w.heap.size + 1]? = some (.cells #[.pointer (some ⟨h.mx, 0, none⟩), .pointer (some ⟨h.my, 0, none⟩)] 42)) := ⟨X0.out.1.trans x1, x1.heap X0.out.2.1, x1.heap X0.out.2.2⟩
  have g1 : w1.cell? ⟨w.heap.size + 1, 0, none⟩ = some (.pointer (some ⟨h.mx, 0, none⟩)) := cell_of X1.out.2.2 0
  clear x1 X0
  go_wp2_with fail
  have P1 : Hid (PairAt w1 B h xs ys) := HB.out.2.ext X1.out.1
  refine (smshow_any w1 B h.mx h.vx xs P1.out.sx).mono ?_
  rintro e w2 ⟨rfl, s2, c2⟩
  have n1 : w.heap.size ∉ [h.mx] := by have := HL.out; simp; omega
  have n2 : w.heap.size + 1 ∉ [h.mx] := by have := HL.out; simp; omega
  have X2 : Hid (PairAt w2 B h xs ys ∧ BoxAt w2 i (Pl.lv xs) (Pl.lv ys) ∧ Chg [h.mx, h.my] w w2 ∧ w2.heap[w.heap.size]? = some (.cells #[.pointer (some ⟨i.px, 0, none⟩), .pointer (some ⟨i.py, 0, none⟩)] 27) ∧ w2.heap[w.heap.size + 1]? = some (.cells #[.pointer (some ⟨h.mx, 0, none⟩), .pointer (some ⟨h.my, 0, none⟩)] 42)) :=
    ⟨P1.out.turnX s2 c2, (HB.out.1.ext X1.out.1).chg c2 (fun k hk hm => HD.out k hk (by simp at hm ⊢; omega)), (Chg.of_ext X1.out.1).trans (c2.mono (by simp)), c2.heap X1.out.2.1 n1, c2.heap X1.out.2.2 n2⟩
  have g2 : w2.cell? ⟨w.heap.size, 1, none⟩ = some (.pointer (some ⟨i.py, 0, none⟩)) := cell_of X2.out.2.2.2.1 1
  clear s2 c2 n1 n2 g1 X1 P1
  go_wp2_with fail
  refine (sshow_any w2 i.py i.Ly ys X2.out.2.1.sy).mono ?_
  rintro e w3 ⟨rfl, x3⟩
  have X3 : Hid (PairAt w3 B h xs ys ∧ BoxAt w3 i (Pl.lv xs) (Pl.lv ys) ∧ Chg [h.mx, h.my] w w3 ∧ w3.heap[w.heap.size + 1]? = some (.cells #[.pointer (some ⟨h.mx, 0, none⟩), .pointer (some ⟨h.my, 0, none⟩)] 42)) := ⟨X2.out.1.ext x3, X2.out.2.1.ext x3, X2.out.2.2.1.then x3, x3.heap X2.out.2.2.2.2⟩
  have g3 : w3.cell? ⟨w.heap.size + 1, 1, none⟩ = some (.pointer (some ⟨h.my, 0, none⟩)) := cell_of X3.out.2.2.2 1
  clear x3 g2 X2
  go_wp2_with fail
  refine (smshow_any w3 B h.my h.vy ys X3.out.1.sy).mono ?_
  rintro e w4 ⟨rfl, s4, c4⟩
  have X4 : Hid (BoxAt w4 i (Pl.lv xs) (Pl.lv ys) ∧ PairAt w4 B h xs ys ∧ Chg [h.mx, h.my] w w4) :=
    ⟨X3.out.2.1.chg c4 (fun k hk hm => HD.out k hk (by simp at hm ⊢; omega)), X3.out.1.turnY s4 c4, X3.out.2.2.1.trans (c4.mono (by simp))⟩
  clear s4 c4 g3 X3
  go_wp2
  go_ret
  exact ⟨rfl, X4.out⟩
end Go.Proofs.Qxb6500343a
