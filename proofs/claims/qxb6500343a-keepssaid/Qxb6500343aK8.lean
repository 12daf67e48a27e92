/-
  Walks of Keeps 8: Bounds.
-/
import Derived.Test.Qxb6500343aK7
import Derived.Test.Qxb6500343aFq
namespace Go.Proofs.Qxb6500343a
open Go.RowKit
open Go.Proofs
open Ieee (Datum)
open Fl
open Tx (st)
open Ff (in64)
set_option linter.unusedSimpArgs false
set_option linter.unusedVariables false
attribute [local go_sem] run_fadd run_fsub run_fmul run_fquo run_store_float alloc_drewN setCell_drewN shape?_drewN tape_alloc drawn_alloc tape_setCell drawn_setCell drawn_drewN drawn_drew run_fneg

/-- What stands while the law looks at box and pair. -/
structure Bst (w w1 : World) (B : Nat) (i : BId) (h : HId) (xs ys : List Datum) : Prop where
  p : PairAt w1 B h xs ys
  b : BoxAt w1 i (Pl.lv xs) (Pl.lv ys)
  c : Chg [h.mx, h.my] w w1
  hb : w1.heap[w.heap.size]? = some (.cells #[.pointer (some ⟨h.mx, 0, none⟩), .pointer (some ⟨h.my, 0, none⟩)] 42)
  dis : ∀ k, k ∈ i.all → k ∉ [h.mx, h.my]
  l1 : h.mx < w.heap.size
  l2 : h.my < w.heap.size
theorem Bst.ext {w w1 w2 : World} {B : Nat} {i : BId} {h : HId} {xs ys : List Datum} (s : Bst w w1 B i h xs ys) (hx : Ext w1 w2) : Bst w w2 B i h xs ys :=
  ⟨s.p.ext hx, s.b.ext hx, s.c.then hx, hx.heap s.hb, s.dis, s.l1, s.l2⟩
theorem Bst.turnX {w w1 w2 : World} {B : Nat} {i : BId} {h : HId} {xs ys : List Datum} (s : Bst w w1 B i h xs ys) (s2 : SmAt w2 B h.mx h.vx xs) (c2 : Chg [h.mx] w1 w2) : Bst w w2 B i h xs ys :=
  ⟨s.p.turnX s2 c2, s.b.chg c2 (fun k hk hm => s.dis k hk (by simp at hm ⊢; omega)), s.c.trans (c2.mono (by simp)), c2.heap s.hb (by have := s.l1; simp; omega), s.dis, s.l1, s.l2⟩
theorem Bst.turnY {w w1 w2 : World} {B : Nat} {i : BId} {h : HId} {xs ys : List Datum} (s : Bst w w1 B i h xs ys) (s2 : SmAt w2 B h.my h.vy ys) (c2 : Chg [h.my] w1 w2) : Bst w w2 B i h xs ys :=
  ⟨s.p.turnY s2 c2, s.b.chg c2 (fun k hk hm => s.dis k hk (by simp at hm ⊢; omega)), s.c.trans (c2.mono (by simp)), c2.heap s.hb (by have := s.l2; simp; omega), s.dis, s.l1, s.l2⟩
theorem Bst.cells {w w1 : World} {B : Nat} {i : BId} {h : HId} {xs ys : List Datum} (s : Bst w w1 B i h xs ys) : w1.cell? ⟨w.heap.size, 0, none⟩ = some (.pointer (some ⟨h.mx, 0, none⟩)) ∧ w1.cell? ⟨w.heap.size, 1, none⟩ = some (.pointer (some ⟨h.my, 0, none⟩)) := ⟨cell_of s.hb 0, cell_of s.hb 1⟩
theorem Bst.new {w : World} {B : Nat} {i : BId} {h : HId} {xs ys : List Datum} (hb : BoxAt w i (Pl.lv xs) (Pl.lv ys)) (hp : PairAt w B h xs ys) (dis : ∀ k, k ∈ i.all → k ∉ h.all) : Bst w (w.alloc (.cells #[.pointer (some ⟨h.mx, 0, none⟩), .pointer (some ⟨h.my, 0, none⟩)] 42)) B i h xs ys := by
  have x : Ext w (w.alloc (.cells #[.pointer (some ⟨h.mx, 0, none⟩), .pointer (some ⟨h.my, 0, none⟩)] 42)) := (Ext.refl w).alloc _
  exact ⟨hp.ext x, hb.ext x, Chg.of_ext x, heap_alloc_new w _, fun k hk hm => dis k hk (by simp [HId.all] at hm ⊢; omega), (hp.lt _ (by simp [HId.all])).1, (hp.lt _ (by simp [HId.all])).1⟩
theorem e_len (w : World) (i : BId) (xs ys : List Datum) (h : BoxAt w i (Pl.lv xs) (Pl.lv ys)) : Calls Try.prog 36 #[.pointer (some ⟨i.b, 0, none⟩)] w fun e w' => e = .returned (.int .i64 xs.length) ∧ Ext w w' := by
  have := blen_any w i _ _ h
  rw [Pl.lv_len] at this
  exact this
theorem e_show (w : World) (i : BId) (xs ys : List Datum) (h : BoxAt w i (Pl.lv xs) (Pl.lv ys)) : Calls Try.prog 40 #[.pointer (some ⟨i.b, 0, none⟩)] w fun e w' => e = .returned (.string (st (showB xs.length (AX xs) (AX ys)))) ∧ Ext w w' := by
  have := show_any w i _ _ h
  rw [Pl.lv_len] at this
  exact this
theorem e_c (w : World) (i : BId) (xs ys : List Datum) (k : Int) (d : Datum) (h : BoxAt w i (Pl.lv xs) (Pl.lv ys)) (hn : 0 < xs.length) (hk : corner (AX xs) (AX ys) false k = (d, 0)) :
    Calls Try.prog 37 #[.pointer (some ⟨i.b, 0, none⟩), .int .i64 k] w fun e w' => ∃ r, e = .returned (.tuple #[.float .f32 r, .int .i64 0]) ∧ V .f32 r = d ∧ Ext w w' := by
  have := e_corner w i xs ys k h
  rw [iE_pos hn, hk] at this
  exact this
theorem fit_min {xs : List Datum} (h : Pl.Rat xs) (hn : 0 < xs.length) : fits32 (Pl.minL xs) = true ∧ fits32 (Pl.maxL xs) = true := by
  have h0 : xs ≠ [] := by rintro rfl; simp at hn
  have hb := Pl.min_Bd h h0
  exact ⟨Ff.fits_Bd fun s m e he h0 => Int.le_trans (hb.1 s m e he h0) (by decide), Ff.fits_Bd fun s m e he h0 => Int.le_trans (hb.2 s m e he h0) (by decide)⟩
theorem fit_mem {xs : List Datum} (h : Pl.Rat xs) {x : Datum} (hx : x ∈ xs) : fits32 x = true :=
  Ff.fits_Bd fun s m e he h0 => Int.le_trans (h x hx s m e he h0) (by decide)
/-- The bits of 'tight'. -/
def bits (a b c d : Bool) : Int := (if a then 1 else 0) + (if b then 2 else 0) + (if c then 4 else 0) + (if d then 8 else 0)
theorem bits_step (a b c d p1 p2 q1 q2 : Bool) : Go.bits .or .i64 (Go.bits .or .i64 (bits a b c d) ((if p1 then 1 else 0) + (if p2 then 4 else 0))) (wrap64 (((if q1 then 1 else 0) + (if q2 then 4 else 0)) * 2)) = bits (a || p1) (b || q1) (c || p2) (d || q2) := by
  revert a b c d p1 p2 q1 q2
  decide +kernel
theorem and5 (b d : Bool) : Go.bits .and .i64 (bits true b true d) 5 = 5 := by revert b d; decide +kernel
theorem and10 (a c : Bool) : Go.bits .and .i64 (bits a true c true) 10 = 10 := by revert a c; decide +kernel
def hit (xs : List Datum) (k : Nat) (d : Datum) : Bool := (xs.take k).any fun x => eq (to32 x) d
theorem hit_step (xs : List Datum) (k : Nat) (d : Datum) (hk : k < xs.length) : hit xs (k + 1) d = (hit xs k d || eq (to32 (xs.getD k Pl.zero64)) d) := by
  unfold hit
  rw [List.take_add_one, List.getElem?_eq_getElem hk]
  simp only [Option.toList_some, List.any_append, List.any_cons, List.any_nil, Bool.or_false]
  rw [List.getD_eq_getElem?_getD, List.getElem?_eq_getElem hk]
  rfl
theorem getD_mem {xs : List Datum} {k : Nat} (hk : k < xs.length) : xs.getD k Pl.zero64 ∈ xs := by
  rw [List.getD_eq_getElem?_getD, List.getElem?_eq_getElem hk]
  exact List.getElem_mem hk
def BdR (wl : World) (xs ys : List Datum) (t i : Value) (wr : World) : Prop := ∃ (k : Nat) (T : Int), k ≤ xs.length ∧ i = .int .i64 k ∧ t = .int .i64 T ∧ T = bits (hit xs k (AX xs).lo) (hit ys k (AX ys).lo) (hit xs k (AX xs).hi) (hit ys k (AX ys).hi) ∧ Ext wl wr
set_option maxRecDepth 100000 in
set_option maxHeartbeats 16000000 in
theorem bounds_some (w : World) (B : Nat) (i : BId) (h : HId) (xs ys : List Datum) (hb : BoxAt w i (Pl.lv xs) (Pl.lv ys)) (hp : PairAt w B h xs ys) (dis : ∀ k, k ∈ i.all → k ∉ h.all) (hn : 0 < xs.length) (rx : Pl.Rat xs) (ry : Pl.Rat ys) :
    Calls Try.prog 23 #[.pointer (some ⟨i.b, 0, none⟩), .agg #[.pointer (some ⟨h.mx, 0, none⟩), .pointer (some ⟨h.my, 0, none⟩)]] w fun e w' => e = .returned (.bool true) ∧ BoxAt w' i (Pl.lv xs) (Pl.lv ys) ∧ PairAt w' B h xs ys ∧ Chg [h.mx, h.my] w w' := by
  have hny : 0 < ys.length := by rw [hp.len]; exact hn
  have HN : Hid (0 < xs.length ∧ 0 < ys.length ∧ ys.length = xs.length) := ⟨hn, hny, hp.len⟩
  have HR : Hid (Pl.Rat xs ∧ Pl.Rat ys) := ⟨rx, ry⟩
  have B0 : Hid _ := Bst.new hb hp dis
  have hl8 := hp.sx.len
  have hpos : decide ((0 : Int) < (xs.length : Int)) = true := decide_eq_true (by omega)
  have h0i : (0 : Int) < (xs.length : Int) := by omega
  clear hb hp dis rx ry hny
  go_enter Try.func23, Try.ntmps23
  go_wp2_with fail
  refine (smlen_any _ B h.mx h.vx xs B0.out.p.sx).mono ?_
  rintro e w1 ⟨rfl, x1⟩
  have B1 : Hid (Bst w w1 B i h xs ys) := B0.out.ext x1
  clear x1 B0
  go_wp2_with fail
  refine (e_len _ i xs ys B1.out.b).mono ?_
  rintro e w2 ⟨rfl, x2⟩
  have B2 : Hid (Bst w w2 B i h xs ys) := B1.out.ext x2
  clear x2 B1
  go_wp2_with fail
  refine (e_c _ i xs ys 0 (AX xs).lo B2.out.b HN.out.1 rfl).mono ?_
  rintro e w3 ⟨lx, rfl, hlx, x3⟩
  have B3 : Hid (Bst w w3 B i h xs ys ∧ V .f32 lx = (AX xs).lo) := ⟨B2.out.ext x3, hlx⟩
  clear x3 hlx B2
  go_wp2_with fail
  refine (e_c _ i xs ys 1 (AX ys).lo B3.out.1.b HN.out.1 rfl).mono ?_
  rintro e w4 ⟨ly, rfl, hly, x4⟩
  have B4 : Hid (Bst w w4 B i h xs ys ∧ V .f32 ly = (AX ys).lo) := ⟨B3.out.1.ext x4, hly⟩
  clear x4 hly
  go_wp2_with fail
  refine (e_c _ i xs ys 2 (AX xs).hi B4.out.1.b HN.out.1 rfl).mono ?_
  rintro e w5 ⟨hx, rfl, hhx, x5⟩
  have B5 : Hid (Bst w w5 B i h xs ys ∧ V .f32 hx = (AX xs).hi) := ⟨B4.out.1.ext x5, hhx⟩
  clear x5 hhx
  go_wp2_with fail
  refine (e_c _ i xs ys 3 (AX ys).hi B5.out.1.b HN.out.1 rfl).mono ?_
  rintro e w6 ⟨hy, rfl, hhy, x6⟩
  have HV : Hid (V .f32 lx = (AX xs).lo ∧ V .f32 ly = (AX ys).lo ∧ V .f32 hx = (AX xs).hi ∧ V .f32 hy = (AX ys).hi) := ⟨B3.out.2, B4.out.2, B5.out.2, hhy⟩
  have B6 : Hid (Bst w w6 B i h xs ys) := B5.out.1.ext x6
  clear x6 hhy B3 B4 B5
  go_wp2_with fail
  refine (itoa_all (xs.length : Int) (by unfold in64; omega) _).mono ?_
  rintro e w7 ⟨rfl, x7⟩
  have L1 : (st (Tx.itoa (xs.length : Int))).size ≤ 21 := by rw [Tx.st_size]; exact Tx.itoa_len _
  have B7 : Hid (Bst w w7 B i h xs ys) := B6.out.ext x7
  have HT : Hid (st (showB xs.length (AX xs) (AX ys)) = { data := #[110, 61] } ++ st (Tx.itoa (xs.length : Int)) ++ { data := #[32] } ++ st (text32 (AX xs).lo) ++ { data := #[32] } ++ st (text32 (AX ys).lo) ++ { data := #[32] } ++ st (text32 (AX xs).hi) ++ { data := #[32] } ++ st (text32 (AX ys).hi)) := by
    show _ = _
    unfold showB
    rw [if_neg (by have := HN.out; omega)]
    simp only [← Tx.st_append]; rfl
  have T1 : (st (text32 (AX xs).lo)).size ≤ 50 := by rw [Tx.st_size]; exact text_len _
  have T2 : (st (text32 (AX ys).lo)).size ≤ 50 := by rw [Tx.st_size]; exact text_len _
  have T3 : (st (text32 (AX xs).hi)).size ≤ 50 := by rw [Tx.st_size]; exact text_len _
  have T4 : (st (text32 (AX ys).hi)).size ≤ 50 := by rw [Tx.st_size]; exact text_len _
  have HTX : Hid (st (text32 (V .f32 lx)) = st (text32 (AX xs).lo) ∧ st (text32 (V .f32 ly)) = st (text32 (AX ys).lo) ∧ st (text32 (V .f32 hx)) = st (text32 (AX xs).hi) ∧ st (text32 (V .f32 hy)) = st (text32 (AX ys).hi)) := by
    rw [HV.out.1, HV.out.2.1, HV.out.2.2.1, HV.out.2.2.2]
    exact ⟨rfl, rfl, rfl, rfl⟩
  have hx0 : xs ≠ [] := by rintro rfl; simp at hn
  have hy0 : ys ≠ [] := by have := HN.out.2.1; rintro rfl; simp at this
  have HMM : Hid ((AX xs).lo = to32 (Pl.minL xs) ∧ (AX ys).lo = to32 (Pl.minL ys) ∧ (AX xs).hi = to32 (Pl.maxL xs) ∧ (AX ys).hi = to32 (Pl.maxL ys)) := ⟨(Kf.lo_hi hx0).1, (Kf.lo_hi hy0).1, (Kf.lo_hi hx0).2.1, (Kf.lo_hi hy0).2.1⟩
  have HTM : Hid (∀ (d : Datum), (d = (AX xs).lo → st (text32 d) = st (text32 (AX xs).lo)) ∧ (d = (AX ys).lo → st (text32 d) = st (text32 (AX ys).lo)) ∧ (d = (AX xs).hi → st (text32 d) = st (text32 (AX xs).hi)) ∧ (d = (AX ys).hi → st (text32 d) = st (text32 (AX ys).hi))) := fun d => ⟨fun e => by rw [e], fun e => by rw [e], fun e => by rw [e], fun e => by rw [e]⟩
  clear x7 B6 hx0 hy0
  generalize st (Tx.itoa (xs.length : Int)) = A at *
  generalize st (text32 (AX xs).lo) = S1 at *
  generalize st (text32 (AX ys).lo) = S2 at *
  generalize st (text32 (AX xs).hi) = S3 at *
  generalize st (text32 (AX ys).hi) = S4 at *
  go_wp2_with fail
  refine (text32_any lx _).mono ?_
  rintro e w8 ⟨rfl, x8⟩
  rw [HTX.out.1]
  have B8 : Hid (Bst w w8 B i h xs ys) := B7.out.ext x8
  clear x8 B7
  go_wp2_with fail
  refine (text32_any ly _).mono ?_
  rintro e w9 ⟨rfl, x9⟩
  rw [HTX.out.2.1]
  have B9 : Hid (Bst w w9 B i h xs ys) := B8.out.ext x9
  clear x9 B8
  go_wp2_with fail
  refine (text32_any hx _).mono ?_
  rintro e w10 ⟨rfl, x10⟩
  rw [HTX.out.2.2.1]
  have B10 : Hid (Bst w w10 B i h xs ys) := B9.out.ext x10
  clear x10 B9
  go_wp2_with fail
  refine (text32_any hy _).mono ?_
  rintro e w11 ⟨rfl, x11⟩
  rw [HTX.out.2.2.2]
  have B11 : Hid (Bst w w11 B i h xs ys) := B10.out.ext x11
  clear x11 B10
  go_wp2_with fail
  refine (e_show _ i xs ys B11.out.b).mono ?_
  rintro e w12 ⟨rfl, x12⟩
  rw [HT.out]
  have B12 : Hid (Bst w w12 B i h xs ys) := B11.out.ext x12
  have c12 := B12.out.cells.1
  clear x12 B11
  generalize { data := #[110, 61] } ++ A ++ { data := #[32] } ++ S1 ++ { data := #[32] } ++ S2 ++ { data := #[32] } ++ S3 ++ { data := #[32] } ++ S4 = SH at *
  go_wp2_with fail
  refine (smmin_some _ B h.mx h.vx xs B12.out.p.sx HN.out.1).mono ?_
  rintro e w13 ⟨r1, rfl, hr1, s13, k13⟩
  have B13 : Hid (Bst w w13 B i h xs ys ∧ V .f64 r1 = Pl.minL xs) := ⟨B12.out.turnX s13 k13, hr1⟩
  have c13 := B13.out.1.cells.2
  clear s13 k13 hr1 c12 B12
  go_wp2_with fail
  refine (smmin_some _ B h.my h.vy ys B13.out.1.p.sy HN.out.2.1).mono ?_
  rintro e w14 ⟨r2, rfl, hr2, s14, k14⟩
  have B14 : Hid (Bst w w14 B i h xs ys ∧ V .f64 r2 = Pl.minL ys) := ⟨B13.out.1.turnY s14 k14, hr2⟩
  have c14 := B14.out.1.cells.1
  clear s14 k14 hr2 c13
  go_wp2_with fail
  refine (smmax_some _ B h.mx h.vx xs B14.out.1.p.sx HN.out.1).mono ?_
  rintro e w15 ⟨r3, rfl, hr3, s15, k15⟩
  have B15 : Hid (Bst w w15 B i h xs ys ∧ V .f64 r3 = Pl.maxL xs) := ⟨B14.out.1.turnX s15 k15, hr3⟩
  have c15 := B15.out.1.cells.2
  clear s15 k15 hr3 c14
  go_wp2_with fail
  refine (smmax_some _ B h.my h.vy ys B15.out.1.p.sy HN.out.2.1).mono ?_
  rintro e w16 ⟨r4, rfl, hr4, s16, k16⟩
  have B16 : Hid (Bst w w16 B i h xs ys) := B15.out.1.turnY s16 k16
  have F1 : fits32 (V .f64 r1) = true := by rw [B13.out.2]; exact (fit_min HR.out.1 HN.out.1).1
  have F2 : fits32 (V .f64 r2) = true := by rw [B14.out.2]; exact (fit_min HR.out.2 HN.out.2.1).1
  have F3 : fits32 (V .f64 r3) = true := by rw [B15.out.2]; exact (fit_min HR.out.1 HN.out.1).2
  have F4 : fits32 (V .f64 r4) = true := by rw [hr4]; exact (fit_min HR.out.2 HN.out.2.1).2
  have HC : Hid ((∀ τ n, V .f32 (cvb r1 τ n) = (AX xs).lo) ∧ (∀ τ n, V .f32 (cvb r2 τ n) = (AX ys).lo) ∧ (∀ τ n, V .f32 (cvb r3 τ n) = (AX xs).hi) ∧ (∀ τ n, V .f32 (cvb r4 τ n) = (AX ys).hi)) :=
    ⟨fun τ n => by rw [V_to32 _ _ _ F1, B13.out.2, HMM.out.1], fun τ n => by rw [V_to32 _ _ _ F2, B14.out.2, HMM.out.2.1], fun τ n => by rw [V_to32 _ _ _ F3, B15.out.2, HMM.out.2.2.1], fun τ n => by rw [V_to32 _ _ _ F4, hr4, HMM.out.2.2.2]⟩
  have v1 := fun wx => run_to32 (P := Try.prog) wx 80 35 r1 (by rw [Try.underlying80]; rfl) Try.underlying35 F1
  have v2 := fun wx => run_to32 (P := Try.prog) wx 80 35 r2 (by rw [Try.underlying80]; rfl) Try.underlying35 F2
  have v3 := fun wx => run_to32 (P := Try.prog) wx 80 35 r3 (by rw [Try.underlying80]; rfl) Try.underlying35 F3
  have v4 := fun wx => run_to32 (P := Try.prog) wx 80 35 r4 (by rw [Try.underlying80]; rfl) Try.underlying35 F4
  clear s16 k16 hr4 c15 F1 F2 F3 F4 B13 B14 B15
  go_wp2_with fail
  refine (text32_any (cvb r1 _ _) _).mono ?_
  rintro e w17 ⟨rfl, x17⟩
  rw [(HTM.out _).1 (HC.out.1 _ _)]
  have B17 : Hid (Bst w w17 B i h xs ys) := (B16.out.ext ((Ext.refl _).drewN _)).ext x17
  clear x17 B16 v1
  go_wp2_with fail
  refine (text32_any (cvb r2 _ _) _).mono ?_
  rintro e w18 ⟨rfl, x18⟩
  rw [(HTM.out _).2.1 (HC.out.2.1 _ _)]
  have B18 : Hid (Bst w w18 B i h xs ys) := (B17.out.ext ((Ext.refl _).drewN _)).ext x18
  clear x18 B17 v2
  go_wp2_with fail
  refine (text32_any (cvb r3 _ _) _).mono ?_
  rintro e w19 ⟨rfl, x19⟩
  rw [(HTM.out _).2.2.1 (HC.out.2.2.1 _ _)]
  have B19 : Hid (Bst w w19 B i h xs ys) := (B18.out.ext ((Ext.refl _).drewN _)).ext x19
  clear x19 B18 v3
  go_wp2_with fail
  refine (text32_any (cvb r4 _ _) _).mono ?_
  rintro e w20 ⟨rfl, x20⟩
  rw [(HTM.out _).2.2.2 (HC.out.2.2.2 _ _)]
  have B20 : Hid (Bst w w20 B i h xs ys) := (B19.out.ext ((Ext.refl _).drewN _)).ext x20
  clear x20 B19 v4
  go_wp2_with fail
  refine (text32_any lx _).mono ?_
  rintro e w21 ⟨rfl, x21⟩
  rw [HTX.out.1]
  have B21 : Hid (Bst w w21 B i h xs ys) := B20.out.ext x21
  clear x21 B20
  go_wp2_with fail
  refine (text32_any ly _).mono ?_
  rintro e w22 ⟨rfl, x22⟩
  rw [HTX.out.2.1]
  have B22 : Hid (Bst w w22 B i h xs ys) := B21.out.ext x22
  clear x22 B21
  go_wp2_with fail
  refine (text32_any hx _).mono ?_
  rintro e w23 ⟨rfl, x23⟩
  rw [HTX.out.2.2.1]
  have B23 : Hid (Bst w w23 B i h xs ys) := B22.out.ext x23
  clear x23 B22
  go_wp2_with fail
  refine (text32_any hy _).mono ?_
  rintro e w24 ⟨rfl, x24⟩
  rw [HTX.out.2.2.2]
  have B24 : Hid (Bst w w24 B i h xs ys) := B23.out.ext x24
  clear x24 B23
  go_wp2
  go_loopw [27, 28] (fun t i wr => BdR w24 xs ys t i wr) (fun _ i _ => xs.length - (intOf i).toNat)
  case atStart => exact ⟨0, 0, by omega, rfl, rfl, rfl, Ext.refl _⟩
  case round =>
    obtain ⟨k, T, hk, rfl, rfl, hT, hxr⟩ := hrel
    have BR : Hid (Bst w wr B i h xs ys) := B24.out.ext hxr
    have HT2 : Hid (T = bits (hit xs k (AX xs).lo) (hit ys k (AX ys).lo) (hit xs k (AX xs).hi) (hit ys k (AX ys).hi) ∧ Ext w24 wr) := ⟨hT, hxr⟩
    obtain ⟨cr0, cr1⟩ := BR.out.cells
    clear hT hxr
    by_cases hlt : k < xs.length
    · have hd : decide ((k : Int) < (xs.length : Int)) = true := decide_eq_true (by omega)
      have hk0 : (k : Int) < (xs.length : Int) := by omega
      have HLY : Hid (k < ys.length) := by show _ < _; rw [HN.out.2.2]; exact hlt
      go_wp2_with fail
      refine (smat_in wr B h.mx h.vx xs k BR.out.p.sx hlt).mono ?_
      rintro e wa ⟨u, rfl, hu, hwa⟩
      subst hwa
      have HU : Hid (V .f64 u = xs.getD k Pl.zero64) := hu
      clear hu
      go_wp2_with fail
      refine (smat_in wa B h.my h.vy ys k BR.out.p.sy HLY.out).mono ?_
      rintro e wb ⟨v, rfl, hv, hwb⟩
      subst hwb
      have mx := getD_mem hlt
      have my := getD_mem HLY.out
      have F1 : fits32 (V .f64 u) = true := by rw [HU.out]; exact fit_mem HR.out.1 mx
      have F2 : fits32 (V .f64 v) = true := by rw [hv]; exact fit_mem HR.out.2 my
      have V1 : ∀ τ n, V .f32 (cvb u τ n) = to32 (xs.getD k Pl.zero64) := fun τ n => by rw [V_to32 _ _ _ F1, HU.out]
      have V2 : ∀ τ n, V .f32 (cvb v τ n) = to32 (ys.getD k Pl.zero64) := fun τ n => by rw [V_to32 _ _ _ F2, hv]
      have c1 := fun wx => run_to32 (P := Try.prog) wx 80 35 u (by rw [Try.underlying80]; rfl) Try.underlying35 F1
      have c2 := fun wx => run_to32 (P := Try.prog) wx 80 35 v (by rw [Try.underlying80]; rfl) Try.underlying35 F2
      have HW : Hid ((∀ τ n, withinD (V .f32 (cvb u τ n)) (V .f32 lx) (V .f32 hx) = true) ∧ (∀ τ n, withinD (V .f32 (cvb v τ n)) (V .f32 ly) (V .f32 hy) = true)) :=
        ⟨fun τ n => by rw [V1, HV.out.1, HV.out.2.2.1]; exact Kf.within_mem mx, fun τ n => by rw [V2, HV.out.2.1, HV.out.2.2.2]; exact Kf.within_mem my⟩
      obtain ⟨X, hX⟩ : ∃ X, X = touchD (to32 (xs.getD k Pl.zero64)) (AX xs).lo (AX xs).hi := ⟨_, rfl⟩
      obtain ⟨Y, hY⟩ : ∃ Y, Y = touchD (to32 (ys.getD k Pl.zero64)) (AX ys).lo (AX ys).hi := ⟨_, rfl⟩
      have HTO : Hid ((∀ τ n, touchD (V .f32 (cvb u τ n)) (V .f32 lx) (V .f32 hx) = X) ∧ (∀ τ n, touchD (V .f32 (cvb v τ n)) (V .f32 ly) (V .f32 hy) = Y)) :=
        ⟨fun τ n => by rw [V1, HV.out.1, HV.out.2.2.1, hX], fun τ n => by rw [V2, HV.out.2.1, HV.out.2.2.2, hY]⟩
      have HXY : Hid (X = touchD (to32 (xs.getD k Pl.zero64)) (AX xs).lo (AX xs).hi ∧ Y = touchD (to32 (ys.getD k Pl.zero64)) (AX ys).lo (AX ys).hi) := ⟨hX, hY⟩
      clear hX hY
      clear F1 F2 V1 V2 hv mx my
      go_wp2_with fail
      refine (within_any (cvb u _ _) lx hx _).mono ?_
      rintro e wc ⟨rfl, hwc⟩
      rw [HW.out.1]
      subst hwc
      go_wp2_with fail
      refine (within_any (cvb v _ _) ly hy _).mono ?_
      rintro e wd ⟨rfl, hwd⟩
      rw [HW.out.2]
      subst hwd
      go_wp2_with fail
      refine (touch_any (cvb u _ _) lx hx _).mono ?_
      rintro e we ⟨rfl, hwe⟩
      rw [HTO.out.1]
      subst hwe
      go_wp2_with fail
      refine (touch_any (cvb v _ _) ly hy _).mono ?_
      rintro e wf ⟨rfl, hwf⟩
      rw [HTO.out.2]
      obtain ⟨NN, hNN⟩ : ∃ NN, wf = wb.drewN NN := ⟨_, hwf⟩
      clear hwf
      subst hNN
      go_wp2
      go_roundw
      case rel =>
        have hrel' : BdR w24 xs ys (.int .i64 (Go.bits .or .i64 (Go.bits .or .i64 T X) (wrap64 (Y * 2)))) (.int .i64 ((k : Int) + 1)) (wb.drewN NN) := by
          refine ⟨k + 1, _, by omega, by go_num, rfl, ?_, HT2.out.2.drewN _⟩
          rw [hit_step xs k _ hlt, hit_step xs k _ hlt, hit_step ys k _ HLY.out, hit_step ys k _ HLY.out, HT2.out.1, HXY.out.1, HXY.out.2]
          exact bits_step _ _ _ _ _ _ _ _
        first | exact hrel' | ((repeat apply Exists.intro); exact ⟨hrel', rfl⟩)
      case measure => simp [intOf]; omega
    · have hd : decide ((k : Int) < (xs.length : Int)) = false := decide_eq_false (by omega)
      have hx0 : xs ≠ [] := by rintro rfl; simp at hn
      have hy0 : ys ≠ [] := by have := HN.out.2.1; rintro rfl; simp at this
      have n1 := oo .f32 lx
      have n2 := oo .f32 ly
      rw [HV.out.1] at n1
      rw [HV.out.2.1] at n2
      have hkx : ∀ d, hit xs k d = xs.any fun x => eq (to32 x) d := fun d => by unfold hit; rw [List.take_of_length_le (by omega)]
      have hky : ∀ d, hit ys k d = ys.any fun x => eq (to32 x) d := fun d => by unfold hit; rw [List.take_of_length_le (by have := HN.out.2.2; omega)]
      have any1 : ∀ (zs : List Datum), zs ≠ [] → (AX zs).lo.isNaN = false → (zs.any fun x => eq (to32 x) (AX zs).lo) = true ∧ (zs.any fun x => eq (to32 x) (AX zs).hi) = true := by
        intro zs hz hq
        have hq2 := hq
        rw [Kf.lohi_nan hz] at hq2
        have m := Ff.min_mem zs hz
        have e1 := Pl.eq_self (AX zs).lo
        have e2 := Pl.eq_self (AX zs).hi
        rw [hq] at e1
        rw [hq2] at e2
        exact ⟨List.any_eq_true.2 ⟨_, m.1, by rw [← (Kf.lo_hi hz).1]; exact e1⟩, List.any_eq_true.2 ⟨_, m.2, by rw [← (Kf.lo_hi hz).2.1]; exact e2⟩⟩
      have A5 : Hid ((AX xs).lo.isNaN = false → Go.bits .and .i64 T 5 = 5) := fun hq => by
        obtain ⟨a1, a2⟩ := any1 xs hx0 hq
        rw [HT2.out.1, hkx, hkx, a1, a2]
        exact and5 _ _
      have A10 : Hid ((AX ys).lo.isNaN = false → Go.bits .and .i64 T 10 = 10) := fun hq => by
        obtain ⟨a1, a2⟩ := any1 ys hy0 hq
        rw [HT2.out.1, hky, hky, a1, a2]
        exact and10 _ _
      have HFIN : Hid (∀ K : Int, xs.length = 1 → eq (ofInt .f64 K) (xs.getD 0 Pl.zero64) = true → -16777216 ≤ K → K ≤ 16777216 → (∀ τ n, (FloatKind.f64.format.order (cvb64 lx τ n) (floatOfInt .f64 K) == some .eq) = true) ∧ (∀ τ n, (FloatKind.f64.format.order (cvb64 hx τ n) (floatOfInt .f64 K) == some .eq) = true)) := by
        intro K h1 h2 h3 h4
        obtain ⟨x, rfl⟩ := List.length_eq_one_iff.1 h1
        have e := Kf.exact_one h2 h3 h4
        have m1 : (AX [x]).lo = to32 x := (Kf.lo_hi (by simp)).1
        have m2 : (AX [x]).hi = to32 x := (Kf.lo_hi (by simp)).2.1
        exact ⟨fun τ n => by rw [o_eq, V_to64, HV.out.1, m1]; exact e, fun τ n => by rw [o_eq, V_to64, HV.out.2.2.1, m2]; exact e⟩
      have w1c := fun wx => run_to64 (P := Try.prog) wx 35 80 lx (by rw [Try.underlying35]; rfl) Try.underlying80
      have w2c := fun wx => run_to64 (P := Try.prog) wx 35 80 hx (by rw [Try.underlying35]; rfl) Try.underlying80
      clear hx0 hy0 hkx hky any1
      cases hq1 : (AX xs).lo.isNaN
      · have a5 := A5.out hq1
        rw [hq1] at n1
        clear hq1
        cases hq2 : (AX ys).lo.isNaN
        · have a10 := A10.out hq2
          rw [hq2] at n2
          clear hq2
          go_wp2_with fail
          refine (smwhole wr B h.mx h.vx xs BR.out.p.sx).mono ?_
          rintro e wg ⟨K, f, rfl, hK, hwg⟩
          subst hwg
          have HK : Hid _ := hK
          clear hK
          by_cases h1 : xs.length = 1
          · have g1 : ((xs.length : Int) == 1) = true := by rw [h1]; rfl
            have H1 : Hid (xs.length = 1) := h1
            clear h1
            by_cases hf : f = 0
            · subst hf
              by_cases k1 : -16777216 ≤ K
              · have g2 : decide ((-16777216 : Int) ≤ K) = true := decide_eq_true k1
                by_cases k2 : K ≤ 16777216
                · have g3 : decide (K ≤ (16777216 : Int)) = true := decide_eq_true k2
                  obtain ⟨z1, z2⟩ := HFIN.out K H1.out (HK.out rfl).2 k1 k2
                  go_wp2
                  go_ret
                  exact ⟨rfl, (BR.out.ext ((Ext.refl _).drewN _)).b, (BR.out.ext ((Ext.refl _).drewN _)).p, (BR.out.ext ((Ext.refl _).drewN _)).c⟩
                · have g3 : decide (K ≤ (16777216 : Int)) = false := decide_eq_false k2
                  go_wp2
                  go_ret
                  exact ⟨rfl, BR.out.b, BR.out.p, BR.out.c⟩
              · have g2 : decide ((-16777216 : Int) ≤ K) = false := decide_eq_false k1
                go_wp2
                go_ret
                exact ⟨rfl, BR.out.b, BR.out.p, BR.out.c⟩
            · have g2 : (f == 0) = false := beq_false_of_ne hf
              clear hf
              go_wp2
              go_ret
              exact ⟨rfl, BR.out.b, BR.out.p, BR.out.c⟩
          · have g1 : ((xs.length : Int) == 1) = false := beq_eq_false_iff_ne.2 (by omega)
            go_wp2
            go_ret
            exact ⟨rfl, BR.out.b, BR.out.p, BR.out.c⟩
        · rw [hq2] at n2
          clear hq2
          go_wp2_with fail
          refine (smwhole wr B h.mx h.vx xs BR.out.p.sx).mono ?_
          rintro e wg ⟨K, f, rfl, hK, hwg⟩
          subst hwg
          have HK : Hid _ := hK
          clear hK
          by_cases h1 : xs.length = 1
          · have g1 : ((xs.length : Int) == 1) = true := by rw [h1]; rfl
            have H1 : Hid (xs.length = 1) := h1
            clear h1
            by_cases hf : f = 0
            · subst hf
              by_cases k1 : -16777216 ≤ K
              · have g2 : decide ((-16777216 : Int) ≤ K) = true := decide_eq_true k1
                by_cases k2 : K ≤ 16777216
                · have g3 : decide (K ≤ (16777216 : Int)) = true := decide_eq_true k2
                  obtain ⟨z1, z2⟩ := HFIN.out K H1.out (HK.out rfl).2 k1 k2
                  go_wp2
                  go_ret
                  exact ⟨rfl, (BR.out.ext ((Ext.refl _).drewN _)).b, (BR.out.ext ((Ext.refl _).drewN _)).p, (BR.out.ext ((Ext.refl _).drewN _)).c⟩
                · have g3 : decide (K ≤ (16777216 : Int)) = false := decide_eq_false k2
                  go_wp2
                  go_ret
                  exact ⟨rfl, BR.out.b, BR.out.p, BR.out.c⟩
              · have g2 : decide ((-16777216 : Int) ≤ K) = false := decide_eq_false k1
                go_wp2
                go_ret
                exact ⟨rfl, BR.out.b, BR.out.p, BR.out.c⟩
            · have g2 : (f == 0) = false := beq_false_of_ne hf
              clear hf
              go_wp2
              go_ret
              exact ⟨rfl, BR.out.b, BR.out.p, BR.out.c⟩
          · have g1 : ((xs.length : Int) == 1) = false := beq_eq_false_iff_ne.2 (by omega)
            go_wp2
            go_ret
            exact ⟨rfl, BR.out.b, BR.out.p, BR.out.c⟩
      · rw [hq1] at n1
        clear hq1
        cases hq2 : (AX ys).lo.isNaN
        · have a10 := A10.out hq2
          rw [hq2] at n2
          clear hq2
          go_wp2_with fail
          refine (smwhole wr B h.mx h.vx xs BR.out.p.sx).mono ?_
          rintro e wg ⟨K, f, rfl, hK, hwg⟩
          subst hwg
          have HK : Hid _ := hK
          clear hK
          by_cases h1 : xs.length = 1
          · have g1 : ((xs.length : Int) == 1) = true := by rw [h1]; rfl
            have H1 : Hid (xs.length = 1) := h1
            clear h1
            by_cases hf : f = 0
            · subst hf
              by_cases k1 : -16777216 ≤ K
              · have g2 : decide ((-16777216 : Int) ≤ K) = true := decide_eq_true k1
                by_cases k2 : K ≤ 16777216
                · have g3 : decide (K ≤ (16777216 : Int)) = true := decide_eq_true k2
                  obtain ⟨z1, z2⟩ := HFIN.out K H1.out (HK.out rfl).2 k1 k2
                  go_wp2
                  go_ret
                  exact ⟨rfl, (BR.out.ext ((Ext.refl _).drewN _)).b, (BR.out.ext ((Ext.refl _).drewN _)).p, (BR.out.ext ((Ext.refl _).drewN _)).c⟩
                · have g3 : decide (K ≤ (16777216 : Int)) = false := decide_eq_false k2
                  go_wp2
                  go_ret
                  exact ⟨rfl, BR.out.b, BR.out.p, BR.out.c⟩
              · have g2 : decide ((-16777216 : Int) ≤ K) = false := decide_eq_false k1
                go_wp2
                go_ret
                exact ⟨rfl, BR.out.b, BR.out.p, BR.out.c⟩
            · have g2 : (f == 0) = false := beq_false_of_ne hf
              clear hf
              go_wp2
              go_ret
              exact ⟨rfl, BR.out.b, BR.out.p, BR.out.c⟩
          · have g1 : ((xs.length : Int) == 1) = false := beq_eq_false_iff_ne.2 (by omega)
            go_wp2
            go_ret
            exact ⟨rfl, BR.out.b, BR.out.p, BR.out.c⟩
        · rw [hq2] at n2
          clear hq2
          go_wp2_with fail
          refine (smwhole wr B h.mx h.vx xs BR.out.p.sx).mono ?_
          rintro e wg ⟨K, f, rfl, hK, hwg⟩
          subst hwg
          have HK : Hid _ := hK
          clear hK
          by_cases h1 : xs.length = 1
          · have g1 : ((xs.length : Int) == 1) = true := by rw [h1]; rfl
            have H1 : Hid (xs.length = 1) := h1
            clear h1
            by_cases hf : f = 0
            · subst hf
              by_cases k1 : -16777216 ≤ K
              · have g2 : decide ((-16777216 : Int) ≤ K) = true := decide_eq_true k1
                by_cases k2 : K ≤ 16777216
                · have g3 : decide (K ≤ (16777216 : Int)) = true := decide_eq_true k2
                  obtain ⟨z1, z2⟩ := HFIN.out K H1.out (HK.out rfl).2 k1 k2
                  go_wp2
                  go_ret
                  exact ⟨rfl, (BR.out.ext ((Ext.refl _).drewN _)).b, (BR.out.ext ((Ext.refl _).drewN _)).p, (BR.out.ext ((Ext.refl _).drewN _)).c⟩
                · have g3 : decide (K ≤ (16777216 : Int)) = false := decide_eq_false k2
                  go_wp2
                  go_ret
                  exact ⟨rfl, BR.out.b, BR.out.p, BR.out.c⟩
              · have g2 : decide ((-16777216 : Int) ≤ K) = false := decide_eq_false k1
                go_wp2
                go_ret
                exact ⟨rfl, BR.out.b, BR.out.p, BR.out.c⟩
            · have g2 : (f == 0) = false := beq_false_of_ne hf
              clear hf
              go_wp2
              go_ret
              exact ⟨rfl, BR.out.b, BR.out.p, BR.out.c⟩
          · have g1 : ((xs.length : Int) == 1) = false := beq_eq_false_iff_ne.2 (by omega)
            go_wp2
            go_ret
            exact ⟨rfl, BR.out.b, BR.out.p, BR.out.c⟩
end Go.Proofs.Qxb6500343a
