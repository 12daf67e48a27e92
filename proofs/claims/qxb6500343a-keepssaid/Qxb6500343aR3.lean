/-
  The model's player, DoM.
-/
import Derived.Test.Qxb6500343aR1
namespace Go.Proofs.Qxb6500343a
open Go.RowKit
open Go.Proofs
open Ieee (Datum)
open Fl
open Tx (st)
open Ff (in64)
set_option linter.unusedSimpArgs false
set_option linter.unusedVariables false
attribute [local go_sem] run_fadd run_fsub run_fmul run_fquo run_store_float alloc_drewN setCell_drewN shape?_drewN tape_alloc drawn_alloc tape_setCell drawn_setCell drawn_drewN drawn_drew run_fneg

set_option maxHeartbeats 2000000 in
theorem dom_add (w : World) (B : Nat) (i : BM) (xs ys : List Datum) (o : Stp) (hst : BmAt w B i xs ys) (hx : Pl.Rat xs) (hy : Pl.Rat ys) (ha : in64 o.a) (hb : in64 o.b) (hc : in64 o.c) (hk : o.k = 1) :
    Calls Try.prog 61 #[.pointer (some ⟨i.mb, 0, none⟩), opV o] w fun e w' => e = .returned (ans (aE xs) (0) ([])) ∧ MP B i w w' (aX xs (Pl.ratio o.a o.c) xs.length) (aX ys (Pl.ratio o.b o.c) xs.length) := by
  obtain ⟨k, oa, ob, oc, os, ot⟩ := o
  simp only at hk ha hb hc ⊢
  subst hk
  unfold opV ans
  have HS : Hid (BmAt w B i xs ys ∧ Pl.Rat xs ∧ Pl.Rat ys ∧ in64 oa ∧ in64 ob ∧ in64 oc) := ⟨hst, hx, hy, ha, hb, hc⟩
  have HN : Hid (w.heap.size + 1 ∉ i.all) := fun hk => by have := (fun k hk => (hst.lt k hk).1) _ hk; omega
  clear hst hx hy ha hb hc
  go_enter Try.func61, Try.ntmps61
  go_wp2_with fail
  refine (m_add _ B i xs ys oa ob oc (HS.out.1.ext (((Ext.refl w).alloc _).alloc _)) HS.out.2.1 HS.out.2.2.1 HS.out.2.2.2.1 HS.out.2.2.2.2.1 HS.out.2.2.2.2.2).mono ?_
  rintro e w1 ⟨rfl, h1⟩
  have H1 : Hid (MP B i ((w.alloc (.cells #[.int .i64 1, .int .i64 oa, .int .i64 ob, .int .i64 oc, .string os, .string ot] 48)).alloc (.cells #[.int .i64 0, .int .i64 0, .int .i64 0, .string ⟨#[]⟩] 50)) w1 (aX xs (Pl.ratio oa oc) xs.length) (aX ys (Pl.ratio ob oc) xs.length)) := h1
  clear h1
  have z := (H1.out).heap (heap_alloc2 w _ _) HN.out
  have z0 : w1.cell? ⟨w.heap.size + 1, 0, none⟩ = some (.int .i64 0) := cell_of z 0
  have z1 : w1.cell? ⟨w.heap.size + 1, 1, none⟩ = some (.int .i64 0) := cell_of z 1
  have z2 : w1.cell? ⟨w.heap.size + 1, 2, none⟩ = some (.int .i64 0) := cell_of z 2
  have z3 : w1.cell? ⟨w.heap.size + 1, 3, none⟩ = some (.string ⟨#[]⟩) := cell_of z 3
  have zf := frozen_of z
  have HR : Hid _ := lay4 z (.int .i64 (aE xs)) (.int .i64 (0)) (.int .i64 0) (.string ⟨#[]⟩)
  clear z
  go_wp2
  obtain ⟨r0, r1, r2, r3⟩ := HR.out
  apply bodyPost_ret
  focus (simp [results, Try.results61, go_sem, r0, r1, r2, r3]; rfl)
  focus rfl
  exact ⟨rfl, MP.fin (((Ext.refl w).alloc _).alloc _) H1.out HN.out (by rw [World.size_alloc, World.size_alloc]; omega) (by omega) _ _ _ _⟩
set_option maxHeartbeats 2000000 in
theorem dom_drop (w : World) (B : Nat) (i : BM) (xs ys : List Datum) (o : Stp) (hst : BmAt w B i xs ys) (hx : Pl.Rat xs) (hy : Pl.Rat ys) (ha : in64 o.a) (hb : in64 o.b) (hc : in64 o.c) (hk : o.k = 2) :
    Calls Try.prog 61 #[.pointer (some ⟨i.mb, 0, none⟩), opV o] w fun e w' => e = .returned (ans (dE xs) (0) ([])) ∧ MP B i w w' (xs.dropLast) (ys.dropLast) := by
  obtain ⟨k, oa, ob, oc, os, ot⟩ := o
  simp only at hk ha hb hc ⊢
  subst hk
  unfold opV ans
  have HS : Hid (BmAt w B i xs ys ∧ Pl.Rat xs ∧ Pl.Rat ys ∧ in64 oa ∧ in64 ob ∧ in64 oc) := ⟨hst, hx, hy, ha, hb, hc⟩
  have HN : Hid (w.heap.size + 1 ∉ i.all) := fun hk => by have := (fun k hk => (hst.lt k hk).1) _ hk; omega
  clear hst hx hy ha hb hc
  go_enter Try.func61, Try.ntmps61
  go_wp2_with fail
  refine (m_drop _ B i xs ys (HS.out.1.ext (((Ext.refl w).alloc _).alloc _))).mono ?_
  rintro e w1 ⟨rfl, h1⟩
  have H1 : Hid (MP B i ((w.alloc (.cells #[.int .i64 2, .int .i64 oa, .int .i64 ob, .int .i64 oc, .string os, .string ot] 48)).alloc (.cells #[.int .i64 0, .int .i64 0, .int .i64 0, .string ⟨#[]⟩] 50)) w1 (xs.dropLast) (ys.dropLast)) := h1
  clear h1
  have z := (H1.out).heap (heap_alloc2 w _ _) HN.out
  have z0 : w1.cell? ⟨w.heap.size + 1, 0, none⟩ = some (.int .i64 0) := cell_of z 0
  have z1 : w1.cell? ⟨w.heap.size + 1, 1, none⟩ = some (.int .i64 0) := cell_of z 1
  have z2 : w1.cell? ⟨w.heap.size + 1, 2, none⟩ = some (.int .i64 0) := cell_of z 2
  have z3 : w1.cell? ⟨w.heap.size + 1, 3, none⟩ = some (.string ⟨#[]⟩) := cell_of z 3
  have zf := frozen_of z
  have HR : Hid _ := lay4 z (.int .i64 (dE xs)) (.int .i64 (0)) (.int .i64 0) (.string ⟨#[]⟩)
  clear z
  go_wp2
  obtain ⟨r0, r1, r2, r3⟩ := HR.out
  apply bodyPost_ret
  focus (simp [results, Try.results61, go_sem, r0, r1, r2, r3]; rfl)
  focus rfl
  exact ⟨rfl, MP.fin (((Ext.refl w).alloc _).alloc _) H1.out HN.out (by rw [World.size_alloc, World.size_alloc]; omega) (by omega) _ _ _ _⟩
set_option maxHeartbeats 2000000 in
theorem dom_len (w : World) (B : Nat) (i : BM) (xs ys : List Datum) (o : Stp) (hst : BmAt w B i xs ys) (hx : Pl.Rat xs) (hy : Pl.Rat ys) (ha : in64 o.a) (hb : in64 o.b) (hc : in64 o.c) (hk : o.k = 3) :
    Calls Try.prog 61 #[.pointer (some ⟨i.mb, 0, none⟩), opV o] w fun e w' => e = .returned (ans (0) (xs.length) ([])) ∧ MP B i w w' (xs) (ys) := by
  obtain ⟨k, oa, ob, oc, os, ot⟩ := o
  simp only at hk ha hb hc ⊢
  subst hk
  unfold opV ans
  have HS : Hid (BmAt w B i xs ys ∧ Pl.Rat xs ∧ Pl.Rat ys ∧ in64 oa ∧ in64 ob ∧ in64 oc) := ⟨hst, hx, hy, ha, hb, hc⟩
  have HN : Hid (w.heap.size + 1 ∉ i.all) := fun hk => by have := (fun k hk => (hst.lt k hk).1) _ hk; omega
  clear hst hx hy ha hb hc
  go_enter Try.func61, Try.ntmps61
  go_wp2_with fail
  refine (m_len _ B i xs ys (HS.out.1.ext (((Ext.refl w).alloc _).alloc _))).mono ?_
  rintro e w1 ⟨rfl, h1⟩
  have H1 : Hid (MP B i ((w.alloc (.cells #[.int .i64 3, .int .i64 oa, .int .i64 ob, .int .i64 oc, .string os, .string ot] 48)).alloc (.cells #[.int .i64 0, .int .i64 0, .int .i64 0, .string ⟨#[]⟩] 50)) w1 (xs) (ys)) := h1
  clear h1
  have z := (H1.out).heap (heap_alloc2 w _ _) HN.out
  have z0 : w1.cell? ⟨w.heap.size + 1, 0, none⟩ = some (.int .i64 0) := cell_of z 0
  have z1 : w1.cell? ⟨w.heap.size + 1, 1, none⟩ = some (.int .i64 0) := cell_of z 1
  have z2 : w1.cell? ⟨w.heap.size + 1, 2, none⟩ = some (.int .i64 0) := cell_of z 2
  have z3 : w1.cell? ⟨w.heap.size + 1, 3, none⟩ = some (.string ⟨#[]⟩) := cell_of z 3
  have zf := frozen_of z
  have HR : Hid _ := lay4 z (.int .i64 (0)) (.int .i64 (xs.length)) (.int .i64 0) (.string ⟨#[]⟩)
  clear z
  go_wp2
  obtain ⟨r0, r1, r2, r3⟩ := HR.out
  apply bodyPost_ret
  focus (simp [results, Try.results61, go_sem, r0, r1, r2, r3]; rfl)
  focus rfl
  exact ⟨rfl, MP.fin (((Ext.refl w).alloc _).alloc _) H1.out HN.out (by rw [World.size_alloc, World.size_alloc]; omega) (by omega) _ _ _ _⟩
set_option maxHeartbeats 2000000 in
theorem dom_corner (w : World) (B : Nat) (i : BM) (xs ys : List Datum) (o : Stp) (hst : BmAt w B i xs ys) (hx : Pl.Rat xs) (hy : Pl.Rat ys) (ha : in64 o.a) (hb : in64 o.b) (hc : in64 o.c) (hk : o.k = 4) :
    Calls Try.prog 61 #[.pointer (some ⟨i.mb, 0, none⟩), opV o] w fun e w' => e = .returned (ans ((corner (AX xs) (AX ys) xs.isEmpty o.a).2) (0) (pairT (corner (AX xs) (AX ys) xs.isEmpty o.a).1 Pl.zero32)) ∧ MP B i w w' (xs) (ys) := by
  obtain ⟨k, oa, ob, oc, os, ot⟩ := o
  simp only at hk ha hb hc ⊢
  subst hk
  unfold opV ans
  have HS : Hid (BmAt w B i xs ys ∧ Pl.Rat xs ∧ Pl.Rat ys ∧ in64 oa ∧ in64 ob ∧ in64 oc) := ⟨hst, hx, hy, ha, hb, hc⟩
  have HN : Hid (w.heap.size + 1 ∉ i.all) := fun hk => by have := (fun k hk => (hst.lt k hk).1) _ hk; omega
  clear hst hx hy ha hb hc
  go_enter Try.func61, Try.ntmps61
  go_wp2_with fail
  refine (m_corner _ B i xs ys oa (HS.out.1.ext (((Ext.refl w).alloc _).alloc _)) HS.out.2.1 HS.out.2.2.1).mono ?_
  rintro e w1 ⟨u, rfl, hu, h1⟩
  have H1 : Hid (MP B i ((w.alloc (.cells #[.int .i64 4, .int .i64 oa, .int .i64 ob, .int .i64 oc, .string os, .string ot] 48)).alloc (.cells #[.int .i64 0, .int .i64 0, .int .i64 0, .string ⟨#[]⟩] 50)) w1 (xs) (ys) ∧ pairT (V .f32 u) (V .f32 0) = pairT (corner (AX xs) (AX ys) xs.isEmpty oa).1 Pl.zero32) := ⟨h1, by rw [hu]; rfl⟩
  clear h1 hu
  generalize hEE : (corner (AX xs) (AX ys) xs.isEmpty oa).2 = EE at *
  go_wp2_with fail
  refine (pair_any u 0 EE _).mono ?_
  rintro e w2 ⟨rfl, x2⟩
  rw [H1.out.2]
  have H2 : Hid (MP B i ((w.alloc (.cells #[.int .i64 4, .int .i64 oa, .int .i64 ob, .int .i64 oc, .string os, .string ot] 48)).alloc (.cells #[.int .i64 0, .int .i64 0, .int .i64 0, .string ⟨#[]⟩] 50)) w2 (xs) (ys)) := H1.out.1.post x2
  clear x2
  have z := (H2.out).heap (heap_alloc2 w _ _) HN.out
  have z0 : w2.cell? ⟨w.heap.size + 1, 0, none⟩ = some (.int .i64 0) := cell_of z 0
  have z1 : w2.cell? ⟨w.heap.size + 1, 1, none⟩ = some (.int .i64 0) := cell_of z 1
  have z2 : w2.cell? ⟨w.heap.size + 1, 2, none⟩ = some (.int .i64 0) := cell_of z 2
  have z3 : w2.cell? ⟨w.heap.size + 1, 3, none⟩ = some (.string ⟨#[]⟩) := cell_of z 3
  have zf := frozen_of z
  have HR : Hid _ := lay4 z (.int .i64 (EE)) (.int .i64 (0)) (.int .i64 0) (.string (st (pairT (corner (AX xs) (AX ys) xs.isEmpty oa).1 Pl.zero32)))
  clear z
  unfold ans
  generalize hST : st (pairT (corner (AX xs) (AX ys) xs.isEmpty oa).1 Pl.zero32) = ST at *
  have HST : Hid (st (pairT (corner (AX xs) (AX ys) xs.isEmpty oa).1 Pl.zero32) = ST ∧ (corner (AX xs) (AX ys) xs.isEmpty oa).2 = EE) := ⟨hST, hEE⟩
  clear hST hEE
  go_wp2
  obtain ⟨r0, r1, r2, r3⟩ := HR.out
  apply bodyPost_ret
  focus (simp [results, Try.results61, go_sem, r0, r1, r2, r3]; rfl)
  focus rfl
  exact ⟨by first | rfl | (rw [HST.out.1, HST.out.2]) | (rw [HST.out.1, HST.out.2]; rfl) | (rw [HST.out.1]; rfl), MP.fin (((Ext.refl w).alloc _).alloc _) H2.out HN.out (by rw [World.size_alloc, World.size_alloc]; omega) (by omega) _ _ _ _⟩
set_option maxHeartbeats 2000000 in
theorem dom_clamp (w : World) (B : Nat) (i : BM) (xs ys : List Datum) (o : Stp) (hst : BmAt w B i xs ys) (hx : Pl.Rat xs) (hy : Pl.Rat ys) (ha : in64 o.a) (hb : in64 o.b) (hc : in64 o.c) (hk : o.k = 6) :
    Calls Try.prog 61 #[.pointer (some ⟨i.mb, 0, none⟩), opV o] w fun e w' => e = .returned (ans (dE xs) (0) (pairT (clp xs ys o.a o.b o.c).1 (clp xs ys o.a o.b o.c).2)) ∧ MP B i w w' (xs) (ys) := by
  obtain ⟨k, oa, ob, oc, os, ot⟩ := o
  simp only at hk ha hb hc ⊢
  subst hk
  unfold opV ans
  have HS : Hid (BmAt w B i xs ys ∧ Pl.Rat xs ∧ Pl.Rat ys ∧ in64 oa ∧ in64 ob ∧ in64 oc) := ⟨hst, hx, hy, ha, hb, hc⟩
  have HN : Hid (w.heap.size + 1 ∉ i.all) := fun hk => by have := (fun k hk => (hst.lt k hk).1) _ hk; omega
  clear hst hx hy ha hb hc
  go_enter Try.func61, Try.ntmps61
  go_wp2_with fail
  refine (m_clp _ B i xs ys oa ob oc (HS.out.1.ext (((Ext.refl w).alloc _).alloc _)) HS.out.2.1 HS.out.2.2.1 HS.out.2.2.2.1 HS.out.2.2.2.2.1 HS.out.2.2.2.2.2).mono ?_
  rintro e w1 ⟨u, v, rfl, hu, hv, h1⟩
  have H1 : Hid (MP B i ((w.alloc (.cells #[.int .i64 6, .int .i64 oa, .int .i64 ob, .int .i64 oc, .string os, .string ot] 48)).alloc (.cells #[.int .i64 0, .int .i64 0, .int .i64 0, .string ⟨#[]⟩] 50)) w1 (xs) (ys) ∧ pairT (V .f32 u) (V .f32 v) = pairT (clp xs ys oa ob oc).1 (clp xs ys oa ob oc).2) := ⟨h1, by rw [hu, hv]⟩
  clear h1 hu hv
  generalize hEE : dE xs = EE at *
  go_wp2_with fail
  refine (pair_any u v EE _).mono ?_
  rintro e w2 ⟨rfl, x2⟩
  rw [H1.out.2]
  have H2 : Hid (MP B i ((w.alloc (.cells #[.int .i64 6, .int .i64 oa, .int .i64 ob, .int .i64 oc, .string os, .string ot] 48)).alloc (.cells #[.int .i64 0, .int .i64 0, .int .i64 0, .string ⟨#[]⟩] 50)) w2 (xs) (ys)) := H1.out.1.post x2
  clear x2
  have z := (H2.out).heap (heap_alloc2 w _ _) HN.out
  have z0 : w2.cell? ⟨w.heap.size + 1, 0, none⟩ = some (.int .i64 0) := cell_of z 0
  have z1 : w2.cell? ⟨w.heap.size + 1, 1, none⟩ = some (.int .i64 0) := cell_of z 1
  have z2 : w2.cell? ⟨w.heap.size + 1, 2, none⟩ = some (.int .i64 0) := cell_of z 2
  have z3 : w2.cell? ⟨w.heap.size + 1, 3, none⟩ = some (.string ⟨#[]⟩) := cell_of z 3
  have zf := frozen_of z
  have HR : Hid _ := lay4 z (.int .i64 (EE)) (.int .i64 (0)) (.int .i64 0) (.string (st (pairT (clp xs ys oa ob oc).1 (clp xs ys oa ob oc).2)))
  clear z
  unfold ans
  generalize hST : st (pairT (clp xs ys oa ob oc).1 (clp xs ys oa ob oc).2) = ST at *
  have HST : Hid (st (pairT (clp xs ys oa ob oc).1 (clp xs ys oa ob oc).2) = ST ∧ dE xs = EE) := ⟨hST, hEE⟩
  clear hST hEE
  go_wp2
  obtain ⟨r0, r1, r2, r3⟩ := HR.out
  apply bodyPost_ret
  focus (simp [results, Try.results61, go_sem, r0, r1, r2, r3]; rfl)
  focus rfl
  exact ⟨by first | rfl | (rw [HST.out.1, HST.out.2]) | (rw [HST.out.1, HST.out.2]; rfl) | (rw [HST.out.1]; rfl), MP.fin (((Ext.refl w).alloc _).alloc _) H2.out HN.out (by rw [World.size_alloc, World.size_alloc]; omega) (by omega) _ _ _ _⟩
set_option maxHeartbeats 2000000 in
theorem dom_along (w : World) (B : Nat) (i : BM) (xs ys : List Datum) (o : Stp) (hst : BmAt w B i xs ys) (hx : Pl.Rat xs) (hy : Pl.Rat ys) (ha : in64 o.a) (hb : in64 o.b) (hc : in64 o.c) (hk : o.k = 7) :
    Calls Try.prog 61 #[.pointer (some ⟨i.mb, 0, none⟩), opV o] w fun e w' => e = .returned (ans (dE xs) (0) (pairT (alg xs ys o.a o.b).1 (alg xs ys o.a o.b).2)) ∧ MP B i w w' (xs) (ys) := by
  obtain ⟨k, oa, ob, oc, os, ot⟩ := o
  simp only at hk ha hb hc ⊢
  subst hk
  unfold opV ans
  have HS : Hid (BmAt w B i xs ys ∧ Pl.Rat xs ∧ Pl.Rat ys ∧ in64 oa ∧ in64 ob ∧ in64 oc) := ⟨hst, hx, hy, ha, hb, hc⟩
  have HN : Hid (w.heap.size + 1 ∉ i.all) := fun hk => by have := (fun k hk => (hst.lt k hk).1) _ hk; omega
  clear hst hx hy ha hb hc
  go_enter Try.func61, Try.ntmps61
  go_wp2_with fail
  refine (m_alg _ B i xs ys oa ob (HS.out.1.ext (((Ext.refl w).alloc _).alloc _)) HS.out.2.1 HS.out.2.2.1 HS.out.2.2.2.1 HS.out.2.2.2.2.1).mono ?_
  rintro e w1 ⟨u, v, rfl, hu, hv, h1⟩
  have H1 : Hid (MP B i ((w.alloc (.cells #[.int .i64 7, .int .i64 oa, .int .i64 ob, .int .i64 oc, .string os, .string ot] 48)).alloc (.cells #[.int .i64 0, .int .i64 0, .int .i64 0, .string ⟨#[]⟩] 50)) w1 (xs) (ys) ∧ pairT (V .f32 u) (V .f32 v) = pairT (alg xs ys oa ob).1 (alg xs ys oa ob).2) := ⟨h1, by rw [hu, hv]⟩
  clear h1 hu hv
  generalize hEE : dE xs = EE at *
  go_wp2_with fail
  refine (pair_any u v EE _).mono ?_
  rintro e w2 ⟨rfl, x2⟩
  rw [H1.out.2]
  have H2 : Hid (MP B i ((w.alloc (.cells #[.int .i64 7, .int .i64 oa, .int .i64 ob, .int .i64 oc, .string os, .string ot] 48)).alloc (.cells #[.int .i64 0, .int .i64 0, .int .i64 0, .string ⟨#[]⟩] 50)) w2 (xs) (ys)) := H1.out.1.post x2
  clear x2
  have z := (H2.out).heap (heap_alloc2 w _ _) HN.out
  have z0 : w2.cell? ⟨w.heap.size + 1, 0, none⟩ = some (.int .i64 0) := cell_of z 0
  have z1 : w2.cell? ⟨w.heap.size + 1, 1, none⟩ = some (.int .i64 0) := cell_of z 1
  have z2 : w2.cell? ⟨w.heap.size + 1, 2, none⟩ = some (.int .i64 0) := cell_of z 2
  have z3 : w2.cell? ⟨w.heap.size + 1, 3, none⟩ = some (.string ⟨#[]⟩) := cell_of z 3
  have zf := frozen_of z
  have HR : Hid _ := lay4 z (.int .i64 (EE)) (.int .i64 (0)) (.int .i64 0) (.string (st (pairT (alg xs ys oa ob).1 (alg xs ys oa ob).2)))
  clear z
  unfold ans
  generalize hST : st (pairT (alg xs ys oa ob).1 (alg xs ys oa ob).2) = ST at *
  have HST : Hid (st (pairT (alg xs ys oa ob).1 (alg xs ys oa ob).2) = ST ∧ dE xs = EE) := ⟨hST, hEE⟩
  clear hST hEE
  go_wp2
  obtain ⟨r0, r1, r2, r3⟩ := HR.out
  apply bodyPost_ret
  focus (simp [results, Try.results61, go_sem, r0, r1, r2, r3]; rfl)
  focus rfl
  exact ⟨by first | rfl | (rw [HST.out.1, HST.out.2]) | (rw [HST.out.1, HST.out.2]; rfl) | (rw [HST.out.1]; rfl), MP.fin (((Ext.refl w).alloc _).alloc _) H2.out HN.out (by rw [World.size_alloc, World.size_alloc]; omega) (by omega) _ _ _ _⟩
set_option maxHeartbeats 2000000 in
theorem dom_ins (w : World) (B : Nat) (i : BM) (xs ys : List Datum) (o : Stp) (hst : BmAt w B i xs ys) (hx : Pl.Rat xs) (hy : Pl.Rat ys) (ha : in64 o.a) (hb : in64 o.b) (hc : in64 o.c) (hk : o.k = 5) :
    Calls Try.prog 61 #[.pointer (some ⟨i.mb, 0, none⟩), opV o] w fun e w' => e = .returned (ans (dE xs) (if insB xs ys o.a o.b o.c then 1 else 0) ([])) ∧ MP B i w w' (xs) (ys) := by
  obtain ⟨k, oa, ob, oc, os, ot⟩ := o
  simp only at hk ha hb hc ⊢
  subst hk
  unfold opV ans
  obtain ⟨NN, hNN⟩ : ∃ N : Int, (if insB xs ys oa ob oc then (1 : Int) else 0) = N := ⟨_, rfl⟩
  rw [hNN]
  have HNN : Hid ((if insB xs ys oa ob oc then (1 : Int) else 0) = NN) := hNN
  clear hNN
  have HS : Hid (BmAt w B i xs ys ∧ Pl.Rat xs ∧ Pl.Rat ys ∧ in64 oa ∧ in64 ob ∧ in64 oc) := ⟨hst, hx, hy, ha, hb, hc⟩
  have HN : Hid (w.heap.size + 1 ∉ i.all) := fun hk => by have := (fun k hk => (hst.lt k hk).1) _ hk; omega
  clear hst hx hy ha hb hc
  go_enter Try.func61, Try.ntmps61
  go_wp2_with fail
  refine (m_ins _ B i xs ys oa ob oc (HS.out.1.ext (((Ext.refl w).alloc _).alloc _)) HS.out.2.1 HS.out.2.2.1 HS.out.2.2.2.1 HS.out.2.2.2.2.1 HS.out.2.2.2.2.2).mono ?_
  rintro e w1 ⟨rfl, h1⟩
  have H1 : Hid (MP B i ((w.alloc (.cells #[.int .i64 5, .int .i64 oa, .int .i64 ob, .int .i64 oc, .string os, .string ot] 48)).alloc (.cells #[.int .i64 0, .int .i64 0, .int .i64 0, .string ⟨#[]⟩] 50)) w1 (xs) (ys)) := h1
  clear h1
  cases ht : insB xs ys oa ob oc
  · have HT : Hid (insB xs ys oa ob oc = false) := ht
    clear ht
    have z := (H1.out).heap (heap_alloc2 w _ _) HN.out
    have z0 : w1.cell? ⟨w.heap.size + 1, 0, none⟩ = some (.int .i64 0) := cell_of z 0
    have z1 : w1.cell? ⟨w.heap.size + 1, 1, none⟩ = some (.int .i64 0) := cell_of z 1
    have z2 : w1.cell? ⟨w.heap.size + 1, 2, none⟩ = some (.int .i64 0) := cell_of z 2
    have z3 : w1.cell? ⟨w.heap.size + 1, 3, none⟩ = some (.string ⟨#[]⟩) := cell_of z 3
    have zf := frozen_of z
    have HR : Hid _ := lay4 z (.int .i64 (dE xs)) (.int .i64 (0)) (.int .i64 0) (.string ⟨#[]⟩)
    clear z
    go_wp2
    obtain ⟨r0, r1, r2, r3⟩ := HR.out
    apply bodyPost_ret
    focus (simp [results, Try.results61, go_sem, r0, r1, r2, r3]; rfl)
    focus rfl
    exact ⟨by rw [← HNN.out, HT.out]; rfl, MP.fin (((Ext.refl w).alloc _).alloc _) H1.out HN.out (by rw [World.size_alloc, World.size_alloc]; omega) (by omega) _ _ _ _⟩
  · have HT : Hid (insB xs ys oa ob oc = true) := ht
    clear ht
    have z := (H1.out).heap (heap_alloc2 w _ _) HN.out
    have z0 : w1.cell? ⟨w.heap.size + 1, 0, none⟩ = some (.int .i64 0) := cell_of z 0
    have z1 : w1.cell? ⟨w.heap.size + 1, 1, none⟩ = some (.int .i64 0) := cell_of z 1
    have z2 : w1.cell? ⟨w.heap.size + 1, 2, none⟩ = some (.int .i64 0) := cell_of z 2
    have z3 : w1.cell? ⟨w.heap.size + 1, 3, none⟩ = some (.string ⟨#[]⟩) := cell_of z 3
    have zf := frozen_of z
    have HR : Hid _ := lay4 z (.int .i64 (dE xs)) (.int .i64 (1)) (.int .i64 0) (.string ⟨#[]⟩)
    clear z
    go_wp2
    obtain ⟨r0, r1, r2, r3⟩ := HR.out
    apply bodyPost_ret
    focus (simp [results, Try.results61, go_sem, r0, r1, r2, r3]; rfl)
    focus rfl
    exact ⟨by rw [← HNN.out, HT.out]; rfl, MP.fin (((Ext.refl w).alloc _).alloc _) H1.out HN.out (by rw [World.size_alloc, World.size_alloc]; omega) (by omega) _ _ _ _⟩
set_option maxHeartbeats 2000000 in
theorem dom_cell (w : World) (B : Nat) (i : BM) (xs ys : List Datum) (o : Stp) (hst : BmAt w B i xs ys) (hx : Pl.Rat xs) (hy : Pl.Rat ys) (ha : in64 o.a) (hb : in64 o.b) (hc : in64 o.c) (hk : o.k = 8) :
    Calls Try.prog 61 #[.pointer (some ⟨i.mb, 0, none⟩), opV o] w fun e w' => e = .returned (ans ((cel xs ys o.a o.b o.c).2) ((cel xs ys o.a o.b o.c).1) ([])) ∧ MP B i w w' (xs) (ys) := by
  obtain ⟨k, oa, ob, oc, os, ot⟩ := o
  simp only at hk ha hb hc ⊢
  subst hk
  unfold opV ans
  have HS : Hid (BmAt w B i xs ys ∧ Pl.Rat xs ∧ Pl.Rat ys ∧ in64 oa ∧ in64 ob ∧ in64 oc) := ⟨hst, hx, hy, ha, hb, hc⟩
  have HN : Hid (w.heap.size + 1 ∉ i.all) := fun hk => by have := (fun k hk => (hst.lt k hk).1) _ hk; omega
  clear hst hx hy ha hb hc
  go_enter Try.func61, Try.ntmps61
  go_wp2_with fail
  refine (m_cel _ B i xs ys oa ob oc (HS.out.1.ext (((Ext.refl w).alloc _).alloc _)) HS.out.2.1 HS.out.2.2.1 HS.out.2.2.2.1 HS.out.2.2.2.2.1 HS.out.2.2.2.2.2).mono ?_
  rintro e w1 ⟨rfl, h1⟩
  have H1 : Hid (MP B i ((w.alloc (.cells #[.int .i64 8, .int .i64 oa, .int .i64 ob, .int .i64 oc, .string os, .string ot] 48)).alloc (.cells #[.int .i64 0, .int .i64 0, .int .i64 0, .string ⟨#[]⟩] 50)) w1 (xs) (ys)) := h1
  clear h1
  have z := (H1.out).heap (heap_alloc2 w _ _) HN.out
  have z0 : w1.cell? ⟨w.heap.size + 1, 0, none⟩ = some (.int .i64 0) := cell_of z 0
  have z1 : w1.cell? ⟨w.heap.size + 1, 1, none⟩ = some (.int .i64 0) := cell_of z 1
  have z2 : w1.cell? ⟨w.heap.size + 1, 2, none⟩ = some (.int .i64 0) := cell_of z 2
  have z3 : w1.cell? ⟨w.heap.size + 1, 3, none⟩ = some (.string ⟨#[]⟩) := cell_of z 3
  have zf := frozen_of z
  have HR : Hid _ := lay4 z (.int .i64 ((cel xs ys oa ob oc).2)) (.int .i64 ((cel xs ys oa ob oc).1)) (.int .i64 0) (.string ⟨#[]⟩)
  clear z
  go_wp2
  obtain ⟨r0, r1, r2, r3⟩ := HR.out
  apply bodyPost_ret
  focus (simp [results, Try.results61, go_sem, r0, r1, r2, r3]; rfl)
  focus rfl
  exact ⟨rfl, MP.fin (((Ext.refl w).alloc _).alloc _) H1.out HN.out (by rw [World.size_alloc, World.size_alloc]; omega) (by omega) _ _ _ _⟩
set_option maxHeartbeats 2000000 in
theorem dom_show (w : World) (B : Nat) (i : BM) (xs ys : List Datum) (o : Stp) (hst : BmAt w B i xs ys) (hx : Pl.Rat xs) (hy : Pl.Rat ys) (ha : in64 o.a) (hb : in64 o.b) (hc : in64 o.c) (hk : o.k = 9) :
    Calls Try.prog 61 #[.pointer (some ⟨i.mb, 0, none⟩), opV o] w fun e w' => e = .returned (ans (0) (0) (showB xs.length (AX xs) (AX ys))) ∧ MP B i w w' (xs) (ys) := by
  obtain ⟨k, oa, ob, oc, os, ot⟩ := o
  simp only at hk ha hb hc ⊢
  subst hk
  unfold opV ans
  have HS : Hid (BmAt w B i xs ys ∧ Pl.Rat xs ∧ Pl.Rat ys ∧ in64 oa ∧ in64 ob ∧ in64 oc) := ⟨hst, hx, hy, ha, hb, hc⟩
  have HN : Hid (w.heap.size + 1 ∉ i.all) := fun hk => by have := (fun k hk => (hst.lt k hk).1) _ hk; omega
  clear hst hx hy ha hb hc
  go_enter Try.func61, Try.ntmps61
  go_wp2_with fail
  refine (m_show _ B i xs ys (HS.out.1.ext (((Ext.refl w).alloc _).alloc _)) HS.out.2.1 HS.out.2.2.1).mono ?_
  rintro e w1 ⟨rfl, h1⟩
  have H1 : Hid (MP B i ((w.alloc (.cells #[.int .i64 9, .int .i64 oa, .int .i64 ob, .int .i64 oc, .string os, .string ot] 48)).alloc (.cells #[.int .i64 0, .int .i64 0, .int .i64 0, .string ⟨#[]⟩] 50)) w1 (xs) (ys)) := h1
  clear h1
  have z := (H1.out).heap (heap_alloc2 w _ _) HN.out
  have z0 : w1.cell? ⟨w.heap.size + 1, 0, none⟩ = some (.int .i64 0) := cell_of z 0
  have z1 : w1.cell? ⟨w.heap.size + 1, 1, none⟩ = some (.int .i64 0) := cell_of z 1
  have z2 : w1.cell? ⟨w.heap.size + 1, 2, none⟩ = some (.int .i64 0) := cell_of z 2
  have z3 : w1.cell? ⟨w.heap.size + 1, 3, none⟩ = some (.string ⟨#[]⟩) := cell_of z 3
  have zf := frozen_of z
  have HR : Hid _ := lay4 z (.int .i64 (0)) (.int .i64 (0)) (.int .i64 0) (.string (st (showB xs.length (AX xs) (AX ys))))
  clear z
  go_wp2
  obtain ⟨r0, r1, r2, r3⟩ := HR.out
  apply bodyPost_ret
  focus (simp [results, Try.results61, go_sem, r0, r1, r2, r3]; rfl)
  focus rfl
  exact ⟨rfl, MP.fin (((Ext.refl w).alloc _).alloc _) H1.out HN.out (by rw [World.size_alloc, World.size_alloc]; omega) (by omega) _ _ _ _⟩
set_option maxHeartbeats 2000000 in
theorem dom_check (w : World) (B : Nat) (i : BM) (xs ys : List Datum) (o : Stp) (hst : BmAt w B i xs ys) (hk : o.k = 10) :
    Calls Try.prog 61 #[.pointer (some ⟨i.mb, 0, none⟩), opV o] w fun e w' => e = .returned (ans 0 1 []) ∧ MP B i w w' (xs) (ys) := by
  obtain ⟨k, oa, ob, oc, os, ot⟩ := o
  simp only at hk
  subst hk
  unfold opV ans
  have HS : Hid (BmAt w B i xs ys) := hst
  clear hst 
  go_enter Try.func61, Try.ntmps61
  go_wp2
  apply bodyPost_ret
  focus (simp [results, Try.results61, go_sem]; rfl)
  focus rfl
  exact ⟨rfl, MP.of_ext HS.out (((Ext.refl w).alloc _).alloc _)⟩
set_option maxHeartbeats 2000000 in
theorem dom_else (w : World) (B : Nat) (i : BM) (xs ys : List Datum) (o : Stp) (hst : BmAt w B i xs ys) (h1 : o.k ≠ 1) (h2 : o.k ≠ 2) (h3 : o.k ≠ 3) (h4 : o.k ≠ 4) (h5 : o.k ≠ 5) (h6 : o.k ≠ 6) (h7 : o.k ≠ 7) (h8 : o.k ≠ 8) (h9 : o.k ≠ 9) (h10 : o.k ≠ 10) :
    Calls Try.prog 61 #[.pointer (some ⟨i.mb, 0, none⟩), opV o] w fun e w' => e = .returned (ans 0 0 []) ∧ MP B i w w' (xs) (ys) := by
  obtain ⟨k, oa, ob, oc, os, ot⟩ := o
  simp only at h1 h2 h3 h4 h5 h6 h7 h8 h9 h10
  have e1 : (k == 1) = false := beq_false_of_ne h1
  have e2 : (k == 2) = false := beq_false_of_ne h2
  have e3 : (k == 3) = false := beq_false_of_ne h3
  have e4 : (k == 4) = false := beq_false_of_ne h4
  have e5 : (k == 5) = false := beq_false_of_ne h5
  have e6 : (k == 6) = false := beq_false_of_ne h6
  have e7 : (k == 7) = false := beq_false_of_ne h7
  have e8 : (k == 8) = false := beq_false_of_ne h8
  have e9 : (k == 9) = false := beq_false_of_ne h9
  have e10 : (k == 10) = false := beq_false_of_ne h10
  unfold opV ans
  have HS : Hid (BmAt w B i xs ys) := hst
  clear hst h1 h2 h3 h4 h5 h6 h7 h8 h9 h10
  go_enter Try.func61, Try.ntmps61
  go_wp2
  apply bodyPost_ret
  focus (simp [results, Try.results61, go_sem]; rfl)
  focus rfl
  exact ⟨rfl, MP.of_ext HS.out (((Ext.refl w).alloc _).alloc _)⟩
theorem dom_any (w : World) (B : Nat) (i : BM) (xs ys : List Datum) (o : Stp) (hst : BmAt w B i xs ys) (hx : Pl.Rat xs) (hy : Pl.Rat ys) (ha : in64 o.a) (hb : in64 o.b) (hc : in64 o.c) :
    Calls Try.prog 61 #[.pointer (some ⟨i.mb, 0, none⟩), opV o] w fun e w' => e = .returned (ans (bstep xs ys o).e (bstep xs ys o).n (bstep xs ys o).s) ∧ MP B i w w' ((bstep xs ys o).xs) ((bstep xs ys o).ys) := by
  unfold bstep
  split
  · rename_i hk; exact dom_add w B i xs ys o hst hx hy ha hb hc hk
  split
  · rename_i hk; exact dom_drop w B i xs ys o hst hx hy ha hb hc hk
  split
  · rename_i hk; exact dom_len w B i xs ys o hst hx hy ha hb hc hk
  split
  · rename_i hk; exact dom_corner w B i xs ys o hst hx hy ha hb hc hk
  split
  · rename_i hk; exact dom_ins w B i xs ys o hst hx hy ha hb hc hk
  split
  · rename_i hk; exact dom_clamp w B i xs ys o hst hx hy ha hb hc hk
  split
  · rename_i hk; exact dom_along w B i xs ys o hst hx hy ha hb hc hk
  split
  · rename_i hk; exact dom_cell w B i xs ys o hst hx hy ha hb hc hk
  split
  · rename_i hk; exact dom_show w B i xs ys o hst hx hy ha hb hc hk
  split
  · rename_i hk; exact dom_check w B i xs ys o hst hk
  rename_i a b c d e f g j k l
  exact dom_else w B i xs ys o hst a b c d e f g j k l
end Go.Proofs.Qxb6500343a
