/-
  Walks of Keeps 5: Note.
-/
import Derived.Test.Qxb6500343aK4
namespace Go.Proofs.Qxb6500343a
open Go.RowKit
open Go.Proofs
open Ieee (Datum)
open Fl
open Tx (st)
open Ff (in64)
set_option linter.unusedSimpArgs false
set_option linter.unusedVariables false
attribute [local go_sem] run_fadd run_fsub run_fmul run_fquo run_store_float alloc_drewN setCell_drewN shape?_drewN tape_alloc drawn_alloc tape_setCell drawn_setCell drawn_drewN drawn_drew run_fneg

def NoteC (w w' : World) (c1 c2 c3 : Array Value) : Prop := w'.heap[w.heap.size]? = some (.cells c1 42) ∧ w'.heap[w.heap.size + 1]? = some (.cells c2 48) ∧ w'.heap[w.heap.size + 2]? = some (.cells c3 50)
theorem noteC_new (w : World) (c1 c2 c3 : Array Value) : NoteC w (((w.alloc (.cells c1 42)).alloc (.cells c2 48)).alloc (.cells c3 50)) c1 c2 c3 := by
  refine ⟨heap_alloc_lt (heap_alloc_lt (heap_alloc_new w _)), heap_alloc_lt (heap_alloc2 w _ _), ?_⟩
  have := heap_alloc2 (w.alloc (.cells c1 42)) (.cells c2 48) (.cells c3 50)
  rwa [World.size_alloc] at this
theorem NoteC.chg {S : List Nat} {w a b : World} {c1 c2 c3 : Array Value} (h : NoteC w a c1 c2 c3) (hx : Chg S a b) (hS : ∀ k, k ∈ S → k < w.heap.size) : NoteC w b c1 c2 c3 :=
  ⟨hx.heap h.1 (fun hk => by have := hS _ hk; omega), hx.heap h.2.1 (fun hk => by have := hS _ hk; omega), hx.heap h.2.2 (fun hk => by have := hS _ hk; omega)⟩
theorem NoteC.ext {w a b : World} {c1 c2 c3 : Array Value} (h : NoteC w a c1 c2 c3) (hx : Ext a b) : NoteC w b c1 c2 c3 := h.chg (S := []) (Chg.of_ext hx) (by simp)
/-- The pair behind Note. -/
def NP (B : Nat) (h : HId) (w w' : World) (xs ys : List Datum) : Prop := ∃ h' : HId, h'.mx = h.mx ∧ h'.my = h.my ∧ PairAt w' B h' xs ys ∧ Chg h.all w w' ∧ ∀ k, k ∈ h'.all → k ∈ h.all ∨ w.heap.size ≤ k
theorem NP.of_ext {B : Nat} {h : HId} {w w' : World} {xs ys : List Datum} (p : PairAt w B h xs ys) (hx : Ext w w') : NP B h w w' xs ys := ⟨h, rfl, rfl, p.ext hx, Chg.of_ext hx, fun k hk => .inl hk⟩
set_option maxRecDepth 100000 in
set_option maxHeartbeats 2000000 in
theorem note_full (w : World) (B : Nat) (h : HId) (xs ys : List Datum) (a b c ae an : Int) (os ot asx : ByteArray) (hp : PairAt w B h xs ys) (hn : xs.length = 8) (he : ae = 1) :
    Calls Try.prog 21 #[.agg #[.pointer (some ⟨h.mx, 0, none⟩), .pointer (some ⟨h.my, 0, none⟩)], .agg #[.int .i64 1, .int .i64 a, .int .i64 b, .int .i64 c, .string os, .string ot], .agg #[.int .i64 ae, .int .i64 an, .int .i64 0, .string asx]] w fun e w' => e = .returned (.bool true) ∧ Ext w w' := by
  subst he
  have HP : Hid (PairAt w B h xs ys) := hp
  have hl1 := hp.lt h.mx (by simp [HId.all])
  have hl2 := hp.lt h.my (by simp [HId.all])
  have HL : Hid (∀ k, k ∈ h.all → k < w.heap.size) := fun k hk => (hp.lt k hk).1
  have hl8 := hp.sx.len
  clear hp hl1 hl2
  go_enter Try.func21, Try.ntmps21
  go_wp2_with fail
  obtain ⟨W0, hW0⟩ : ∃ W0, W0 = ((w.alloc (.cells #[.pointer (some ⟨h.mx, 0, none⟩), .pointer (some ⟨h.my, 0, none⟩)] 42)).alloc (.cells #[.int .i64 1, .int .i64 a, .int .i64 b, .int .i64 c, .string os, .string ot] 48)).alloc (.cells #[.int .i64 1, .int .i64 an, .int .i64 0, .string asx] 50) := ⟨_, rfl⟩
  have X0 : Hid (NoteC w W0 #[.pointer (some ⟨h.mx, 0, none⟩), .pointer (some ⟨h.my, 0, none⟩)] #[.int .i64 1, .int .i64 a, .int .i64 b, .int .i64 c, .string os, .string ot] #[.int .i64 1, .int .i64 an, .int .i64 0, .string asx] ∧ Ext w W0) := by
    rw [hW0]
    exact ⟨noteC_new w _ _ _, (((Ext.refl w).alloc _).alloc _).alloc _⟩
  rw [← hW0]
  clear hW0
  refine (smlen_any W0 B h.mx h.vx xs (HP.out.sx.ext X0.out.2)).mono ?_
  rintro e w1 ⟨rfl, x1⟩
  have X1 : Hid (NoteC w w1 #[.pointer (some ⟨h.mx, 0, none⟩), .pointer (some ⟨h.my, 0, none⟩)] #[.int .i64 1, .int .i64 a, .int .i64 b, .int .i64 c, .string os, .string ot] #[.int .i64 1, .int .i64 an, .int .i64 0, .string asx] ∧ Ext w w1) := ⟨X0.out.1.ext x1, X0.out.2.trans x1⟩
  clear x1 X0
  rw [hn]
  have y10 : w1.cell? ⟨w.heap.size, 0, none⟩ = some (.pointer (some ⟨h.mx, 0, none⟩)) := cell_of X1.out.1.1 0
  have y11 : w1.cell? ⟨w.heap.size, 1, none⟩ = some (.pointer (some ⟨h.my, 0, none⟩)) := cell_of X1.out.1.1 1
  have t10 := cell_of X1.out.1.2.1 0
  have t11 := cell_of X1.out.1.2.1 1
  have t12 := cell_of X1.out.1.2.1 2
  have t13 := cell_of X1.out.1.2.1 3
  have v10 := cell_of X1.out.1.2.2 0
  have v11 := cell_of X1.out.1.2.2 1
  have v12 := cell_of X1.out.1.2.2 2
  have v13 := cell_of X1.out.1.2.2 3
  simp only [List.getElem?_toArray, List.getElem?_cons_zero, List.getElem?_cons_succ] at t10 t11 t12 t13 v10 v11 v12 v13
  go_wp2
  go_ret
  exact ⟨rfl, X1.out.2⟩
set_option maxRecDepth 100000 in
set_option maxHeartbeats 2000000 in
theorem note_dnone (w : World) (B : Nat) (h : HId) (xs ys : List Datum) (a b c ae an : Int) (os ot asx : ByteArray) (hp : PairAt w B h xs ys) (hn : xs.length = 0) (he : ae = 2) :
    Calls Try.prog 21 #[.agg #[.pointer (some ⟨h.mx, 0, none⟩), .pointer (some ⟨h.my, 0, none⟩)], .agg #[.int .i64 2, .int .i64 a, .int .i64 b, .int .i64 c, .string os, .string ot], .agg #[.int .i64 ae, .int .i64 an, .int .i64 0, .string asx]] w fun e w' => e = .returned (.bool true) ∧ Ext w w' := by
  subst he
  have HP : Hid (PairAt w B h xs ys) := hp
  have hl1 := hp.lt h.mx (by simp [HId.all])
  have hl2 := hp.lt h.my (by simp [HId.all])
  have HL : Hid (∀ k, k ∈ h.all → k < w.heap.size) := fun k hk => (hp.lt k hk).1
  have hl8 := hp.sx.len
  clear hp hl1 hl2
  go_enter Try.func21, Try.ntmps21
  go_wp2_with fail
  obtain ⟨W0, hW0⟩ : ∃ W0, W0 = ((w.alloc (.cells #[.pointer (some ⟨h.mx, 0, none⟩), .pointer (some ⟨h.my, 0, none⟩)] 42)).alloc (.cells #[.int .i64 2, .int .i64 a, .int .i64 b, .int .i64 c, .string os, .string ot] 48)).alloc (.cells #[.int .i64 2, .int .i64 an, .int .i64 0, .string asx] 50) := ⟨_, rfl⟩
  have X0 : Hid (NoteC w W0 #[.pointer (some ⟨h.mx, 0, none⟩), .pointer (some ⟨h.my, 0, none⟩)] #[.int .i64 2, .int .i64 a, .int .i64 b, .int .i64 c, .string os, .string ot] #[.int .i64 2, .int .i64 an, .int .i64 0, .string asx] ∧ Ext w W0) := by
    rw [hW0]
    exact ⟨noteC_new w _ _ _, (((Ext.refl w).alloc _).alloc _).alloc _⟩
  rw [← hW0]
  clear hW0
  refine (smlen_any W0 B h.mx h.vx xs (HP.out.sx.ext X0.out.2)).mono ?_
  rintro e w1 ⟨rfl, x1⟩
  have X1 : Hid (NoteC w w1 #[.pointer (some ⟨h.mx, 0, none⟩), .pointer (some ⟨h.my, 0, none⟩)] #[.int .i64 2, .int .i64 a, .int .i64 b, .int .i64 c, .string os, .string ot] #[.int .i64 2, .int .i64 an, .int .i64 0, .string asx] ∧ Ext w w1) := ⟨X0.out.1.ext x1, X0.out.2.trans x1⟩
  clear x1 X0
  rw [hn]
  have y10 : w1.cell? ⟨w.heap.size, 0, none⟩ = some (.pointer (some ⟨h.mx, 0, none⟩)) := cell_of X1.out.1.1 0
  have y11 : w1.cell? ⟨w.heap.size, 1, none⟩ = some (.pointer (some ⟨h.my, 0, none⟩)) := cell_of X1.out.1.1 1
  have t10 := cell_of X1.out.1.2.1 0
  have t11 := cell_of X1.out.1.2.1 1
  have t12 := cell_of X1.out.1.2.1 2
  have t13 := cell_of X1.out.1.2.1 3
  have v10 := cell_of X1.out.1.2.2 0
  have v11 := cell_of X1.out.1.2.2 1
  have v12 := cell_of X1.out.1.2.2 2
  have v13 := cell_of X1.out.1.2.2 3
  simp only [List.getElem?_toArray, List.getElem?_cons_zero, List.getElem?_cons_succ] at t10 t11 t12 t13 v10 v11 v12 v13
  go_wp2
  go_ret
  exact ⟨rfl, X1.out.2⟩
set_option maxRecDepth 100000 in
set_option maxHeartbeats 2000000 in
theorem note_p40 (w : World) (B : Nat) (h : HId) (xs ys : List Datum) (a b c ae an : Int) (os ot asx : ByteArray) (hp : PairAt w B h xs ys) (hn : xs.length = 0) (he : ae = 2) (hnn : an = 0) (hs : asx = st (pairT (V .f32 0) (V .f32 0))) :
    Calls Try.prog 21 #[.agg #[.pointer (some ⟨h.mx, 0, none⟩), .pointer (some ⟨h.my, 0, none⟩)], .agg #[.int .i64 4, .int .i64 a, .int .i64 b, .int .i64 c, .string os, .string ot], .agg #[.int .i64 ae, .int .i64 an, .int .i64 0, .string asx]] w fun e w' => e = .returned (.bool true) ∧ Ext w w' := by
  subst he hnn hs
  have HP : Hid (PairAt w B h xs ys) := hp
  have hl1 := hp.lt h.mx (by simp [HId.all])
  have hl2 := hp.lt h.my (by simp [HId.all])
  have HL : Hid (∀ k, k ∈ h.all → k < w.heap.size) := fun k hk => (hp.lt k hk).1
  have hl8 := hp.sx.len
  clear hp hl1 hl2
  go_enter Try.func21, Try.ntmps21
  go_wp2_with fail
  obtain ⟨W0, hW0⟩ : ∃ W0, W0 = ((w.alloc (.cells #[.pointer (some ⟨h.mx, 0, none⟩), .pointer (some ⟨h.my, 0, none⟩)] 42)).alloc (.cells #[.int .i64 4, .int .i64 a, .int .i64 b, .int .i64 c, .string os, .string ot] 48)).alloc (.cells #[.int .i64 2, .int .i64 0, .int .i64 0, .string (st (pairT (V .f32 0) (V .f32 0)))] 50) := ⟨_, rfl⟩
  have X0 : Hid (NoteC w W0 #[.pointer (some ⟨h.mx, 0, none⟩), .pointer (some ⟨h.my, 0, none⟩)] #[.int .i64 4, .int .i64 a, .int .i64 b, .int .i64 c, .string os, .string ot] #[.int .i64 2, .int .i64 0, .int .i64 0, .string (st (pairT (V .f32 0) (V .f32 0)))] ∧ Ext w W0) := by
    rw [hW0]
    exact ⟨noteC_new w _ _ _, (((Ext.refl w).alloc _).alloc _).alloc _⟩
  rw [← hW0]
  clear hW0
  refine (smlen_any W0 B h.mx h.vx xs (HP.out.sx.ext X0.out.2)).mono ?_
  rintro e w1 ⟨rfl, x1⟩
  have X1 : Hid (NoteC w w1 #[.pointer (some ⟨h.mx, 0, none⟩), .pointer (some ⟨h.my, 0, none⟩)] #[.int .i64 4, .int .i64 a, .int .i64 b, .int .i64 c, .string os, .string ot] #[.int .i64 2, .int .i64 0, .int .i64 0, .string (st (pairT (V .f32 0) (V .f32 0)))] ∧ Ext w w1) := ⟨X0.out.1.ext x1, X0.out.2.trans x1⟩
  clear x1 X0
  rw [hn]
  have y10 : w1.cell? ⟨w.heap.size, 0, none⟩ = some (.pointer (some ⟨h.mx, 0, none⟩)) := cell_of X1.out.1.1 0
  have y11 : w1.cell? ⟨w.heap.size, 1, none⟩ = some (.pointer (some ⟨h.my, 0, none⟩)) := cell_of X1.out.1.1 1
  have t10 := cell_of X1.out.1.2.1 0
  have t11 := cell_of X1.out.1.2.1 1
  have t12 := cell_of X1.out.1.2.1 2
  have t13 := cell_of X1.out.1.2.1 3
  have v10 := cell_of X1.out.1.2.2 0
  have v11 := cell_of X1.out.1.2.2 1
  have v12 := cell_of X1.out.1.2.2 2
  have v13 := cell_of X1.out.1.2.2 3
  simp only [List.getElem?_toArray, List.getElem?_cons_zero, List.getElem?_cons_succ] at t10 t11 t12 t13 v10 v11 v12 v13
  go_wp2_with fail
  refine (pair_any 0 0 2 w1).mono ?_
  rintro e w2 ⟨rfl, x2⟩
  unfold ans
  have X2 : Hid (NoteC w w2 #[.pointer (some ⟨h.mx, 0, none⟩), .pointer (some ⟨h.my, 0, none⟩)] #[.int .i64 4, .int .i64 a, .int .i64 b, .int .i64 c, .string os, .string ot] #[.int .i64 2, .int .i64 0, .int .i64 0, .string (st (pairT (V .f32 0) (V .f32 0)))] ∧ Ext w w2) := ⟨X1.out.1.ext x2, X1.out.2.trans x2⟩
  have hsz2 : w.heap.size + 2 < w2.heap.size := lt_of_heap X2.out.1.2.2
  clear x2
  clear y10 y11 t10 t11 t12 t13 v10 v11 v12 v13
  have y20 : w2.cell? ⟨w.heap.size, 0, none⟩ = some (.pointer (some ⟨h.mx, 0, none⟩)) := cell_of X2.out.1.1 0
  have y21 : w2.cell? ⟨w.heap.size, 1, none⟩ = some (.pointer (some ⟨h.my, 0, none⟩)) := cell_of X2.out.1.1 1
  have t20 := cell_of X2.out.1.2.1 0
  have t21 := cell_of X2.out.1.2.1 1
  have t22 := cell_of X2.out.1.2.1 2
  have t23 := cell_of X2.out.1.2.1 3
  have v20 := cell_of X2.out.1.2.2 0
  have v21 := cell_of X2.out.1.2.2 1
  have v22 := cell_of X2.out.1.2.2 2
  have v23 := cell_of X2.out.1.2.2 3
  simp only [List.getElem?_toArray, List.getElem?_cons_zero, List.getElem?_cons_succ] at t20 t21 t22 t23 v20 v21 v22 v23
  generalize st (pairT (V .f32 0) (V .f32 0)) = S at *
  go_wp2
  go_ret
  exact ⟨by first | rfl | simp, X2.out.2.alloc _⟩
set_option maxRecDepth 100000 in
set_option maxHeartbeats 2000000 in
theorem note_p60 (w : World) (B : Nat) (h : HId) (xs ys : List Datum) (a b c ae an : Int) (os ot asx : ByteArray) (hp : PairAt w B h xs ys) (hn : xs.length = 0) (he : ae = 2) (hnn : an = 0) (hs : asx = st (pairT (V .f32 0) (V .f32 0))) :
    Calls Try.prog 21 #[.agg #[.pointer (some ⟨h.mx, 0, none⟩), .pointer (some ⟨h.my, 0, none⟩)], .agg #[.int .i64 6, .int .i64 a, .int .i64 b, .int .i64 c, .string os, .string ot], .agg #[.int .i64 ae, .int .i64 an, .int .i64 0, .string asx]] w fun e w' => e = .returned (.bool true) ∧ Ext w w' := by
  subst he hnn hs
  have HP : Hid (PairAt w B h xs ys) := hp
  have hl1 := hp.lt h.mx (by simp [HId.all])
  have hl2 := hp.lt h.my (by simp [HId.all])
  have HL : Hid (∀ k, k ∈ h.all → k < w.heap.size) := fun k hk => (hp.lt k hk).1
  have hl8 := hp.sx.len
  clear hp hl1 hl2
  go_enter Try.func21, Try.ntmps21
  go_wp2_with fail
  obtain ⟨W0, hW0⟩ : ∃ W0, W0 = ((w.alloc (.cells #[.pointer (some ⟨h.mx, 0, none⟩), .pointer (some ⟨h.my, 0, none⟩)] 42)).alloc (.cells #[.int .i64 6, .int .i64 a, .int .i64 b, .int .i64 c, .string os, .string ot] 48)).alloc (.cells #[.int .i64 2, .int .i64 0, .int .i64 0, .string (st (pairT (V .f32 0) (V .f32 0)))] 50) := ⟨_, rfl⟩
  have X0 : Hid (NoteC w W0 #[.pointer (some ⟨h.mx, 0, none⟩), .pointer (some ⟨h.my, 0, none⟩)] #[.int .i64 6, .int .i64 a, .int .i64 b, .int .i64 c, .string os, .string ot] #[.int .i64 2, .int .i64 0, .int .i64 0, .string (st (pairT (V .f32 0) (V .f32 0)))] ∧ Ext w W0) := by
    rw [hW0]
    exact ⟨noteC_new w _ _ _, (((Ext.refl w).alloc _).alloc _).alloc _⟩
  rw [← hW0]
  clear hW0
  refine (smlen_any W0 B h.mx h.vx xs (HP.out.sx.ext X0.out.2)).mono ?_
  rintro e w1 ⟨rfl, x1⟩
  have X1 : Hid (NoteC w w1 #[.pointer (some ⟨h.mx, 0, none⟩), .pointer (some ⟨h.my, 0, none⟩)] #[.int .i64 6, .int .i64 a, .int .i64 b, .int .i64 c, .string os, .string ot] #[.int .i64 2, .int .i64 0, .int .i64 0, .string (st (pairT (V .f32 0) (V .f32 0)))] ∧ Ext w w1) := ⟨X0.out.1.ext x1, X0.out.2.trans x1⟩
  clear x1 X0
  rw [hn]
  have y10 : w1.cell? ⟨w.heap.size, 0, none⟩ = some (.pointer (some ⟨h.mx, 0, none⟩)) := cell_of X1.out.1.1 0
  have y11 : w1.cell? ⟨w.heap.size, 1, none⟩ = some (.pointer (some ⟨h.my, 0, none⟩)) := cell_of X1.out.1.1 1
  have t10 := cell_of X1.out.1.2.1 0
  have t11 := cell_of X1.out.1.2.1 1
  have t12 := cell_of X1.out.1.2.1 2
  have t13 := cell_of X1.out.1.2.1 3
  have v10 := cell_of X1.out.1.2.2 0
  have v11 := cell_of X1.out.1.2.2 1
  have v12 := cell_of X1.out.1.2.2 2
  have v13 := cell_of X1.out.1.2.2 3
  simp only [List.getElem?_toArray, List.getElem?_cons_zero, List.getElem?_cons_succ] at t10 t11 t12 t13 v10 v11 v12 v13
  go_wp2_with fail
  refine (pair_any 0 0 2 w1).mono ?_
  rintro e w2 ⟨rfl, x2⟩
  unfold ans
  have X2 : Hid (NoteC w w2 #[.pointer (some ⟨h.mx, 0, none⟩), .pointer (some ⟨h.my, 0, none⟩)] #[.int .i64 6, .int .i64 a, .int .i64 b, .int .i64 c, .string os, .string ot] #[.int .i64 2, .int .i64 0, .int .i64 0, .string (st (pairT (V .f32 0) (V .f32 0)))] ∧ Ext w w2) := ⟨X1.out.1.ext x2, X1.out.2.trans x2⟩
  have hsz2 : w.heap.size + 2 < w2.heap.size := lt_of_heap X2.out.1.2.2
  clear x2
  clear y10 y11 t10 t11 t12 t13 v10 v11 v12 v13
  have y20 : w2.cell? ⟨w.heap.size, 0, none⟩ = some (.pointer (some ⟨h.mx, 0, none⟩)) := cell_of X2.out.1.1 0
  have y21 : w2.cell? ⟨w.heap.size, 1, none⟩ = some (.pointer (some ⟨h.my, 0, none⟩)) := cell_of X2.out.1.1 1
  have t20 := cell_of X2.out.1.2.1 0
  have t21 := cell_of X2.out.1.2.1 1
  have t22 := cell_of X2.out.1.2.1 2
  have t23 := cell_of X2.out.1.2.1 3
  have v20 := cell_of X2.out.1.2.2 0
  have v21 := cell_of X2.out.1.2.2 1
  have v22 := cell_of X2.out.1.2.2 2
  have v23 := cell_of X2.out.1.2.2 3
  simp only [List.getElem?_toArray, List.getElem?_cons_zero, List.getElem?_cons_succ] at t20 t21 t22 t23 v20 v21 v22 v23
  generalize st (pairT (V .f32 0) (V .f32 0)) = S at *
  go_wp2
  go_ret
  exact ⟨by first | rfl | simp, X2.out.2.alloc _⟩
set_option maxRecDepth 100000 in
set_option maxHeartbeats 2000000 in
theorem note_p70 (w : World) (B : Nat) (h : HId) (xs ys : List Datum) (a b c ae an : Int) (os ot asx : ByteArray) (hp : PairAt w B h xs ys) (hn : xs.length = 0) (he : ae = 2) (hnn : an = 0) (hs : asx = st (pairT (V .f32 0) (V .f32 0))) :
    Calls Try.prog 21 #[.agg #[.pointer (some ⟨h.mx, 0, none⟩), .pointer (some ⟨h.my, 0, none⟩)], .agg #[.int .i64 7, .int .i64 a, .int .i64 b, .int .i64 c, .string os, .string ot], .agg #[.int .i64 ae, .int .i64 an, .int .i64 0, .string asx]] w fun e w' => e = .returned (.bool true) ∧ Ext w w' := by
  subst he hnn hs
  have HP : Hid (PairAt w B h xs ys) := hp
  have hl1 := hp.lt h.mx (by simp [HId.all])
  have hl2 := hp.lt h.my (by simp [HId.all])
  have HL : Hid (∀ k, k ∈ h.all → k < w.heap.size) := fun k hk => (hp.lt k hk).1
  have hl8 := hp.sx.len
  clear hp hl1 hl2
  go_enter Try.func21, Try.ntmps21
  go_wp2_with fail
  obtain ⟨W0, hW0⟩ : ∃ W0, W0 = ((w.alloc (.cells #[.pointer (some ⟨h.mx, 0, none⟩), .pointer (some ⟨h.my, 0, none⟩)] 42)).alloc (.cells #[.int .i64 7, .int .i64 a, .int .i64 b, .int .i64 c, .string os, .string ot] 48)).alloc (.cells #[.int .i64 2, .int .i64 0, .int .i64 0, .string (st (pairT (V .f32 0) (V .f32 0)))] 50) := ⟨_, rfl⟩
  have X0 : Hid (NoteC w W0 #[.pointer (some ⟨h.mx, 0, none⟩), .pointer (some ⟨h.my, 0, none⟩)] #[.int .i64 7, .int .i64 a, .int .i64 b, .int .i64 c, .string os, .string ot] #[.int .i64 2, .int .i64 0, .int .i64 0, .string (st (pairT (V .f32 0) (V .f32 0)))] ∧ Ext w W0) := by
    rw [hW0]
    exact ⟨noteC_new w _ _ _, (((Ext.refl w).alloc _).alloc _).alloc _⟩
  rw [← hW0]
  clear hW0
  refine (smlen_any W0 B h.mx h.vx xs (HP.out.sx.ext X0.out.2)).mono ?_
  rintro e w1 ⟨rfl, x1⟩
  have X1 : Hid (NoteC w w1 #[.pointer (some ⟨h.mx, 0, none⟩), .pointer (some ⟨h.my, 0, none⟩)] #[.int .i64 7, .int .i64 a, .int .i64 b, .int .i64 c, .string os, .string ot] #[.int .i64 2, .int .i64 0, .int .i64 0, .string (st (pairT (V .f32 0) (V .f32 0)))] ∧ Ext w w1) := ⟨X0.out.1.ext x1, X0.out.2.trans x1⟩
  clear x1 X0
  rw [hn]
  have y10 : w1.cell? ⟨w.heap.size, 0, none⟩ = some (.pointer (some ⟨h.mx, 0, none⟩)) := cell_of X1.out.1.1 0
  have y11 : w1.cell? ⟨w.heap.size, 1, none⟩ = some (.pointer (some ⟨h.my, 0, none⟩)) := cell_of X1.out.1.1 1
  have t10 := cell_of X1.out.1.2.1 0
  have t11 := cell_of X1.out.1.2.1 1
  have t12 := cell_of X1.out.1.2.1 2
  have t13 := cell_of X1.out.1.2.1 3
  have v10 := cell_of X1.out.1.2.2 0
  have v11 := cell_of X1.out.1.2.2 1
  have v12 := cell_of X1.out.1.2.2 2
  have v13 := cell_of X1.out.1.2.2 3
  simp only [List.getElem?_toArray, List.getElem?_cons_zero, List.getElem?_cons_succ] at t10 t11 t12 t13 v10 v11 v12 v13
  go_wp2_with fail
  refine (pair_any 0 0 2 w1).mono ?_
  rintro e w2 ⟨rfl, x2⟩
  unfold ans
  have X2 : Hid (NoteC w w2 #[.pointer (some ⟨h.mx, 0, none⟩), .pointer (some ⟨h.my, 0, none⟩)] #[.int .i64 7, .int .i64 a, .int .i64 b, .int .i64 c, .string os, .string ot] #[.int .i64 2, .int .i64 0, .int .i64 0, .string (st (pairT (V .f32 0) (V .f32 0)))] ∧ Ext w w2) := ⟨X1.out.1.ext x2, X1.out.2.trans x2⟩
  have hsz2 : w.heap.size + 2 < w2.heap.size := lt_of_heap X2.out.1.2.2
  clear x2
  clear y10 y11 t10 t11 t12 t13 v10 v11 v12 v13
  have y20 : w2.cell? ⟨w.heap.size, 0, none⟩ = some (.pointer (some ⟨h.mx, 0, none⟩)) := cell_of X2.out.1.1 0
  have y21 : w2.cell? ⟨w.heap.size, 1, none⟩ = some (.pointer (some ⟨h.my, 0, none⟩)) := cell_of X2.out.1.1 1
  have t20 := cell_of X2.out.1.2.1 0
  have t21 := cell_of X2.out.1.2.1 1
  have t22 := cell_of X2.out.1.2.1 2
  have t23 := cell_of X2.out.1.2.1 3
  have v20 := cell_of X2.out.1.2.2 0
  have v21 := cell_of X2.out.1.2.2 1
  have v22 := cell_of X2.out.1.2.2 2
  have v23 := cell_of X2.out.1.2.2 3
  simp only [List.getElem?_toArray, List.getElem?_cons_zero, List.getElem?_cons_succ] at t20 t21 t22 t23 v20 v21 v22 v23
  generalize st (pairT (V .f32 0) (V .f32 0)) = S at *
  go_wp2
  go_ret
  exact ⟨by first | rfl | simp, X2.out.2.alloc _⟩
set_option maxRecDepth 100000 in
set_option maxHeartbeats 2000000 in
theorem note_q50 (w : World) (B : Nat) (h : HId) (xs ys : List Datum) (a b c ae an : Int) (os ot asx : ByteArray) (hp : PairAt w B h xs ys) (hn : xs.length = 0) (he : ae = 2) (hnn : an = 0) (hs : asx = ⟨#[]⟩) :
    Calls Try.prog 21 #[.agg #[.pointer (some ⟨h.mx, 0, none⟩), .pointer (some ⟨h.my, 0, none⟩)], .agg #[.int .i64 5, .int .i64 a, .int .i64 b, .int .i64 c, .string os, .string ot], .agg #[.int .i64 ae, .int .i64 an, .int .i64 0, .string asx]] w fun e w' => e = .returned (.bool true) ∧ Ext w w' := by
  subst he hnn hs
  have HP : Hid (PairAt w B h xs ys) := hp
  have hl1 := hp.lt h.mx (by simp [HId.all])
  have hl2 := hp.lt h.my (by simp [HId.all])
  have HL : Hid (∀ k, k ∈ h.all → k < w.heap.size) := fun k hk => (hp.lt k hk).1
  have hl8 := hp.sx.len
  clear hp hl1 hl2
  go_enter Try.func21, Try.ntmps21
  go_wp2_with fail
  obtain ⟨W0, hW0⟩ : ∃ W0, W0 = ((w.alloc (.cells #[.pointer (some ⟨h.mx, 0, none⟩), .pointer (some ⟨h.my, 0, none⟩)] 42)).alloc (.cells #[.int .i64 5, .int .i64 a, .int .i64 b, .int .i64 c, .string os, .string ot] 48)).alloc (.cells #[.int .i64 2, .int .i64 0, .int .i64 0, .string ⟨#[]⟩] 50) := ⟨_, rfl⟩
  have X0 : Hid (NoteC w W0 #[.pointer (some ⟨h.mx, 0, none⟩), .pointer (some ⟨h.my, 0, none⟩)] #[.int .i64 5, .int .i64 a, .int .i64 b, .int .i64 c, .string os, .string ot] #[.int .i64 2, .int .i64 0, .int .i64 0, .string ⟨#[]⟩] ∧ Ext w W0) := by
    rw [hW0]
    exact ⟨noteC_new w _ _ _, (((Ext.refl w).alloc _).alloc _).alloc _⟩
  rw [← hW0]
  clear hW0
  refine (smlen_any W0 B h.mx h.vx xs (HP.out.sx.ext X0.out.2)).mono ?_
  rintro e w1 ⟨rfl, x1⟩
  have X1 : Hid (NoteC w w1 #[.pointer (some ⟨h.mx, 0, none⟩), .pointer (some ⟨h.my, 0, none⟩)] #[.int .i64 5, .int .i64 a, .int .i64 b, .int .i64 c, .string os, .string ot] #[.int .i64 2, .int .i64 0, .int .i64 0, .string ⟨#[]⟩] ∧ Ext w w1) := ⟨X0.out.1.ext x1, X0.out.2.trans x1⟩
  clear x1 X0
  rw [hn]
  have y10 : w1.cell? ⟨w.heap.size, 0, none⟩ = some (.pointer (some ⟨h.mx, 0, none⟩)) := cell_of X1.out.1.1 0
  have y11 : w1.cell? ⟨w.heap.size, 1, none⟩ = some (.pointer (some ⟨h.my, 0, none⟩)) := cell_of X1.out.1.1 1
  have t10 := cell_of X1.out.1.2.1 0
  have t11 := cell_of X1.out.1.2.1 1
  have t12 := cell_of X1.out.1.2.1 2
  have t13 := cell_of X1.out.1.2.1 3
  have v10 := cell_of X1.out.1.2.2 0
  have v11 := cell_of X1.out.1.2.2 1
  have v12 := cell_of X1.out.1.2.2 2
  have v13 := cell_of X1.out.1.2.2 3
  simp only [List.getElem?_toArray, List.getElem?_cons_zero, List.getElem?_cons_succ] at t10 t11 t12 t13 v10 v11 v12 v13
  go_wp2
  go_ret
  exact ⟨rfl, X1.out.2⟩
set_option maxRecDepth 100000 in
set_option maxHeartbeats 2000000 in
theorem note_q80 (w : World) (B : Nat) (h : HId) (xs ys : List Datum) (a b c ae an : Int) (os ot asx : ByteArray) (hp : PairAt w B h xs ys) (hn : xs.length = 0) (he : ae = 2) (hnn : an = 0) (hs : asx = ⟨#[]⟩) :
    Calls Try.prog 21 #[.agg #[.pointer (some ⟨h.mx, 0, none⟩), .pointer (some ⟨h.my, 0, none⟩)], .agg #[.int .i64 8, .int .i64 a, .int .i64 b, .int .i64 c, .string os, .string ot], .agg #[.int .i64 ae, .int .i64 an, .int .i64 0, .string asx]] w fun e w' => e = .returned (.bool true) ∧ Ext w w' := by
  subst he hnn hs
  have HP : Hid (PairAt w B h xs ys) := hp
  have hl1 := hp.lt h.mx (by simp [HId.all])
  have hl2 := hp.lt h.my (by simp [HId.all])
  have HL : Hid (∀ k, k ∈ h.all → k < w.heap.size) := fun k hk => (hp.lt k hk).1
  have hl8 := hp.sx.len
  clear hp hl1 hl2
  go_enter Try.func21, Try.ntmps21
  go_wp2_with fail
  obtain ⟨W0, hW0⟩ : ∃ W0, W0 = ((w.alloc (.cells #[.pointer (some ⟨h.mx, 0, none⟩), .pointer (some ⟨h.my, 0, none⟩)] 42)).alloc (.cells #[.int .i64 8, .int .i64 a, .int .i64 b, .int .i64 c, .string os, .string ot] 48)).alloc (.cells #[.int .i64 2, .int .i64 0, .int .i64 0, .string ⟨#[]⟩] 50) := ⟨_, rfl⟩
  have X0 : Hid (NoteC w W0 #[.pointer (some ⟨h.mx, 0, none⟩), .pointer (some ⟨h.my, 0, none⟩)] #[.int .i64 8, .int .i64 a, .int .i64 b, .int .i64 c, .string os, .string ot] #[.int .i64 2, .int .i64 0, .int .i64 0, .string ⟨#[]⟩] ∧ Ext w W0) := by
    rw [hW0]
    exact ⟨noteC_new w _ _ _, (((Ext.refl w).alloc _).alloc _).alloc _⟩
  rw [← hW0]
  clear hW0
  refine (smlen_any W0 B h.mx h.vx xs (HP.out.sx.ext X0.out.2)).mono ?_
  rintro e w1 ⟨rfl, x1⟩
  have X1 : Hid (NoteC w w1 #[.pointer (some ⟨h.mx, 0, none⟩), .pointer (some ⟨h.my, 0, none⟩)] #[.int .i64 8, .int .i64 a, .int .i64 b, .int .i64 c, .string os, .string ot] #[.int .i64 2, .int .i64 0, .int .i64 0, .string ⟨#[]⟩] ∧ Ext w w1) := ⟨X0.out.1.ext x1, X0.out.2.trans x1⟩
  clear x1 X0
  rw [hn]
  have y10 : w1.cell? ⟨w.heap.size, 0, none⟩ = some (.pointer (some ⟨h.mx, 0, none⟩)) := cell_of X1.out.1.1 0
  have y11 : w1.cell? ⟨w.heap.size, 1, none⟩ = some (.pointer (some ⟨h.my, 0, none⟩)) := cell_of X1.out.1.1 1
  have t10 := cell_of X1.out.1.2.1 0
  have t11 := cell_of X1.out.1.2.1 1
  have t12 := cell_of X1.out.1.2.1 2
  have t13 := cell_of X1.out.1.2.1 3
  have v10 := cell_of X1.out.1.2.2 0
  have v11 := cell_of X1.out.1.2.2 1
  have v12 := cell_of X1.out.1.2.2 2
  have v13 := cell_of X1.out.1.2.2 3
  simp only [List.getElem?_toArray, List.getElem?_cons_zero, List.getElem?_cons_succ] at t10 t11 t12 t13 v10 v11 v12 v13
  go_wp2
  go_ret
  exact ⟨rfl, X1.out.2⟩
set_option maxRecDepth 100000 in
set_option maxHeartbeats 2000000 in
theorem note_cout (w : World) (B : Nat) (h : HId) (xs ys : List Datum) (a b c ae an : Int) (os ot asx : ByteArray) (hp : PairAt w B h xs ys) (hn : 0 < xs.length) (ha : a < 0 ∨ 3 < a) (he : ae = 3) (hnn : an = 0) (hs : asx = st (pairT (V .f32 0) (V .f32 0))) :
    Calls Try.prog 21 #[.agg #[.pointer (some ⟨h.mx, 0, none⟩), .pointer (some ⟨h.my, 0, none⟩)], .agg #[.int .i64 4, .int .i64 a, .int .i64 b, .int .i64 c, .string os, .string ot], .agg #[.int .i64 ae, .int .i64 an, .int .i64 0, .string asx]] w fun e w' => e = .returned (.bool true) ∧ Ext w w' := by
  subst he hnn hs
  have hz : ((xs.length : Int) == 0) = false := beq_eq_false_iff_ne.2 (by omega)
  have HP : Hid (PairAt w B h xs ys) := hp
  have hl1 := hp.lt h.mx (by simp [HId.all])
  have hl2 := hp.lt h.my (by simp [HId.all])
  have HL : Hid (∀ k, k ∈ h.all → k < w.heap.size) := fun k hk => (hp.lt k hk).1
  have hl8 := hp.sx.len
  clear hp hl1 hl2
  go_enter Try.func21, Try.ntmps21
  go_wp2_with fail
  obtain ⟨W0, hW0⟩ : ∃ W0, W0 = ((w.alloc (.cells #[.pointer (some ⟨h.mx, 0, none⟩), .pointer (some ⟨h.my, 0, none⟩)] 42)).alloc (.cells #[.int .i64 4, .int .i64 a, .int .i64 b, .int .i64 c, .string os, .string ot] 48)).alloc (.cells #[.int .i64 3, .int .i64 0, .int .i64 0, .string (st (pairT (V .f32 0) (V .f32 0)))] 50) := ⟨_, rfl⟩
  have X0 : Hid (NoteC w W0 #[.pointer (some ⟨h.mx, 0, none⟩), .pointer (some ⟨h.my, 0, none⟩)] #[.int .i64 4, .int .i64 a, .int .i64 b, .int .i64 c, .string os, .string ot] #[.int .i64 3, .int .i64 0, .int .i64 0, .string (st (pairT (V .f32 0) (V .f32 0)))] ∧ Ext w W0) := by
    rw [hW0]
    exact ⟨noteC_new w _ _ _, (((Ext.refl w).alloc _).alloc _).alloc _⟩
  rw [← hW0]
  clear hW0
  refine (smlen_any W0 B h.mx h.vx xs (HP.out.sx.ext X0.out.2)).mono ?_
  rintro e w1 ⟨rfl, x1⟩
  have X1 : Hid (NoteC w w1 #[.pointer (some ⟨h.mx, 0, none⟩), .pointer (some ⟨h.my, 0, none⟩)] #[.int .i64 4, .int .i64 a, .int .i64 b, .int .i64 c, .string os, .string ot] #[.int .i64 3, .int .i64 0, .int .i64 0, .string (st (pairT (V .f32 0) (V .f32 0)))] ∧ Ext w w1) := ⟨X0.out.1.ext x1, X0.out.2.trans x1⟩
  clear x1 X0
  have y10 : w1.cell? ⟨w.heap.size, 0, none⟩ = some (.pointer (some ⟨h.mx, 0, none⟩)) := cell_of X1.out.1.1 0
  have y11 : w1.cell? ⟨w.heap.size, 1, none⟩ = some (.pointer (some ⟨h.my, 0, none⟩)) := cell_of X1.out.1.1 1
  have t10 := cell_of X1.out.1.2.1 0
  have t11 := cell_of X1.out.1.2.1 1
  have t12 := cell_of X1.out.1.2.1 2
  have t13 := cell_of X1.out.1.2.1 3
  have v10 := cell_of X1.out.1.2.2 0
  have v11 := cell_of X1.out.1.2.2 1
  have v12 := cell_of X1.out.1.2.2 2
  have v13 := cell_of X1.out.1.2.2 3
  simp only [List.getElem?_toArray, List.getElem?_cons_zero, List.getElem?_cons_succ] at t10 t11 t12 t13 v10 v11 v12 v13
  have dd : decide (a < 0) = true ∨ decide (a < 0) = false ∧ decide (3 < a) = true := by
    by_cases h0 : a < 0
    · exact .inl (decide_eq_true h0)
    · exact .inr ⟨decide_eq_false h0, decide_eq_true (by omega)⟩
  clear ha
  rcases dd with d1 | ⟨d1, d2⟩
  all_goals
    go_wp2_with fail
    refine (pair_any 0 0 3 w1).mono ?_
    rintro e w2 ⟨rfl, x2⟩
    unfold ans
    have X2 : Hid (NoteC w w2 #[.pointer (some ⟨h.mx, 0, none⟩), .pointer (some ⟨h.my, 0, none⟩)] #[.int .i64 4, .int .i64 a, .int .i64 b, .int .i64 c, .string os, .string ot] #[.int .i64 3, .int .i64 0, .int .i64 0, .string (st (pairT (V .f32 0) (V .f32 0)))] ∧ Ext w w2) := ⟨X1.out.1.ext x2, X1.out.2.trans x2⟩
    have hsz2 : w.heap.size + 2 < w2.heap.size := lt_of_heap X2.out.1.2.2
    clear x2
    clear y10 y11 t10 t11 t12 t13 v10 v11 v12 v13
    have y20 : w2.cell? ⟨w.heap.size, 0, none⟩ = some (.pointer (some ⟨h.mx, 0, none⟩)) := cell_of X2.out.1.1 0
    have y21 : w2.cell? ⟨w.heap.size, 1, none⟩ = some (.pointer (some ⟨h.my, 0, none⟩)) := cell_of X2.out.1.1 1
    have t20 := cell_of X2.out.1.2.1 0
    have t21 := cell_of X2.out.1.2.1 1
    have t22 := cell_of X2.out.1.2.1 2
    have t23 := cell_of X2.out.1.2.1 3
    have v20 := cell_of X2.out.1.2.2 0
    have v21 := cell_of X2.out.1.2.2 1
    have v22 := cell_of X2.out.1.2.2 2
    have v23 := cell_of X2.out.1.2.2 3
    simp only [List.getElem?_toArray, List.getElem?_cons_zero, List.getElem?_cons_succ] at t20 t21 t22 t23 v20 v21 v22 v23
    generalize st (pairT (V .f32 0) (V .f32 0)) = S at *
    go_wp2
    go_ret
    exact ⟨by first | rfl | simp, X2.out.2.alloc _⟩
set_option maxRecDepth 100000 in
set_option maxHeartbeats 2000000 in
theorem note_cin (w : World) (B : Nat) (h : HId) (xs ys : List Datum) (a b c ae an : Int) (os ot asx : ByteArray) (hp : PairAt w B h xs ys) (hn : 0 < xs.length) (ha : 0 ≤ a ∧ a ≤ 3) (he : ae = 0) :
    Calls Try.prog 21 #[.agg #[.pointer (some ⟨h.mx, 0, none⟩), .pointer (some ⟨h.my, 0, none⟩)], .agg #[.int .i64 4, .int .i64 a, .int .i64 b, .int .i64 c, .string os, .string ot], .agg #[.int .i64 ae, .int .i64 an, .int .i64 0, .string asx]] w fun e w' => e = .returned (.bool true) ∧ Ext w w' := by
  subst he
  have hz : ((xs.length : Int) == 0) = false := beq_eq_false_iff_ne.2 (by omega)
  have d1 : decide (a < 0) = false := decide_eq_false (by omega)
  have d2 : decide (3 < a) = false := decide_eq_false (by omega)
  clear ha
  have HP : Hid (PairAt w B h xs ys) := hp
  have hl1 := hp.lt h.mx (by simp [HId.all])
  have hl2 := hp.lt h.my (by simp [HId.all])
  have HL : Hid (∀ k, k ∈ h.all → k < w.heap.size) := fun k hk => (hp.lt k hk).1
  have hl8 := hp.sx.len
  clear hp hl1 hl2
  go_enter Try.func21, Try.ntmps21
  go_wp2_with fail
  obtain ⟨W0, hW0⟩ : ∃ W0, W0 = ((w.alloc (.cells #[.pointer (some ⟨h.mx, 0, none⟩), .pointer (some ⟨h.my, 0, none⟩)] 42)).alloc (.cells #[.int .i64 4, .int .i64 a, .int .i64 b, .int .i64 c, .string os, .string ot] 48)).alloc (.cells #[.int .i64 0, .int .i64 an, .int .i64 0, .string asx] 50) := ⟨_, rfl⟩
  have X0 : Hid (NoteC w W0 #[.pointer (some ⟨h.mx, 0, none⟩), .pointer (some ⟨h.my, 0, none⟩)] #[.int .i64 4, .int .i64 a, .int .i64 b, .int .i64 c, .string os, .string ot] #[.int .i64 0, .int .i64 an, .int .i64 0, .string asx] ∧ Ext w W0) := by
    rw [hW0]
    exact ⟨noteC_new w _ _ _, (((Ext.refl w).alloc _).alloc _).alloc _⟩
  rw [← hW0]
  clear hW0
  refine (smlen_any W0 B h.mx h.vx xs (HP.out.sx.ext X0.out.2)).mono ?_
  rintro e w1 ⟨rfl, x1⟩
  have X1 : Hid (NoteC w w1 #[.pointer (some ⟨h.mx, 0, none⟩), .pointer (some ⟨h.my, 0, none⟩)] #[.int .i64 4, .int .i64 a, .int .i64 b, .int .i64 c, .string os, .string ot] #[.int .i64 0, .int .i64 an, .int .i64 0, .string asx] ∧ Ext w w1) := ⟨X0.out.1.ext x1, X0.out.2.trans x1⟩
  clear x1 X0
  have y10 : w1.cell? ⟨w.heap.size, 0, none⟩ = some (.pointer (some ⟨h.mx, 0, none⟩)) := cell_of X1.out.1.1 0
  have y11 : w1.cell? ⟨w.heap.size, 1, none⟩ = some (.pointer (some ⟨h.my, 0, none⟩)) := cell_of X1.out.1.1 1
  have t10 := cell_of X1.out.1.2.1 0
  have t11 := cell_of X1.out.1.2.1 1
  have t12 := cell_of X1.out.1.2.1 2
  have t13 := cell_of X1.out.1.2.1 3
  have v10 := cell_of X1.out.1.2.2 0
  have v11 := cell_of X1.out.1.2.2 1
  have v12 := cell_of X1.out.1.2.2 2
  have v13 := cell_of X1.out.1.2.2 3
  simp only [List.getElem?_toArray, List.getElem?_cons_zero, List.getElem?_cons_succ] at t10 t11 t12 t13 v10 v11 v12 v13
  go_wp2
  go_ret
  exact ⟨rfl, X1.out.2⟩
set_option maxRecDepth 100000 in
set_option maxHeartbeats 2000000 in
theorem note_r5 (w : World) (B : Nat) (h : HId) (xs ys : List Datum) (a b c ae an : Int) (os ot asx : ByteArray) (hp : PairAt w B h xs ys) (hn : 0 < xs.length) (he : ae = 0) :
    Calls Try.prog 21 #[.agg #[.pointer (some ⟨h.mx, 0, none⟩), .pointer (some ⟨h.my, 0, none⟩)], .agg #[.int .i64 5, .int .i64 a, .int .i64 b, .int .i64 c, .string os, .string ot], .agg #[.int .i64 ae, .int .i64 an, .int .i64 0, .string asx]] w fun e w' => e = .returned (.bool true) ∧ Ext w w' := by
  subst he
  have hz : ((xs.length : Int) == 0) = false := beq_eq_false_iff_ne.2 (by omega)
  have HP : Hid (PairAt w B h xs ys) := hp
  have hl1 := hp.lt h.mx (by simp [HId.all])
  have hl2 := hp.lt h.my (by simp [HId.all])
  have HL : Hid (∀ k, k ∈ h.all → k < w.heap.size) := fun k hk => (hp.lt k hk).1
  have hl8 := hp.sx.len
  clear hp hl1 hl2
  go_enter Try.func21, Try.ntmps21
  go_wp2_with fail
  obtain ⟨W0, hW0⟩ : ∃ W0, W0 = ((w.alloc (.cells #[.pointer (some ⟨h.mx, 0, none⟩), .pointer (some ⟨h.my, 0, none⟩)] 42)).alloc (.cells #[.int .i64 5, .int .i64 a, .int .i64 b, .int .i64 c, .string os, .string ot] 48)).alloc (.cells #[.int .i64 0, .int .i64 an, .int .i64 0, .string asx] 50) := ⟨_, rfl⟩
  have X0 : Hid (NoteC w W0 #[.pointer (some ⟨h.mx, 0, none⟩), .pointer (some ⟨h.my, 0, none⟩)] #[.int .i64 5, .int .i64 a, .int .i64 b, .int .i64 c, .string os, .string ot] #[.int .i64 0, .int .i64 an, .int .i64 0, .string asx] ∧ Ext w W0) := by
    rw [hW0]
    exact ⟨noteC_new w _ _ _, (((Ext.refl w).alloc _).alloc _).alloc _⟩
  rw [← hW0]
  clear hW0
  refine (smlen_any W0 B h.mx h.vx xs (HP.out.sx.ext X0.out.2)).mono ?_
  rintro e w1 ⟨rfl, x1⟩
  have X1 : Hid (NoteC w w1 #[.pointer (some ⟨h.mx, 0, none⟩), .pointer (some ⟨h.my, 0, none⟩)] #[.int .i64 5, .int .i64 a, .int .i64 b, .int .i64 c, .string os, .string ot] #[.int .i64 0, .int .i64 an, .int .i64 0, .string asx] ∧ Ext w w1) := ⟨X0.out.1.ext x1, X0.out.2.trans x1⟩
  clear x1 X0
  have y10 : w1.cell? ⟨w.heap.size, 0, none⟩ = some (.pointer (some ⟨h.mx, 0, none⟩)) := cell_of X1.out.1.1 0
  have y11 : w1.cell? ⟨w.heap.size, 1, none⟩ = some (.pointer (some ⟨h.my, 0, none⟩)) := cell_of X1.out.1.1 1
  have t10 := cell_of X1.out.1.2.1 0
  have t11 := cell_of X1.out.1.2.1 1
  have t12 := cell_of X1.out.1.2.1 2
  have t13 := cell_of X1.out.1.2.1 3
  have v10 := cell_of X1.out.1.2.2 0
  have v11 := cell_of X1.out.1.2.2 1
  have v12 := cell_of X1.out.1.2.2 2
  have v13 := cell_of X1.out.1.2.2 3
  simp only [List.getElem?_toArray, List.getElem?_cons_zero, List.getElem?_cons_succ] at t10 t11 t12 t13 v10 v11 v12 v13
  go_wp2
  go_ret
  exact ⟨rfl, X1.out.2⟩
set_option maxRecDepth 100000 in
set_option maxHeartbeats 2000000 in
theorem note_r6 (w : World) (B : Nat) (h : HId) (xs ys : List Datum) (a b c ae an : Int) (os ot asx : ByteArray) (hp : PairAt w B h xs ys) (hn : 0 < xs.length) (he : ae = 0) :
    Calls Try.prog 21 #[.agg #[.pointer (some ⟨h.mx, 0, none⟩), .pointer (some ⟨h.my, 0, none⟩)], .agg #[.int .i64 6, .int .i64 a, .int .i64 b, .int .i64 c, .string os, .string ot], .agg #[.int .i64 ae, .int .i64 an, .int .i64 0, .string asx]] w fun e w' => e = .returned (.bool true) ∧ Ext w w' := by
  subst he
  have hz : ((xs.length : Int) == 0) = false := beq_eq_false_iff_ne.2 (by omega)
  have HP : Hid (PairAt w B h xs ys) := hp
  have hl1 := hp.lt h.mx (by simp [HId.all])
  have hl2 := hp.lt h.my (by simp [HId.all])
  have HL : Hid (∀ k, k ∈ h.all → k < w.heap.size) := fun k hk => (hp.lt k hk).1
  have hl8 := hp.sx.len
  clear hp hl1 hl2
  go_enter Try.func21, Try.ntmps21
  go_wp2_with fail
  obtain ⟨W0, hW0⟩ : ∃ W0, W0 = ((w.alloc (.cells #[.pointer (some ⟨h.mx, 0, none⟩), .pointer (some ⟨h.my, 0, none⟩)] 42)).alloc (.cells #[.int .i64 6, .int .i64 a, .int .i64 b, .int .i64 c, .string os, .string ot] 48)).alloc (.cells #[.int .i64 0, .int .i64 an, .int .i64 0, .string asx] 50) := ⟨_, rfl⟩
  have X0 : Hid (NoteC w W0 #[.pointer (some ⟨h.mx, 0, none⟩), .pointer (some ⟨h.my, 0, none⟩)] #[.int .i64 6, .int .i64 a, .int .i64 b, .int .i64 c, .string os, .string ot] #[.int .i64 0, .int .i64 an, .int .i64 0, .string asx] ∧ Ext w W0) := by
    rw [hW0]
    exact ⟨noteC_new w _ _ _, (((Ext.refl w).alloc _).alloc _).alloc _⟩
  rw [← hW0]
  clear hW0
  refine (smlen_any W0 B h.mx h.vx xs (HP.out.sx.ext X0.out.2)).mono ?_
  rintro e w1 ⟨rfl, x1⟩
  have X1 : Hid (NoteC w w1 #[.pointer (some ⟨h.mx, 0, none⟩), .pointer (some ⟨h.my, 0, none⟩)] #[.int .i64 6, .int .i64 a, .int .i64 b, .int .i64 c, .string os, .string ot] #[.int .i64 0, .int .i64 an, .int .i64 0, .string asx] ∧ Ext w w1) := ⟨X0.out.1.ext x1, X0.out.2.trans x1⟩
  clear x1 X0
  have y10 : w1.cell? ⟨w.heap.size, 0, none⟩ = some (.pointer (some ⟨h.mx, 0, none⟩)) := cell_of X1.out.1.1 0
  have y11 : w1.cell? ⟨w.heap.size, 1, none⟩ = some (.pointer (some ⟨h.my, 0, none⟩)) := cell_of X1.out.1.1 1
  have t10 := cell_of X1.out.1.2.1 0
  have t11 := cell_of X1.out.1.2.1 1
  have t12 := cell_of X1.out.1.2.1 2
  have t13 := cell_of X1.out.1.2.1 3
  have v10 := cell_of X1.out.1.2.2 0
  have v11 := cell_of X1.out.1.2.2 1
  have v12 := cell_of X1.out.1.2.2 2
  have v13 := cell_of X1.out.1.2.2 3
  simp only [List.getElem?_toArray, List.getElem?_cons_zero, List.getElem?_cons_succ] at t10 t11 t12 t13 v10 v11 v12 v13
  go_wp2
  go_ret
  exact ⟨rfl, X1.out.2⟩
set_option maxRecDepth 100000 in
set_option maxHeartbeats 2000000 in
theorem note_r7 (w : World) (B : Nat) (h : HId) (xs ys : List Datum) (a b c ae an : Int) (os ot asx : ByteArray) (hp : PairAt w B h xs ys) (hn : 0 < xs.length) (he : ae = 0) :
    Calls Try.prog 21 #[.agg #[.pointer (some ⟨h.mx, 0, none⟩), .pointer (some ⟨h.my, 0, none⟩)], .agg #[.int .i64 7, .int .i64 a, .int .i64 b, .int .i64 c, .string os, .string ot], .agg #[.int .i64 ae, .int .i64 an, .int .i64 0, .string asx]] w fun e w' => e = .returned (.bool true) ∧ Ext w w' := by
  subst he
  have hz : ((xs.length : Int) == 0) = false := beq_eq_false_iff_ne.2 (by omega)
  have HP : Hid (PairAt w B h xs ys) := hp
  have hl1 := hp.lt h.mx (by simp [HId.all])
  have hl2 := hp.lt h.my (by simp [HId.all])
  have HL : Hid (∀ k, k ∈ h.all → k < w.heap.size) := fun k hk => (hp.lt k hk).1
  have hl8 := hp.sx.len
  clear hp hl1 hl2
  go_enter Try.func21, Try.ntmps21
  go_wp2_with fail
  obtain ⟨W0, hW0⟩ : ∃ W0, W0 = ((w.alloc (.cells #[.pointer (some ⟨h.mx, 0, none⟩), .pointer (some ⟨h.my, 0, none⟩)] 42)).alloc (.cells #[.int .i64 7, .int .i64 a, .int .i64 b, .int .i64 c, .string os, .string ot] 48)).alloc (.cells #[.int .i64 0, .int .i64 an, .int .i64 0, .string asx] 50) := ⟨_, rfl⟩
  have X0 : Hid (NoteC w W0 #[.pointer (some ⟨h.mx, 0, none⟩), .pointer (some ⟨h.my, 0, none⟩)] #[.int .i64 7, .int .i64 a, .int .i64 b, .int .i64 c, .string os, .string ot] #[.int .i64 0, .int .i64 an, .int .i64 0, .string asx] ∧ Ext w W0) := by
    rw [hW0]
    exact ⟨noteC_new w _ _ _, (((Ext.refl w).alloc _).alloc _).alloc _⟩
  rw [← hW0]
  clear hW0
  refine (smlen_any W0 B h.mx h.vx xs (HP.out.sx.ext X0.out.2)).mono ?_
  rintro e w1 ⟨rfl, x1⟩
  have X1 : Hid (NoteC w w1 #[.pointer (some ⟨h.mx, 0, none⟩), .pointer (some ⟨h.my, 0, none⟩)] #[.int .i64 7, .int .i64 a, .int .i64 b, .int .i64 c, .string os, .string ot] #[.int .i64 0, .int .i64 an, .int .i64 0, .string asx] ∧ Ext w w1) := ⟨X0.out.1.ext x1, X0.out.2.trans x1⟩
  clear x1 X0
  have y10 : w1.cell? ⟨w.heap.size, 0, none⟩ = some (.pointer (some ⟨h.mx, 0, none⟩)) := cell_of X1.out.1.1 0
  have y11 : w1.cell? ⟨w.heap.size, 1, none⟩ = some (.pointer (some ⟨h.my, 0, none⟩)) := cell_of X1.out.1.1 1
  have t10 := cell_of X1.out.1.2.1 0
  have t11 := cell_of X1.out.1.2.1 1
  have t12 := cell_of X1.out.1.2.1 2
  have t13 := cell_of X1.out.1.2.1 3
  have v10 := cell_of X1.out.1.2.2 0
  have v11 := cell_of X1.out.1.2.2 1
  have v12 := cell_of X1.out.1.2.2 2
  have v13 := cell_of X1.out.1.2.2 3
  simp only [List.getElem?_toArray, List.getElem?_cons_zero, List.getElem?_cons_succ] at t10 t11 t12 t13 v10 v11 v12 v13
  go_wp2
  go_ret
  exact ⟨rfl, X1.out.2⟩
set_option maxRecDepth 100000 in
set_option maxHeartbeats 2000000 in
theorem note_r8 (w : World) (B : Nat) (h : HId) (xs ys : List Datum) (a b c ae an : Int) (os ot asx : ByteArray) (hp : PairAt w B h xs ys) (hn : 0 < xs.length) :
    Calls Try.prog 21 #[.agg #[.pointer (some ⟨h.mx, 0, none⟩), .pointer (some ⟨h.my, 0, none⟩)], .agg #[.int .i64 8, .int .i64 a, .int .i64 b, .int .i64 c, .string os, .string ot], .agg #[.int .i64 ae, .int .i64 an, .int .i64 0, .string asx]] w fun e w' => e = .returned (.bool true) ∧ Ext w w' := by
  have hz : ((xs.length : Int) == 0) = false := beq_eq_false_iff_ne.2 (by omega)
  have HP : Hid (PairAt w B h xs ys) := hp
  have hl1 := hp.lt h.mx (by simp [HId.all])
  have hl2 := hp.lt h.my (by simp [HId.all])
  have HL : Hid (∀ k, k ∈ h.all → k < w.heap.size) := fun k hk => (hp.lt k hk).1
  have hl8 := hp.sx.len
  clear hp hl1 hl2
  go_enter Try.func21, Try.ntmps21
  go_wp2_with fail
  obtain ⟨W0, hW0⟩ : ∃ W0, W0 = ((w.alloc (.cells #[.pointer (some ⟨h.mx, 0, none⟩), .pointer (some ⟨h.my, 0, none⟩)] 42)).alloc (.cells #[.int .i64 8, .int .i64 a, .int .i64 b, .int .i64 c, .string os, .string ot] 48)).alloc (.cells #[.int .i64 ae, .int .i64 an, .int .i64 0, .string asx] 50) := ⟨_, rfl⟩
  have X0 : Hid (NoteC w W0 #[.pointer (some ⟨h.mx, 0, none⟩), .pointer (some ⟨h.my, 0, none⟩)] #[.int .i64 8, .int .i64 a, .int .i64 b, .int .i64 c, .string os, .string ot] #[.int .i64 ae, .int .i64 an, .int .i64 0, .string asx] ∧ Ext w W0) := by
    rw [hW0]
    exact ⟨noteC_new w _ _ _, (((Ext.refl w).alloc _).alloc _).alloc _⟩
  rw [← hW0]
  clear hW0
  refine (smlen_any W0 B h.mx h.vx xs (HP.out.sx.ext X0.out.2)).mono ?_
  rintro e w1 ⟨rfl, x1⟩
  have X1 : Hid (NoteC w w1 #[.pointer (some ⟨h.mx, 0, none⟩), .pointer (some ⟨h.my, 0, none⟩)] #[.int .i64 8, .int .i64 a, .int .i64 b, .int .i64 c, .string os, .string ot] #[.int .i64 ae, .int .i64 an, .int .i64 0, .string asx] ∧ Ext w w1) := ⟨X0.out.1.ext x1, X0.out.2.trans x1⟩
  clear x1 X0
  have y10 : w1.cell? ⟨w.heap.size, 0, none⟩ = some (.pointer (some ⟨h.mx, 0, none⟩)) := cell_of X1.out.1.1 0
  have y11 : w1.cell? ⟨w.heap.size, 1, none⟩ = some (.pointer (some ⟨h.my, 0, none⟩)) := cell_of X1.out.1.1 1
  have t10 := cell_of X1.out.1.2.1 0
  have t11 := cell_of X1.out.1.2.1 1
  have t12 := cell_of X1.out.1.2.1 2
  have t13 := cell_of X1.out.1.2.1 3
  have v10 := cell_of X1.out.1.2.2 0
  have v11 := cell_of X1.out.1.2.2 1
  have v12 := cell_of X1.out.1.2.2 2
  have v13 := cell_of X1.out.1.2.2 3
  simp only [List.getElem?_toArray, List.getElem?_cons_zero, List.getElem?_cons_succ] at t10 t11 t12 t13 v10 v11 v12 v13
  go_wp2
  go_ret
  exact ⟨rfl, X1.out.2⟩
set_option maxRecDepth 100000 in
set_option maxHeartbeats 2000000 in
theorem note_else0 (w : World) (B : Nat) (h : HId) (xs ys : List Datum) (a b c ae an : Int) (os ot asx : ByteArray) (hp : PairAt w B h xs ys) (k : Int) (h1 : k ≠ 1) (h2 : k ≠ 2) (h4 : k ≠ 4) (h5 : k ≠ 5) (h6 : k ≠ 6) (h7 : k ≠ 7) (h8 : k ≠ 8) (hn : xs.length = 0) :
    Calls Try.prog 21 #[.agg #[.pointer (some ⟨h.mx, 0, none⟩), .pointer (some ⟨h.my, 0, none⟩)], .agg #[.int .i64 k, .int .i64 a, .int .i64 b, .int .i64 c, .string os, .string ot], .agg #[.int .i64 ae, .int .i64 an, .int .i64 0, .string asx]] w fun e w' => e = .returned (.bool true) ∧ Ext w w' := by
  have k1 : (k == 1) = false := beq_false_of_ne h1
  have k2 : (k == 2) = false := beq_false_of_ne h2
  have k4 : (k == 4) = false := beq_false_of_ne h4
  have k5 : (k == 5) = false := beq_false_of_ne h5
  have k6 : (k == 6) = false := beq_false_of_ne h6
  have k7 : (k == 7) = false := beq_false_of_ne h7
  have k8 : (k == 8) = false := beq_false_of_ne h8
  clear h1 h2 h4 h5 h6 h7 h8
  have HP : Hid (PairAt w B h xs ys) := hp
  have hl1 := hp.lt h.mx (by simp [HId.all])
  have hl2 := hp.lt h.my (by simp [HId.all])
  have HL : Hid (∀ k, k ∈ h.all → k < w.heap.size) := fun k hk => (hp.lt k hk).1
  have hl8 := hp.sx.len
  clear hp hl1 hl2
  go_enter Try.func21, Try.ntmps21
  go_wp2_with fail
  obtain ⟨W0, hW0⟩ : ∃ W0, W0 = ((w.alloc (.cells #[.pointer (some ⟨h.mx, 0, none⟩), .pointer (some ⟨h.my, 0, none⟩)] 42)).alloc (.cells #[.int .i64 k, .int .i64 a, .int .i64 b, .int .i64 c, .string os, .string ot] 48)).alloc (.cells #[.int .i64 ae, .int .i64 an, .int .i64 0, .string asx] 50) := ⟨_, rfl⟩
  have X0 : Hid (NoteC w W0 #[.pointer (some ⟨h.mx, 0, none⟩), .pointer (some ⟨h.my, 0, none⟩)] #[.int .i64 k, .int .i64 a, .int .i64 b, .int .i64 c, .string os, .string ot] #[.int .i64 ae, .int .i64 an, .int .i64 0, .string asx] ∧ Ext w W0) := by
    rw [hW0]
    exact ⟨noteC_new w _ _ _, (((Ext.refl w).alloc _).alloc _).alloc _⟩
  rw [← hW0]
  clear hW0
  refine (smlen_any W0 B h.mx h.vx xs (HP.out.sx.ext X0.out.2)).mono ?_
  rintro e w1 ⟨rfl, x1⟩
  have X1 : Hid (NoteC w w1 #[.pointer (some ⟨h.mx, 0, none⟩), .pointer (some ⟨h.my, 0, none⟩)] #[.int .i64 k, .int .i64 a, .int .i64 b, .int .i64 c, .string os, .string ot] #[.int .i64 ae, .int .i64 an, .int .i64 0, .string asx] ∧ Ext w w1) := ⟨X0.out.1.ext x1, X0.out.2.trans x1⟩
  clear x1 X0
  rw [hn]
  have y10 : w1.cell? ⟨w.heap.size, 0, none⟩ = some (.pointer (some ⟨h.mx, 0, none⟩)) := cell_of X1.out.1.1 0
  have y11 : w1.cell? ⟨w.heap.size, 1, none⟩ = some (.pointer (some ⟨h.my, 0, none⟩)) := cell_of X1.out.1.1 1
  have t10 := cell_of X1.out.1.2.1 0
  have t11 := cell_of X1.out.1.2.1 1
  have t12 := cell_of X1.out.1.2.1 2
  have t13 := cell_of X1.out.1.2.1 3
  have v10 := cell_of X1.out.1.2.2 0
  have v11 := cell_of X1.out.1.2.2 1
  have v12 := cell_of X1.out.1.2.2 2
  have v13 := cell_of X1.out.1.2.2 3
  simp only [List.getElem?_toArray, List.getElem?_cons_zero, List.getElem?_cons_succ] at t10 t11 t12 t13 v10 v11 v12 v13
  go_wp2
  go_ret
  exact ⟨rfl, X1.out.2⟩
set_option maxRecDepth 100000 in
set_option maxHeartbeats 2000000 in
theorem note_else (w : World) (B : Nat) (h : HId) (xs ys : List Datum) (a b c ae an : Int) (os ot asx : ByteArray) (hp : PairAt w B h xs ys) (k : Int) (h1 : k ≠ 1) (h2 : k ≠ 2) (h4 : k ≠ 4) (h5 : k ≠ 5) (h6 : k ≠ 6) (h7 : k ≠ 7) (h8 : k ≠ 8) (hn : 0 < xs.length) :
    Calls Try.prog 21 #[.agg #[.pointer (some ⟨h.mx, 0, none⟩), .pointer (some ⟨h.my, 0, none⟩)], .agg #[.int .i64 k, .int .i64 a, .int .i64 b, .int .i64 c, .string os, .string ot], .agg #[.int .i64 ae, .int .i64 an, .int .i64 0, .string asx]] w fun e w' => e = .returned (.bool true) ∧ Ext w w' := by
  have k1 : (k == 1) = false := beq_false_of_ne h1
  have k2 : (k == 2) = false := beq_false_of_ne h2
  have k4 : (k == 4) = false := beq_false_of_ne h4
  have k5 : (k == 5) = false := beq_false_of_ne h5
  have k6 : (k == 6) = false := beq_false_of_ne h6
  have k7 : (k == 7) = false := beq_false_of_ne h7
  have k8 : (k == 8) = false := beq_false_of_ne h8
  clear h1 h2 h4 h5 h6 h7 h8
  have hz : ((xs.length : Int) == 0) = false := beq_eq_false_iff_ne.2 (by omega)
  have HP : Hid (PairAt w B h xs ys) := hp
  have hl1 := hp.lt h.mx (by simp [HId.all])
  have hl2 := hp.lt h.my (by simp [HId.all])
  have HL : Hid (∀ k, k ∈ h.all → k < w.heap.size) := fun k hk => (hp.lt k hk).1
  have hl8 := hp.sx.len
  clear hp hl1 hl2
  go_enter Try.func21, Try.ntmps21
  go_wp2_with fail
  obtain ⟨W0, hW0⟩ : ∃ W0, W0 = ((w.alloc (.cells #[.pointer (some ⟨h.mx, 0, none⟩), .pointer (some ⟨h.my, 0, none⟩)] 42)).alloc (.cells #[.int .i64 k, .int .i64 a, .int .i64 b, .int .i64 c, .string os, .string ot] 48)).alloc (.cells #[.int .i64 ae, .int .i64 an, .int .i64 0, .string asx] 50) := ⟨_, rfl⟩
  have X0 : Hid (NoteC w W0 #[.pointer (some ⟨h.mx, 0, none⟩), .pointer (some ⟨h.my, 0, none⟩)] #[.int .i64 k, .int .i64 a, .int .i64 b, .int .i64 c, .string os, .string ot] #[.int .i64 ae, .int .i64 an, .int .i64 0, .string asx] ∧ Ext w W0) := by
    rw [hW0]
    exact ⟨noteC_new w _ _ _, (((Ext.refl w).alloc _).alloc _).alloc _⟩
  rw [← hW0]
  clear hW0
  refine (smlen_any W0 B h.mx h.vx xs (HP.out.sx.ext X0.out.2)).mono ?_
  rintro e w1 ⟨rfl, x1⟩
  have X1 : Hid (NoteC w w1 #[.pointer (some ⟨h.mx, 0, none⟩), .pointer (some ⟨h.my, 0, none⟩)] #[.int .i64 k, .int .i64 a, .int .i64 b, .int .i64 c, .string os, .string ot] #[.int .i64 ae, .int .i64 an, .int .i64 0, .string asx] ∧ Ext w w1) := ⟨X0.out.1.ext x1, X0.out.2.trans x1⟩
  clear x1 X0
  have y10 : w1.cell? ⟨w.heap.size, 0, none⟩ = some (.pointer (some ⟨h.mx, 0, none⟩)) := cell_of X1.out.1.1 0
  have y11 : w1.cell? ⟨w.heap.size, 1, none⟩ = some (.pointer (some ⟨h.my, 0, none⟩)) := cell_of X1.out.1.1 1
  have t10 := cell_of X1.out.1.2.1 0
  have t11 := cell_of X1.out.1.2.1 1
  have t12 := cell_of X1.out.1.2.1 2
  have t13 := cell_of X1.out.1.2.1 3
  have v10 := cell_of X1.out.1.2.2 0
  have v11 := cell_of X1.out.1.2.2 1
  have v12 := cell_of X1.out.1.2.2 2
  have v13 := cell_of X1.out.1.2.2 3
  simp only [List.getElem?_toArray, List.getElem?_cons_zero, List.getElem?_cons_succ] at t10 t11 t12 t13 v10 v11 v12 v13
  go_wp2
  go_ret
  exact ⟨rfl, X1.out.2⟩
set_option maxRecDepth 100000 in
set_option maxHeartbeats 2000000 in
theorem note_add (w : World) (B : Nat) (h : HId) (xs ys : List Datum) (a b c ae an : Int) (os ot asx : ByteArray) (hp : PairAt w B h xs ys) (hn : xs.length < 8) (he : ae = 0) :
    Calls Try.prog 21 #[.agg #[.pointer (some ⟨h.mx, 0, none⟩), .pointer (some ⟨h.my, 0, none⟩)], .agg #[.int .i64 1, .int .i64 a, .int .i64 b, .int .i64 c, .string os, .string ot], .agg #[.int .i64 ae, .int .i64 an, .int .i64 0, .string asx]] w fun e w' => e = .returned (.bool true) ∧ NP B h w w' (xs ++ [Pl.ratio a c]) (ys ++ [Pl.ratio b c]) := by
  subst he
  have hd : decide ((8 : Int) ≤ (xs.length : Int)) = false := decide_eq_false (by omega)
  have HP : Hid (PairAt w B h xs ys) := hp
  have hl1 := hp.lt h.mx (by simp [HId.all])
  have hl2 := hp.lt h.my (by simp [HId.all])
  have HL : Hid (∀ k, k ∈ h.all → k < w.heap.size) := fun k hk => (hp.lt k hk).1
  have hl8 := hp.sx.len
  clear hp hl1 hl2
  go_enter Try.func21, Try.ntmps21
  go_wp2_with fail
  obtain ⟨W0, hW0⟩ : ∃ W0, W0 = ((w.alloc (.cells #[.pointer (some ⟨h.mx, 0, none⟩), .pointer (some ⟨h.my, 0, none⟩)] 42)).alloc (.cells #[.int .i64 1, .int .i64 a, .int .i64 b, .int .i64 c, .string os, .string ot] 48)).alloc (.cells #[.int .i64 0, .int .i64 an, .int .i64 0, .string asx] 50) := ⟨_, rfl⟩
  have X0 : Hid (NoteC w W0 #[.pointer (some ⟨h.mx, 0, none⟩), .pointer (some ⟨h.my, 0, none⟩)] #[.int .i64 1, .int .i64 a, .int .i64 b, .int .i64 c, .string os, .string ot] #[.int .i64 0, .int .i64 an, .int .i64 0, .string asx] ∧ Ext w W0) := by
    rw [hW0]
    exact ⟨noteC_new w _ _ _, (((Ext.refl w).alloc _).alloc _).alloc _⟩
  rw [← hW0]
  clear hW0
  refine (smlen_any W0 B h.mx h.vx xs (HP.out.sx.ext X0.out.2)).mono ?_
  rintro e w1 ⟨rfl, x1⟩
  have X1 : Hid (NoteC w w1 #[.pointer (some ⟨h.mx, 0, none⟩), .pointer (some ⟨h.my, 0, none⟩)] #[.int .i64 1, .int .i64 a, .int .i64 b, .int .i64 c, .string os, .string ot] #[.int .i64 0, .int .i64 an, .int .i64 0, .string asx] ∧ Ext w w1) := ⟨X0.out.1.ext x1, X0.out.2.trans x1⟩
  clear x1 X0
  have y10 : w1.cell? ⟨w.heap.size, 0, none⟩ = some (.pointer (some ⟨h.mx, 0, none⟩)) := cell_of X1.out.1.1 0
  have y11 : w1.cell? ⟨w.heap.size, 1, none⟩ = some (.pointer (some ⟨h.my, 0, none⟩)) := cell_of X1.out.1.1 1
  have t10 := cell_of X1.out.1.2.1 0
  have t11 := cell_of X1.out.1.2.1 1
  have t12 := cell_of X1.out.1.2.1 2
  have t13 := cell_of X1.out.1.2.1 3
  have v10 := cell_of X1.out.1.2.2 0
  have v11 := cell_of X1.out.1.2.2 1
  have v12 := cell_of X1.out.1.2.2 2
  have v13 := cell_of X1.out.1.2.2 3
  simp only [List.getElem?_toArray, List.getElem?_cons_zero, List.getElem?_cons_succ] at t10 t11 t12 t13 v10 v11 v12 v13
  have P1 : Hid (PairAt w1 B h xs ys) := HP.out.ext X1.out.2
  go_wp2_with fail
  refine (smpush_ok w1 B h.mx h.vx xs a c P1.out.sx hn).mono ?_
  rintro e w2 ⟨rfl, vx', s2, c2, b2⟩
  have hsz := X1.out.2.size
  have hm1 : ∀ k, k ∈ h.mx :: blk h.vx → k ∈ h.all := by intro k hk; simp [HId.all] at hk ⊢; rcases hk with hk | hk <;> simp [hk]
  have X2 : Hid (NoteC w w2 #[.pointer (some ⟨h.mx, 0, none⟩), .pointer (some ⟨h.my, 0, none⟩)] #[.int .i64 1, .int .i64 a, .int .i64 b, .int .i64 c, .string os, .string ot] #[.int .i64 0, .int .i64 an, .int .i64 0, .string asx] ∧ SmAt w2 B h.mx vx' (xs ++ [Pl.ratio a c]) ∧ SmAt w2 B h.my h.vy ys ∧ Chg h.all w w2 ∧ (∀ g, g ∈ blk vx' → g ∈ blk h.vx ∨ w.heap.size ≤ g) ∧ (∀ g, g ∈ blk vx' → g ∈ blk h.vx ∨ w1.heap.size ≤ g) ∧ h.my < w1.heap.size ∧ (∀ g, g ∈ blk h.vy → g < w1.heap.size) ∧ w1.heap.size ≤ w2.heap.size) :=
    ⟨X1.out.1.chg c2 (fun k hk => HL.out k (hm1 k hk)), s2, P1.out.sy.chg c2 (by simp; exact ⟨Ne.symm P1.out.d1, P1.out.d3⟩) (fun g hg => by simp; exact ⟨fun e => P1.out.d2 (e ▸ hg), fun hg' => P1.out.d4 g hg' hg⟩), (Chg.of_ext X1.out.2).trans (c2.mono hm1), fun g hg => (b2 g hg).imp id (fun h => by omega), b2, P1.out.sy.lt.1, fun g hg => (P1.out.sy.lt.2 g hg).1, c2.size⟩
  clear y10 y11 t10 t11 t12 t13 v10 v11 v12 v13
  clear s2 c2 b2 hm1 hsz
  have y20 : w2.cell? ⟨w.heap.size, 0, none⟩ = some (.pointer (some ⟨h.mx, 0, none⟩)) := cell_of X2.out.1.1 0
  have y21 : w2.cell? ⟨w.heap.size, 1, none⟩ = some (.pointer (some ⟨h.my, 0, none⟩)) := cell_of X2.out.1.1 1
  have t20 := cell_of X2.out.1.2.1 0
  have t21 := cell_of X2.out.1.2.1 1
  have t22 := cell_of X2.out.1.2.1 2
  have t23 := cell_of X2.out.1.2.1 3
  have v20 := cell_of X2.out.1.2.2 0
  have v21 := cell_of X2.out.1.2.2 1
  have v22 := cell_of X2.out.1.2.2 2
  have v23 := cell_of X2.out.1.2.2 3
  simp only [List.getElem?_toArray, List.getElem?_cons_zero, List.getElem?_cons_succ] at t20 t21 t22 t23 v20 v21 v22 v23
  have HLY : Hid (ys.length < 8) := by show _ < _; rw [HP.out.len]; exact hn
  go_wp2_with fail
  refine (smpush_ok w2 B h.my h.vy ys b c X2.out.2.2.1 HLY.out).mono ?_
  rintro e w3 ⟨rfl, vy', s3, c3, b3⟩
  obtain ⟨q1, q2, q3, q4, q5, q6, q7, q8, q9⟩ := X2.out
  have hsz := X1.out.2.size
  have hm1 : ∀ k, k ∈ h.my :: blk h.vy → k ∈ h.all := by intro k hk; simp [HId.all] at hk ⊢; rcases hk with hk | hk <;> simp [hk]
  have e1 := P1.out.d1
  have e2 := P1.out.d2
  have e3 := P1.out.d3
  have e4 := P1.out.d4
  have X3 : Hid (NoteC w w3 #[.pointer (some ⟨h.mx, 0, none⟩), .pointer (some ⟨h.my, 0, none⟩)] #[.int .i64 1, .int .i64 a, .int .i64 b, .int .i64 c, .string os, .string ot] #[.int .i64 0, .int .i64 an, .int .i64 0, .string asx] ∧ NP B h w w3 (xs ++ [Pl.ratio a c]) (ys ++ [Pl.ratio b c])) := by
    refine ⟨q1.chg c3 (fun k hk => HL.out k (hm1 k hk)), ⟨h.mx, h.my, vx', vy'⟩, rfl, rfl, ⟨q2.chg c3 (by simp; exact ⟨e1, e2⟩) ?_, s3, by simp [HP.out.len], e1, ?_, ?_, ?_⟩, q4.trans (c3.mono hm1), ?_⟩
    · intro g hg hg'
      simp only [List.mem_cons] at hg'
      rcases q6 g hg with h1 | h1
      · rcases hg' with rfl | h2
        · exact e3 h1
        · exact e4 g h1 h2
      · rcases hg' with rfl | h2
        · omega
        · have := q8 g h2; omega
    · intro hg
      have := q2.lt.1
      have hx1 := P1.out.sx.lt.1
      rcases b3 _ hg with h1 | h1
      · exact e2 h1
      · simp only at h1; omega
    · intro hg
      rcases q6 _ hg with h1 | h1
      · exact e3 h1
      · simp only at h1; omega
    · intro g hg hg'
      have := (q2.lt.2 g hg).1
      rcases b3 g hg' with h1 | h1
      · rcases q6 g hg with h2 | h2
        · exact e4 g h2 h1
        · have := q8 g h1; omega
      · omega
    · intro k hk
      simp only [HId.all, List.mem_cons, List.mem_append] at hk ⊢
      rcases hk with rfl | rfl | hk | hk
      · exact .inl (.inl rfl)
      · exact .inl (.inr (.inl rfl))
      · rcases q5 k hk with h1 | h1
        · exact .inl (.inr (.inr (.inl h1)))
        · exact .inr h1
      · rcases b3 k hk with h1 | h1
        · exact .inl (.inr (.inr (.inr h1)))
        · exact .inr (by omega)
  clear q1 q2 q3 q4 q5 q6 q7 q8 q9 s3 c3 b3 hm1 e1 e2 e3 e4 hsz
  clear y20 y21 t20 t21 t22 t23 v20 v21 v22 v23
  have y30 : w3.cell? ⟨w.heap.size, 0, none⟩ = some (.pointer (some ⟨h.mx, 0, none⟩)) := cell_of X3.out.1.1 0
  have y31 : w3.cell? ⟨w.heap.size, 1, none⟩ = some (.pointer (some ⟨h.my, 0, none⟩)) := cell_of X3.out.1.1 1
  have t30 := cell_of X3.out.1.2.1 0
  have t31 := cell_of X3.out.1.2.1 1
  have t32 := cell_of X3.out.1.2.1 2
  have t33 := cell_of X3.out.1.2.1 3
  have v30 := cell_of X3.out.1.2.2 0
  have v31 := cell_of X3.out.1.2.2 1
  have v32 := cell_of X3.out.1.2.2 2
  have v33 := cell_of X3.out.1.2.2 3
  simp only [List.getElem?_toArray, List.getElem?_cons_zero, List.getElem?_cons_succ] at t30 t31 t32 t33 v30 v31 v32 v33
  go_wp2
  go_ret
  exact ⟨rfl, X3.out.2⟩
set_option maxRecDepth 100000 in
set_option maxHeartbeats 2000000 in
theorem note_drop (w : World) (B : Nat) (h : HId) (xs ys : List Datum) (a b c ae an : Int) (os ot asx : ByteArray) (hp : PairAt w B h xs ys) (hn : 0 < xs.length) (he : ae = 0) :
    Calls Try.prog 21 #[.agg #[.pointer (some ⟨h.mx, 0, none⟩), .pointer (some ⟨h.my, 0, none⟩)], .agg #[.int .i64 2, .int .i64 a, .int .i64 b, .int .i64 c, .string os, .string ot], .agg #[.int .i64 ae, .int .i64 an, .int .i64 0, .string asx]] w fun e w' => e = .returned (.bool true) ∧ NP B h w w' xs.dropLast ys.dropLast := by
  subst he
  have hz : ((xs.length : Int) == 0) = false := beq_eq_false_iff_ne.2 (by omega)
  have HP : Hid (PairAt w B h xs ys) := hp
  have hl1 := hp.lt h.mx (by simp [HId.all])
  have hl2 := hp.lt h.my (by simp [HId.all])
  have HL : Hid (∀ k, k ∈ h.all → k < w.heap.size) := fun k hk => (hp.lt k hk).1
  have hl8 := hp.sx.len
  clear hp hl1 hl2
  go_enter Try.func21, Try.ntmps21
  go_wp2_with fail
  obtain ⟨W0, hW0⟩ : ∃ W0, W0 = ((w.alloc (.cells #[.pointer (some ⟨h.mx, 0, none⟩), .pointer (some ⟨h.my, 0, none⟩)] 42)).alloc (.cells #[.int .i64 2, .int .i64 a, .int .i64 b, .int .i64 c, .string os, .string ot] 48)).alloc (.cells #[.int .i64 0, .int .i64 an, .int .i64 0, .string asx] 50) := ⟨_, rfl⟩
  have X0 : Hid (NoteC w W0 #[.pointer (some ⟨h.mx, 0, none⟩), .pointer (some ⟨h.my, 0, none⟩)] #[.int .i64 2, .int .i64 a, .int .i64 b, .int .i64 c, .string os, .string ot] #[.int .i64 0, .int .i64 an, .int .i64 0, .string asx] ∧ Ext w W0) := by
    rw [hW0]
    exact ⟨noteC_new w _ _ _, (((Ext.refl w).alloc _).alloc _).alloc _⟩
  rw [← hW0]
  clear hW0
  refine (smlen_any W0 B h.mx h.vx xs (HP.out.sx.ext X0.out.2)).mono ?_
  rintro e w1 ⟨rfl, x1⟩
  have X1 : Hid (NoteC w w1 #[.pointer (some ⟨h.mx, 0, none⟩), .pointer (some ⟨h.my, 0, none⟩)] #[.int .i64 2, .int .i64 a, .int .i64 b, .int .i64 c, .string os, .string ot] #[.int .i64 0, .int .i64 an, .int .i64 0, .string asx] ∧ Ext w w1) := ⟨X0.out.1.ext x1, X0.out.2.trans x1⟩
  clear x1 X0
  have y10 : w1.cell? ⟨w.heap.size, 0, none⟩ = some (.pointer (some ⟨h.mx, 0, none⟩)) := cell_of X1.out.1.1 0
  have y11 : w1.cell? ⟨w.heap.size, 1, none⟩ = some (.pointer (some ⟨h.my, 0, none⟩)) := cell_of X1.out.1.1 1
  have t10 := cell_of X1.out.1.2.1 0
  have t11 := cell_of X1.out.1.2.1 1
  have t12 := cell_of X1.out.1.2.1 2
  have t13 := cell_of X1.out.1.2.1 3
  have v10 := cell_of X1.out.1.2.2 0
  have v11 := cell_of X1.out.1.2.2 1
  have v12 := cell_of X1.out.1.2.2 2
  have v13 := cell_of X1.out.1.2.2 3
  simp only [List.getElem?_toArray, List.getElem?_cons_zero, List.getElem?_cons_succ] at t10 t11 t12 t13 v10 v11 v12 v13
  have P1 : Hid (PairAt w1 B h xs ys) := HP.out.ext X1.out.2
  go_wp2_with fail
  refine (smpop_some w1 B h.mx h.vx xs P1.out.sx hn).mono ?_
  rintro e w2 ⟨rfl, vx', s2, c2, b2⟩
  have hm1 : ∀ k, k ∈ [h.mx] → k ∈ h.all := by intro k hk; simp [HId.all] at hk ⊢; simp [hk]
  have X2 : Hid (NoteC w w2 #[.pointer (some ⟨h.mx, 0, none⟩), .pointer (some ⟨h.my, 0, none⟩)] #[.int .i64 2, .int .i64 a, .int .i64 b, .int .i64 c, .string os, .string ot] #[.int .i64 0, .int .i64 an, .int .i64 0, .string asx] ∧ SmAt w2 B h.mx vx' xs.dropLast ∧ SmAt w2 B h.my h.vy ys ∧ Chg h.all w w2 ∧ blk vx' = blk h.vx) :=
    ⟨X1.out.1.chg c2 (fun k hk => HL.out k (hm1 k hk)), s2, P1.out.sy.chg c2 (by simp; exact Ne.symm P1.out.d1) (fun g hg => by simp; exact fun e => P1.out.d2 (e ▸ hg)), (Chg.of_ext X1.out.2).trans (c2.mono hm1), b2⟩
  clear y10 y11 t10 t11 t12 t13 v10 v11 v12 v13
  clear s2 c2 b2 hm1
  have y20 : w2.cell? ⟨w.heap.size, 0, none⟩ = some (.pointer (some ⟨h.mx, 0, none⟩)) := cell_of X2.out.1.1 0
  have y21 : w2.cell? ⟨w.heap.size, 1, none⟩ = some (.pointer (some ⟨h.my, 0, none⟩)) := cell_of X2.out.1.1 1
  have t20 := cell_of X2.out.1.2.1 0
  have t21 := cell_of X2.out.1.2.1 1
  have t22 := cell_of X2.out.1.2.1 2
  have t23 := cell_of X2.out.1.2.1 3
  have v20 := cell_of X2.out.1.2.2 0
  have v21 := cell_of X2.out.1.2.2 1
  have v22 := cell_of X2.out.1.2.2 2
  have v23 := cell_of X2.out.1.2.2 3
  simp only [List.getElem?_toArray, List.getElem?_cons_zero, List.getElem?_cons_succ] at t20 t21 t22 t23 v20 v21 v22 v23
  have HLY : Hid (0 < ys.length) := by show _ < _; rw [HP.out.len]; exact hn
  go_wp2_with fail
  refine (smpop_some w2 B h.my h.vy ys X2.out.2.2.1 HLY.out).mono ?_
  rintro e w3 ⟨rfl, vy', s3, c3, b3⟩
  obtain ⟨q1, q2, q3, q4, q5⟩ := X2.out
  have hm1 : ∀ k, k ∈ [h.my] → k ∈ h.all := by intro k hk; simp [HId.all] at hk ⊢; simp [hk]
  have X3 : Hid (NoteC w w3 #[.pointer (some ⟨h.mx, 0, none⟩), .pointer (some ⟨h.my, 0, none⟩)] #[.int .i64 2, .int .i64 a, .int .i64 b, .int .i64 c, .string os, .string ot] #[.int .i64 0, .int .i64 an, .int .i64 0, .string asx] ∧ NP B h w w3 xs.dropLast ys.dropLast) := by
    refine ⟨q1.chg c3 (fun k hk => HL.out k (hm1 k hk)), ⟨h.mx, h.my, vx', vy'⟩, rfl, rfl, ⟨q2.chg c3 (by simp; exact P1.out.d1) ?_, s3, by simp [HP.out.len], P1.out.d1, ?_, ?_, ?_⟩, q4.trans (c3.mono hm1), ?_⟩
    · intro g hg; rw [q5] at hg; simp; exact fun e => P1.out.d3 (e ▸ hg)
    · show _ ∉ blk vy'; rw [b3]; exact P1.out.d2
    · show _ ∉ blk vx'; rw [q5]; exact P1.out.d3
    · show ∀ g, g ∈ blk vx' → g ∉ blk vy'; rw [q5, b3]; exact P1.out.d4
    · intro k hk
      left
      simp only [HId.all] at hk ⊢
      rw [q5, b3] at hk
      exact hk
  clear q1 q2 q3 q4 q5 s3 c3 b3 hm1
  clear y20 y21 t20 t21 t22 t23 v20 v21 v22 v23
  have y30 : w3.cell? ⟨w.heap.size, 0, none⟩ = some (.pointer (some ⟨h.mx, 0, none⟩)) := cell_of X3.out.1.1 0
  have y31 : w3.cell? ⟨w.heap.size, 1, none⟩ = some (.pointer (some ⟨h.my, 0, none⟩)) := cell_of X3.out.1.1 1
  have t30 := cell_of X3.out.1.2.1 0
  have t31 := cell_of X3.out.1.2.1 1
  have t32 := cell_of X3.out.1.2.1 2
  have t33 := cell_of X3.out.1.2.1 3
  have v30 := cell_of X3.out.1.2.2 0
  have v31 := cell_of X3.out.1.2.2 1
  have v32 := cell_of X3.out.1.2.2 2
  have v33 := cell_of X3.out.1.2.2 3
  simp only [List.getElem?_toArray, List.getElem?_cons_zero, List.getElem?_cons_succ] at t30 t31 t32 t33 v30 v31 v32 v33
  go_wp2
  go_ret
  exact ⟨rfl, X3.out.2⟩
end Go.Proofs.Qxb6500343a
