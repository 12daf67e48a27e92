/-
  Walks 15: Text32, Pair.
-/
import Derived.Test.Qxb6500343aW14
namespace Go.Proofs.Qxb6500343a
open Go.RowKit
open Go.Proofs
open Ieee (Datum)
open Fl
open Tx (st)
open Ff (in64)
set_option linter.unusedSimpArgs false
set_option linter.unusedVariables false
attribute [local go_sem] run_fadd run_fsub run_fmul run_fquo run_store_float alloc_drewN setCell_drewN shape?_drewN tape_alloc drawn_alloc tape_setCell drawn_setCell drawn_drewN drawn_drew run_fneg

theorem text_len (d : Datum) : (text d).length ≤ 50 := by
  have hb : ∀ sg y, sg.length = 1 → (body sg y).length ≤ 50 := by
    intro sg y hs
    unfold body
    split
    · simp; omega
    · simp only
      split
      · have h1 := Tx.itoa_len (Pl.toI (mul .f64 (dbl 1100 (half 1100 y (-52)).1 (half 1100 y (-52)).2).1 p52))
        have h2 := Tx.itoa_len (dbl 1100 (half 1100 y (-52)).1 (half 1100 y (-52)).2).2
        simp only [List.length_append, List.length_singleton]
        omega
      · simp; omega
  unfold text
  split
  · split
    · split <;> simp
    · split
      · exact hb _ _ rfl
      · exact hb _ _ rfl
  · simp
def fits64 : Datum → Bool
  | .number s m e => !(rd .f64 (.number s m e)).isInfinity
  | _ => true
theorem fits64_all (b : Nat) : fits64 (V .f32 b) = true := by
  unfold V Ieee.Format.read
  simp only
  have key : ∀ (s : Bool) (m : Nat) (e : Int), (m ≠ 0 → e + m.log2 ≤ 127) → fits64 (.number s m e) = true := by
    intro s m e h
    obtain ⟨m', e', h1, _⟩ := Ff.rd_le .f64 s m e 127 h (by decide) (by decide)
    show (!(rd .f64 (.number s m e)).isInfinity) = true
    rw [h1]; rfl
  have hb : FloatKind.f32.format.binade = 2 ^ 23 := by decide
  have hI : FloatKind.f32.format.infRung = 255 * 2 ^ 23 := by decide
  have hL : FloatKind.f32.format.leastPlace = -149 := by decide
  generalize b % FloatKind.f32.format.signWeight = r
  split
  · refine key _ _ _ fun h0 => ?_
    rename_i h
    have : r.log2 < 23 := by rw [Nat.log2_lt h0]; omega
    omega
  · split
    · refine key _ _ _ fun h0 => ?_
      rename_i h1 h2
      rw [hb] at h1 h0 ⊢
      have h3 : (2 ^ 23 + r % 2 ^ 23).log2 < 24 := by
        rw [Nat.log2_lt (by omega)]
        have := Nat.mod_lt r (by decide : 0 < 2 ^ 23)
        omega
      have h4 : r / 2 ^ 23 < 255 := by rw [Nat.div_lt_iff_lt_mul (by decide)]; omega
      rw [hL]
      omega
    · split <;> rfl
def cvb64 (b : Nat) (τ : Nat → Question → Nat) (d : Nat) : Nat := (floatToFloatBits .f32 b .f64).getD (Question.cut (.nanConv .f64 b) (τ d (.nanConv .f64 b)))
def cvn64 (b : Nat) : Nat := if (floatToFloatBits .f32 b .f64).isSome then 0 else 1
theorem run_to64 {P : Program} (w : World) (src dst : TypeId) (b : Nat) (hs : (P.underlying src).isSome = true) (hd : P.underlying dst = some (.float .f64)) :
    (convert src dst (.float .f32 b)).run P w = .ok (.float .f64 (cvb64 b w.tape w.drawn)) (w.drewN (cvn64 b)) := by
  cases h : floatToFloatBits .f32 b .f64 with
  | some r =>
    rw [run_convert_float_float w src dst .f32 .f64 b r hs hd h]
    simp [cvb64, cvn64, h, World.drewN_zero]
  | none =>
    have e1 : cvn64 b = 1 := by simp [cvn64, h]
    have e2 : cvb64 b w.tape w.drawn = Question.cut (.nanConv .f64 b) (w.tape w.drawn (.nanConv .f64 b)) := by simp [cvb64, h]
    rw [e1, e2]
    have hf := fits64_all b
    have hv : V .f32 b = cn (FloatKind.f32.decode b) := rfl
    rw [hv] at hf
    obtain ⟨u, hs'⟩ := Option.isSome_iff_exists.1 hs
    cases hd' : FloatKind.f32.decode b with
    | nan s f =>
      cases u <;> simp [convert, run_underlying hs', run_underlying hd, Conv.floatToFloat, hd', choose, Question.forced, World.drewN, Sem.run]
    | infinity s => simp [floatToFloatBits, hd'] at h
    | number s m e =>
      exfalso
      rw [hd'] at hf
      have h2 : fits64 (.number s m e) = true := hf
      have hf' : (FloatKind.f64.decode (FloatKind.f64.encode (.number s m e))).isInfinity = false := by
        simpa [fits64, rd, V, isInf_cn, FloatKind.decode, FloatKind.encode] using h2
      simp [floatToFloatBits, hd', hf'] at h
theorem V_to64 (b : Nat) (τ : Nat → Question → Nat) (d : Nat) : V .f64 (cvb64 b τ d) = to64 (V .f32 b) := by
  have hf := fits64_all b
  have e : V .f32 b = cn (FloatKind.f32.decode b) := rfl
  rw [e] at hf ⊢
  cases hd' : FloatKind.f32.decode b with
  | nan s f =>
    have h : floatToFloatBits .f32 b .f64 = none := by simp [floatToFloatBits, hd']
    unfold cvb64; rw [h]; exact V_conv .f64 b _
  | infinity s =>
    have h : floatToFloatBits .f32 b .f64 = some (FloatKind.f64.encode (.infinity s)) := by simp [floatToFloatBits, hd']
    unfold cvb64; rw [h]; rfl
  | number s m e =>
    rw [hd'] at hf
    have hf' : (FloatKind.f64.decode (FloatKind.f64.encode (.number s m e))).isInfinity = false := by
      have h2 : fits64 (.number s m e) = true := hf
      simpa [fits64, rd, V, isInf_cn, FloatKind.decode, FloatKind.encode] using h2
    have h : floatToFloatBits .f32 b .f64 = some (FloatKind.f64.encode (.number s m e)) := by simp [floatToFloatBits, hd', hf']
    unfold cvb64; rw [h]; rfl
def text32 (d : Datum) : List Nat := text (to64 d)
set_option maxHeartbeats 400000 in
theorem text32_any (x : Nat) (w : World) : Calls Try.prog 48 #[.float .f32 x] w fun e w' => e = .returned (.string (st (text32 (V .f32 x)))) ∧ Ext w w' := by
  have hc := fun wx => run_to64 (P := Try.prog) wx 35 80 x (by rw [Try.underlying35]; rfl) Try.underlying80
  go_enter Try.func48, Try.ntmps48
  go_wp2_with fail
  refine (text_any _ _).mono ?_
  rintro e w1 ⟨rfl, x1⟩
  rw [V_to64]
  have X1 : Hid (Ext w w1) := ((Ext.refl w).drewN _).trans x1
  clear x1 hc
  go_wp2
  go_ret
  exact ⟨rfl, X1.out⟩
def ans (e n : Int) (s : List Nat) : Value := .agg #[.int .i64 e, .int .i64 n, .int .i64 0, .string (st s)]
def pairT (u v : Datum) : List Nat := text32 u ++ [32] ++ text32 v
theorem heap_alloc2 (w : World) (o1 o2 : Obj) : ((w.alloc o1).alloc o2).heap[w.heap.size + 1]? = some o2 := by
  have := heap_alloc_new (w.alloc o1) o2
  rwa [World.size_alloc] at this
theorem lay4 {w1 : World} {b : Nat} {t : TypeId} {a0 a1 a2 a3 : Value} (h : w1.heap[b]? = some (.cells #[a0, a1, a2, a3] t)) (x y z v : Value) :
    let w2 := (((w1.setCell ⟨b, 0, none⟩ x).setCell ⟨b, 1, none⟩ y).setCell ⟨b, 2, none⟩ z).setCell ⟨b, 3, none⟩ v
    w2.cell? ⟨b, 0, none⟩ = some x ∧ w2.cell? ⟨b, 1, none⟩ = some y ∧ w2.cell? ⟨b, 2, none⟩ = some z ∧ w2.cell? ⟨b, 3, none⟩ = some v := by
  have := heap_set (heap_set (heap_set (heap_set h 0 x) 1 y) 2 z) 3 v
  exact ⟨cell_of this 0, cell_of this 1, cell_of this 2, cell_of this 3⟩
set_option maxHeartbeats 1000000 in
theorem pair_any (u v : Nat) (e : Int) (w : World) : Calls Try.prog 38 #[.float .f32 u, .float .f32 v, .int .i64 e] w fun e' w' => e' = .returned (ans e 0 (pairT (V .f32 u) (V .f32 v))) ∧ Ext w w' := by
  go_enter Try.func38, Try.ntmps38
  go_wp2_with fail
  refine (text32_any u _).mono ?_
  rintro e' w1 ⟨rfl, x1⟩
  have X1 : Hid (Ext w w1 ∧ w1.heap[w.heap.size]? = some (.cells #[.int .i64 0, .int .i64 0, .int .i64 0, .string ⟨#[]⟩] 50)) := ⟨((Ext.refl w).alloc _).trans x1, x1.heap (heap_alloc_new w _)⟩
  clear x1
  go_wp2_with fail
  refine (text32_any v _).mono ?_
  rintro e' w2 ⟨rfl, x2⟩
  have z := x2.heap X1.out.2
  have X2 : Hid (Ext w w2) := X1.out.1.trans x2
  have z0 : w2.cell? ⟨w.heap.size, 0, none⟩ = some (.int .i64 0) := cell_of z 0
  have z1 : w2.cell? ⟨w.heap.size, 1, none⟩ = some (.int .i64 0) := cell_of z 1
  have z2 : w2.cell? ⟨w.heap.size, 2, none⟩ = some (.int .i64 0) := cell_of z 2
  have z3 : w2.cell? ⟨w.heap.size, 3, none⟩ = some (.string ⟨#[]⟩) := cell_of z 3
  have zf := frozen_of z
  have L1 : (st (text32 (V .f32 u))).size ≤ 50 := by rw [Tx.st_size]; exact text_len _
  have L2 : (st (text32 (V .f32 v))).size ≤ 50 := by rw [Tx.st_size]; exact text_len _
  have HP : Hid (st (pairT (V .f32 u) (V .f32 v)) = st (text32 (V .f32 u)) ++ { data := #[32] } ++ st (text32 (V .f32 v))) := by
    show _ = _
    unfold pairT
    rw [← Tx.st_append, ← Tx.st_append]; rfl
  generalize st (text32 (V .f32 u)) = A at *
  generalize st (text32 (V .f32 v)) = B at *
  have HR : Hid _ := lay4 z (.int .i64 e) (.int .i64 0) (.int .i64 0) (.string (A ++ { data := #[32] } ++ B))
  clear z x2
  go_wp2
  obtain ⟨r0, r1, r2, r3⟩ := HR.out
  apply bodyPost_ret
  focus (simp [results, Try.results38, go_sem, r0, r1, r2, r3]; rfl)
  focus rfl
  refine ⟨by unfold ans; rw [HP.out], ?_⟩
  exact (((X2.out.setCell (Nat.le_refl _) _).setCell (Nat.le_refl _) _).setCell (Nat.le_refl _) _).setCell (Nat.le_refl _) _
end Go.Proofs.Qxb6500343a
