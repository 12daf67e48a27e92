/-
  The model's series.
-/
import Derived.Test.Qxb6500343aW18
import Derived.Deep.AppendLies
namespace Go.Proofs.Qxb6500343a
open Go.RowKit
open Go.Proofs
open Ieee (Datum)
open Fl
open Tx (st)
open Ff (in64)
set_option linter.unusedSimpArgs false
set_option linter.unusedVariables false
attribute [local go_sem] run_fadd run_fsub run_fmul run_fquo run_store_float alloc_drewN setCell_drewN shape?_drewN tape_alloc drawn_alloc tape_setCell drawn_setCell drawn_drewN drawn_drew run_fneg

def fv (l : List Nat) : List Value := l.map fun (b : Nat) => Value.float .f64 b
/-- A row of floats of the call's own. -/
def OwnF (w : World) (B : Nat) (v : Value) (l : List Nat) : Prop := w.ownsRow B 80 1 v l.length (fv l)
def blk (v : Value) : List Nat := v.ownBlock.toList
theorem OwnF.chg {S : List Nat} {w w' : World} {B : Nat} {v : Value} {l : List Nat} (h : OwnF w B v l) (hx : Chg S w w') (hn : ∀ g, g ∈ blk v → g ∉ S) : OwnF w' B v l := by
  refine ⟨h.1, ?_⟩
  rcases h.2 with h | ⟨g, cap, cur, hv, h1, h2, h3⟩
  · exact .inl h
  · exact .inr ⟨g, cap, cur, hv, h1, hx.heap h2 (hn g (by rw [hv]; simp [blk, Value.ownBlock])), h3⟩
theorem OwnF.ext {w w' : World} {B : Nat} {v : Value} {l : List Nat} (h : OwnF w B v l) (hx : Ext w w') : OwnF w' B v l := h.chg (S := []) (Chg.of_ext hx) (by simp)
structure SmAt (w : World) (B m : Nat) (v : Value) (xs : List Datum) : Prop where
  hp : ∃ a, w.heap[m]? = some (.cells #[v, .int .i64 a] 106)
  own : ∃ l, OwnF w B v l ∧ l.map (V .f64) = xs
  ne : m ∉ blk v
  len : xs.length ≤ 8
  hB : B ≤ m
theorem SmAt.chg {S : List Nat} {w w' : World} {B m : Nat} {v : Value} {xs : List Datum} (h : SmAt w B m v xs) (hx : Chg S w w') (h1 : m ∉ S) (h2 : ∀ g, g ∈ blk v → g ∉ S) : SmAt w' B m v xs :=
  ⟨by obtain ⟨a, ha⟩ := h.hp; exact ⟨a, hx.heap ha h1⟩, by obtain ⟨l, h3, h4⟩ := h.own; exact ⟨l, h3.chg hx h2, h4⟩, h.ne, h.len, h.hB⟩
theorem SmAt.ext {w w' : World} {B m : Nat} {v : Value} {xs : List Datum} (h : SmAt w B m v xs) (hx : Ext w w') : SmAt w' B m v xs := h.chg (S := []) (Chg.of_ext hx) (by simp) (by simp)
theorem SmAt.lt {w : World} {B m : Nat} {v : Value} {xs : List Datum} (h : SmAt w B m v xs) : m < w.heap.size ∧ ∀ g, g ∈ blk v → g < w.heap.size ∧ B ≤ g := by
  obtain ⟨a, ha⟩ := h.hp
  obtain ⟨l, h3, _⟩ := h.own
  refine ⟨lt_of_heap ha, fun g hg => ?_⟩
  have := World.ownsRow.lt h3 g (by simpa [blk] using hg)
  omega
/-- The slice's form, and its cells. -/
theorem SmAt.form {w : World} {B m : Nat} {v : Value} {xs : List Datum} (h : SmAt w B m v xs) : ∃ (ad : Option Addr) (cap : Nat) (l : List Nat), v = .slice ad xs.length cap ∧ l.length = xs.length ∧ l.map (V .f64) = xs ∧ (xs.length = 0 ∨ ∃ g, ad = some ⟨g, 0, none⟩ ∧ ∀ w', Ext w w' → ∀ i, i < xs.length → w'.cell? ⟨g, i, none⟩ = some (.float .f64 (l.getD i 0))) := by
  obtain ⟨l, ho, hl⟩ := h.own
  have hll : l.length = xs.length := by rw [← hl, List.length_map]
  rcases ho.2 with ⟨hv, h0⟩ | ⟨g, cap, cur, hv, h1, h2, h3, h4, h5, h6⟩
  · exact ⟨none, 0, l, by rw [hv]; congr 1; omega, hll, hl, .inl (by omega)⟩
  · refine ⟨some ⟨g, 0, none⟩, cap, l, by rw [hv, hll], hll, hl, .inr ⟨g, rfl, fun w' hx i hi => ?_⟩⟩
    rw [cell_of (hx.heap h2)]
    have h7 : (cur.toList.take (l.length * 1))[i]? = (fv l)[i]? := by rw [h6]
    rw [List.getElem?_take_of_lt (by omega), Array.getElem?_toList] at h7
    rw [h7]
    simp [fv, show i < l.length by omega]
theorem getD_V {l : List Nat} {xs : List Datum} (h : l.map (V .f64) = xs) {i : Nat} (hi : i < l.length) : V .f64 (l.getD i 0) = xs.getD i Pl.zero64 := by
  subst h
  simp [hi]
set_option maxHeartbeats 400000 in
theorem smnew_any (w : World) : Calls Try.prog 34 #[] w fun e w' => e = .returned (.pointer (some ⟨w.heap.size, 0, none⟩)) ∧ w' = w.alloc (.cells #[.slice none 0 0, .int .i64 0] 106) := by
  go_enter Try.func34, Try.ntmps34
  go_wp2
  go_ret
  exact ⟨rfl, rfl⟩
theorem sm_fresh {w : World} {B m : Nat} (h : w.heap[m]? = some (.cells #[.slice none 0 0, .int .i64 0] 106)) (hB : B ≤ m) : SmAt w B m (.slice none 0 0) [] :=
  ⟨⟨0, h⟩, ⟨[], World.ownsRow_nil w B 80 1, rfl⟩, by simp [blk, Value.ownBlock], by simp, hB⟩
set_option maxHeartbeats 400000 in
theorem smlen_any (w : World) (B m : Nat) (v : Value) (xs : List Datum) (h : SmAt w B m v xs) : Calls Try.prog 42 #[.pointer (some ⟨m, 0, none⟩)] w fun e w' => e = .returned (.int .i64 xs.length) ∧ Ext w w' := by
  obtain ⟨ad, cap, l, rfl, _⟩ := h.form
  obtain ⟨a, ha⟩ := h.hp
  have g0 : w.cell? ⟨m, 0, none⟩ = some (.slice ad xs.length cap) := cell_of ha 0
  clear h ha
  go_enter Try.func42, Try.ntmps42
  go_wp2
  go_ret
  exact ⟨rfl, Ext.refl _⟩
theorem info80 : (Try.prog.info? 80).map (fun i => (i.zero, i.size, i.bytes)) = some (some (.float .f64 0), 1, 8) := by kernel_rfl
theorem chg_grown {w w' : World} {v : Value} (h : w.grownBy w' v.ownBlock) : Chg (blk v) w w' :=
  ⟨h.os, h.tape, h.output, h.size, fun i hi hn => h.block i hi (fun e => hn (by unfold blk; rw [← e]; simp))⟩
set_option maxHeartbeats 1000000 in
theorem smpush_full (w : World) (B m : Nat) (v : Value) (xs : List Datum) (a b : Int) (h : SmAt w B m v xs) (h8 : xs.length = 8) : Calls Try.prog 43 #[.pointer (some ⟨m, 0, none⟩), .int .i64 a, .int .i64 b] w fun e w' => e = .returned (.int .i64 1) ∧ Ext w w' := by
  obtain ⟨ad, cap, l, rfl, _⟩ := h.form
  obtain ⟨c, ha⟩ := h.hp
  rw [h8] at ha
  have g0 : w.cell? ⟨m, 0, none⟩ = some (.slice ad 8 cap) := cell_of ha 0
  clear h ha
  go_enter Try.func43, Try.ntmps43
  go_wp2
  go_ret
  exact ⟨rfl, Ext.refl _⟩
set_option maxRecDepth 100000 in
set_option maxHeartbeats 2000000 in
theorem smpush_ok (w : World) (B m : Nat) (v : Value) (xs : List Datum) (a b : Int) (h : SmAt w B m v xs) (h8 : xs.length < 8) : Calls Try.prog 43 #[.pointer (some ⟨m, 0, none⟩), .int .i64 a, .int .i64 b] w fun e w' => e = .returned (.int .i64 0) ∧ ∃ v', SmAt w' B m v' (xs ++ [Pl.ratio a b]) ∧ Chg (m :: blk v) w w' ∧ ∀ g, g ∈ blk v' → g ∈ blk v ∨ w.heap.size ≤ g := by
  have HS : Hid (SmAt w B m v xs) := h
  obtain ⟨l, ho, hl⟩ := h.own
  have hll : l.length = xs.length := by rw [← hl, List.length_map]
  have HO : Hid (OwnF w B v l ∧ l.map (V .f64) = xs ∧ l.length = xs.length) := ⟨ho, hl, hll⟩
  obtain ⟨ad, cap, l2, hv, _⟩ := h.form
  have HV : Hid (v = .slice ad xs.length cap) := hv
  obtain ⟨c, ha⟩ := h.hp
  have HA : Hid (w.heap[m]? = some (.cells #[v, .int .i64 c] 106)) := ha
  have g0 : w.cell? ⟨m, 0, none⟩ = some (.slice ad xs.length cap) := by rw [← hv]; exact cell_of ha 0
  have hlt := h.lt
  have HLT : Hid (m < w.heap.size ∧ (∀ g, g ∈ blk v → g < w.heap.size ∧ B ≤ g) ∧ B ≤ w.heap.size) := ⟨hlt.1, hlt.2, by have := h.hB; omega⟩
  have hm0 := hlt.1
  have hd : decide ((8 : Int) ≤ (xs.length : Int)) = false := decide_eq_false (by omega)
  obtain ⟨i0, hi, hz⟩ := Option.map_eq_some_iff.1 info80
  simp only [Prod.mk.injEq] at hz
  clear h ho hl hv ha hlt
  obtain ⟨R, hR⟩ : ∃ R, R = fb .quo .f64 (floatOfInt .f64 a) (floatOfInt .f64 b) w.tape w.drawn := ⟨_, rfl⟩
  have HR : Hid (R = fb .quo .f64 (floatOfInt .f64 a) (floatOfInt .f64 b) w.tape w.drawn ∧ V .f64 R = Pl.ratio a b) := ⟨hR, by rw [hR, V_quo]; rfl⟩
  clear hR
  have xa : Ext w ((w.alloc (.cells #[.float .f64 (fb .quo .f64 (floatOfInt .f64 a) (floatOfInt .f64 b) w.tape w.drawn)] 80)).drewN (fn .quo .f64 (floatOfInt .f64 a) (floatOfInt .f64 b))) := ((Ext.refl w).alloc _).drewN _
  have HXA : Hid _ := xa
  clear xa
  go_enter Try.func43, Try.ntmps43
  go_wp2_with (at_builtin; refine wpList_append_lies _ rfl _ _ 104 rfl B 80 i0 (.float .f64 0) 1 8 Try.underlying104 hi hz.1 hz.2.1 hz.2.2 rfl (by decide) v l.length (fv l) (by rw [HV.out]; rfl) (HO.out.1.ext HXA.out) ⟨w.heap.size, 0, none⟩ 1 1 [.float .f64 (fb .quo .f64 (floatOfInt .f64 a) (floatOfInt .f64 b) w.tape w.drawn)] rfl rfl ?e3 ?e4 (by decide) ?e5 ?e6 ?e7 _ rfl ?_)
  case e3 =>
    intro j u hj
    match j, hj with
    | 0, hj =>
      simp only [List.getElem?_cons_zero, Option.some.injEq] at hj
      subst hj
      have := heap_alloc_new w (.cells #[.float .f64 (fb .quo .f64 (floatOfInt .f64 a) (floatOfInt .f64 b) w.tape w.drawn)] 80)
      exact cell_of (((Ext.refl _).drewN _).heap this) 0
  case e4 => intro u hu; simp only [List.mem_singleton] at hu; subst hu; rfl
  case e5 => unfold maxLen; omega
  case e6 => omega
  case e7 => exact Nat.le_trans HLT.out.2.2 HXA.out.size
  intro g cp w1 h1 h2 h3 h4
  have c1 : Chg (blk v) w w1 := (Chg.of_ext HXA.out).trans (chg_grown h2)
  have hmb : m ∉ blk v := HS.out.ne
  have z1 := c1.heap HA.out hmb
  have hgm : g ≠ m := by
    rcases h3 with h3 | h3
    · rintro rfl; exact hmb (by unfold blk; rw [h3]; simp)
    · rintro rfl
      have e : g = w.heap.size + 1 := h3
      omega
  have hgf : g ∈ blk v ∨ w.heap.size ≤ g := by
    rcases h3 with h3 | h3
    · left; unfold blk; rw [h3]; simp
    · right
      have e : g = w.heap.size + 1 := h3
      omega
  have H1 : Hid (OwnF w1 B (.slice (some ⟨g, 0, none⟩) (xs.length + 1) cp) (l ++ [fb .quo .f64 (floatOfInt .f64 a) (floatOfInt .f64 b) w.tape w.drawn]) ∧ Chg (blk v) w w1 ∧ g ≠ m ∧ (g ∈ blk v ∨ w.heap.size ≤ g) ∧ w1.heap[m]? = some (.cells #[v, .int .i64 c] 106) ∧ g < w1.heap.size) := by
    refine ⟨?_, c1, hgm, hgf, z1, h4⟩
    unfold OwnF
    rw [List.length_append, List.length_singleton, hll, show fv (l ++ [fb .quo .f64 (floatOfInt .f64 a) (floatOfInt .f64 b) w.tape w.drawn]) = fv l ++ [.float .f64 (fb .quo .f64 (floatOfInt .f64 a) (floatOfInt .f64 b) w.tape w.drawn)] from by simp [fv]]
    exact h1
  have k0 : w1.cell? ⟨m, 0, none⟩ = some v := cell_of z1 0
  have kf := frozen_of z1
  clear h1 h2 h3 h4 c1 z1 hgm hgf g0
  go_wp2
  go_ret
  obtain ⟨q1, q2, q3, q4, q5, q6⟩ := H1.out
  have cs : Chg [m] w1 (w1.setCell ⟨m, 0, none⟩ (.slice (some ⟨g, 0, none⟩) (xs.length + 1) cp)) := (Chg.refl _ _).setCell (by simp) _
  refine ⟨rfl, .slice (some ⟨g, 0, none⟩) (xs.length + 1) cp, ⟨⟨c, by rw [heap_set q5]; rfl⟩, ⟨_, q1.chg cs ?_, ?_⟩, ?_, ?_, HS.out.hB⟩, ?_, ?_⟩
  · intro g' hg'; simp [blk, Value.ownBlock] at hg'; subst hg'; simpa using q3
  · rw [List.map_append, HO.out.2.1, ← HR.out.2, HR.out.1]; rfl
  · simp [blk, Value.ownBlock]; exact Ne.symm q3
  · simp; omega
  · exact (q2.mono (fun i hi => List.mem_cons_of_mem _ hi)).setCell (by simp) _
  · intro g' hg'; simp [blk, Value.ownBlock] at hg'; subst hg'; exact q4
end Go.Proofs.Qxb6500343a
