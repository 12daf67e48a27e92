/-
  The two sides' calls, each in one.
-/
import Derived.Test.Qxb6500343aN7
namespace Go.Proofs.Qxb6500343a
open Go.RowKit
open Go.Proofs
open Ieee (Datum)
open Fl
open Tx (st)
open Ff (in64)
set_option linter.unusedSimpArgs false
set_option linter.unusedVariables false
attribute [local go_sem] run_fadd run_fsub run_fmul run_fquo run_store_float alloc_drewN setCell_drewN shape?_drewN tape_alloc drawn_alloc tape_setCell drawn_setCell drawn_drewN drawn_drew run_fneg

structure Stp where
  k : Int
  a : Int
  b : Int
  c : Int
  s : ByteArray
  t : ByteArray
def opV (o : Stp) : Value := .agg #[.int .i64 o.k, .int .i64 o.a, .int .i64 o.b, .int .i64 o.c, .string o.s, .string o.t]
/-- What a step answers, and the samples behind it. -/
structure Out where
  e : Int
  n : Int
  s : List Nat
  xs : List Datum
  ys : List Datum
abbrev AX (xs : List Datum) : Pl.AX := Pl.axisOf (Pl.lv xs)
def aE (xs : List Datum) : Int := if xs.length < 8 then 0 else 1
def aX (xs : List Datum) (x : Datum) (n : Nat) : List Datum := if n < 8 then xs ++ [x] else xs
def dE (xs : List Datum) : Int := if xs.isEmpty then 2 else 0
def insB (xs ys : List Datum) (a b c : Int) : Bool := !xs.isEmpty && (Pl.holds (AX xs) (Pl.coord a c) && Pl.holds (AX ys) (Pl.coord b c))
def clp (xs ys : List Datum) (a b c : Int) : Datum × Datum := if xs.isEmpty then (Pl.zero32, Pl.zero32) else (Pl.clamp (Pl.coord a c) (AX xs).lo (AX xs).hi, Pl.clamp (Pl.coord b c) (AX ys).lo (AX ys).hi)
def alg (xs ys : List Datum) (a b : Int) : Datum × Datum := if xs.isEmpty then (Pl.zero32, Pl.zero32) else (Pl.lerp (Pl.coord a b) (AX xs).lo (AX xs).hi, Pl.lerp (Pl.coord a b) (AX ys).lo (AX ys).hi)
def cel (xs ys : List Datum) (a b c : Int) : Int × Int := if xs.isEmpty then (0, 2) else Pl.cellA (AX xs) (AX ys) (Pl.coord a c) (Pl.coord b c)
def bstep (xs ys : List Datum) (o : Stp) : Out :=
  if o.k = 1 then ⟨aE xs, 0, [], aX xs (Pl.ratio o.a o.c) xs.length, aX ys (Pl.ratio o.b o.c) xs.length⟩
  else if o.k = 2 then ⟨dE xs, 0, [], xs.dropLast, ys.dropLast⟩
  else if o.k = 3 then ⟨0, xs.length, [], xs, ys⟩
  else if o.k = 4 then ⟨(corner (AX xs) (AX ys) xs.isEmpty o.a).2, 0, pairT (corner (AX xs) (AX ys) xs.isEmpty o.a).1 Pl.zero32, xs, ys⟩
  else if o.k = 5 then ⟨dE xs, if insB xs ys o.a o.b o.c then 1 else 0, [], xs, ys⟩
  else if o.k = 6 then ⟨dE xs, 0, pairT (clp xs ys o.a o.b o.c).1 (clp xs ys o.a o.b o.c).2, xs, ys⟩
  else if o.k = 7 then ⟨dE xs, 0, pairT (alg xs ys o.a o.b).1 (alg xs ys o.a o.b).2, xs, ys⟩
  else if o.k = 8 then ⟨(cel xs ys o.a o.b o.c).2, (cel xs ys o.a o.b o.c).1, [], xs, ys⟩
  else if o.k = 9 then ⟨0, 0, showB xs.length (AX xs) (AX ys), xs, ys⟩
  else if o.k = 10 then ⟨0, 1, [], xs, ys⟩
  else ⟨0, 0, [], xs, ys⟩
theorem heap_set4' {w : World} {g r : Nat} (hgn : g ≠ r) (x y z v : Value) : ((((w.setCell ⟨r, 0, none⟩ x).setCell ⟨r, 1, none⟩ y).setCell ⟨r, 2, none⟩ z).setCell ⟨r, 3, none⟩ v).heap[g]? = w.heap[g]? := by
  rw [heap_set_ne hgn, heap_set_ne hgn, heap_set_ne hgn, heap_set_ne hgn]
theorem chg_set4 {S : List Nat} {w w1 : World} {r : Nat} (h : Chg S w w1) (hb : r ∈ S ∨ w.heap.size ≤ r) (x y z v : Value) :
    Chg S w ((((w1.setCell ⟨r, 0, none⟩ x).setCell ⟨r, 1, none⟩ y).setCell ⟨r, 2, none⟩ z).setCell ⟨r, 3, none⟩ v) :=
  (((h.setCell hb _).setCell hb _).setCell hb _).setCell hb _
/-- The real side behind a call. -/
def RP (i : BId) (w w' : World) (xs ys : List Datum) : Prop := BoxAt w' i (Pl.lv xs) (Pl.lv ys) ∧ Chg i.all w w'
theorem RP.of_ext {i : BId} {w w' : World} {xs ys : List Datum} (h : BoxAt w i (Pl.lv xs) (Pl.lv ys)) (hx : Ext w w') : RP i w w' xs ys := ⟨h.ext hx, Chg.of_ext hx⟩
theorem RP.post {i : BId} {w w' w'' : World} {xs ys : List Datum} (h : RP i w w' xs ys) (hx : Ext w' w'') : RP i w w'' xs ys := ⟨h.1.ext hx, h.2.then hx⟩
theorem RP.heap {i : BId} {w w' : World} {xs ys : List Datum} (h : RP i w w' xs ys) {n : Nat} {o : Obj} (hn : w.heap[n]? = some o) (hi : n ∉ i.all) : w'.heap[n]? = some o := h.2.heap hn hi
theorem RP.pre {i : BId} {w w0 w' : World} {xs ys : List Datum} (hx : Ext w w0) (h : RP i w0 w' xs ys) : RP i w w' xs ys := ⟨h.1, (Chg.of_ext hx).trans h.2⟩
theorem RP.fin {i : BId} {w w0 w' : World} {xs ys : List Datum} (hx : Ext w w0) (h : RP i w0 w' xs ys) {n : Nat} (hn : n ∉ i.all) (h1 : n < w0.heap.size) (h2 : w.heap.size ≤ n) (x y z v : Value) :
    RP i w ((((w'.setCell ⟨n, 0, none⟩ x).setCell ⟨n, 1, none⟩ y).setCell ⟨n, 2, none⟩ z).setCell ⟨n, 3, none⟩ v) xs ys := by
  have hs := chg_set4 (S := [n]) (r := n) (Chg.refl _ w') (.inl (by simp)) x y z v
  exact ⟨h.1.chg hs (fun k hk => by simp only [List.mem_singleton]; rintro rfl; exact hn hk), chg_set4 (r := n) (h.pre hx).2 (.inr h2) x y z v⟩
theorem BoxAt.lt {w : World} {i : BId} {xs ys : List Pl.LD} (h : BoxAt w i xs ys) : ∀ k, k ∈ i.all → k < w.heap.size := by
  intro k hk
  obtain ⟨xl, xh, xw, xb, yl, yh, yw, yb, h1, _, _⟩ := h.box
  have h2 := lt_of_heap h1
  have h3 := lt_of_heap h.sx.hp
  have h4 := lt_of_heap h.sy.hp
  obtain ⟨C, hC, _⟩ := h.sx.hL
  obtain ⟨D, hD, _⟩ := h.sy.hL
  have h5 := lt_of_heap hC
  have h6 := lt_of_heap hD
  simp [BId.all] at hk
  omega
/-- The model's side behind a call. -/
def MP (B : Nat) (i : BM) (w w' : World) (xs ys : List Datum) : Prop := ∃ i' : BM, i'.mb = i.mb ∧ BmAt w' B i' xs ys ∧ Chg i.all w w' ∧ ∀ k, k ∈ i'.all → k ∈ i.all ∨ w.heap.size ≤ k
theorem MP.same {B : Nat} {i : BM} {w w' : World} {xs ys : List Datum} (h : BmAt w' B i xs ys) (hc : Chg i.all w w') : MP B i w w' xs ys := ⟨i, rfl, h, hc, fun k hk => .inl hk⟩
theorem MP.of_ext {B : Nat} {i : BM} {w w' : World} {xs ys : List Datum} (h : BmAt w B i xs ys) (hx : Ext w w') : MP B i w w' xs ys := MP.same (h.ext hx) (Chg.of_ext hx)
theorem MP.post {B : Nat} {i : BM} {w w' w'' : World} {xs ys : List Datum} (h : MP B i w w' xs ys) (hx : Ext w' w'') : MP B i w w'' xs ys := by
  obtain ⟨i', h1, h2, h3, h4⟩ := h
  exact ⟨i', h1, h2.ext hx, h3.then hx, h4⟩
theorem MP.heap {B : Nat} {i : BM} {w w' : World} {xs ys : List Datum} (h : MP B i w w' xs ys) {n : Nat} {o : Obj} (hn : w.heap[n]? = some o) (hi : n ∉ i.all) : w'.heap[n]? = some o := by
  obtain ⟨i', h1, h2, h3, h4⟩ := h
  exact h3.heap hn hi
theorem MP.pre {B : Nat} {i : BM} {w w0 w' : World} {xs ys : List Datum} (hx : Ext w w0) (h : MP B i w0 w' xs ys) : MP B i w w' xs ys := by
  obtain ⟨i', h1, h2, h3, h4⟩ := h
  have := hx.size
  exact ⟨i', h1, h2, (Chg.of_ext hx).trans h3, fun k hk => (h4 k hk).imp id (fun h => by omega)⟩
theorem MP.fin {B : Nat} {i : BM} {w w0 w' : World} {xs ys : List Datum} (hx : Ext w w0) (h : MP B i w0 w' xs ys) {n : Nat} (hn : n ∉ i.all) (h1 : n < w0.heap.size) (h2 : w.heap.size ≤ n) (x y z v : Value) :
    MP B i w ((((w'.setCell ⟨n, 0, none⟩ x).setCell ⟨n, 1, none⟩ y).setCell ⟨n, 2, none⟩ z).setCell ⟨n, 3, none⟩ v) xs ys := by
  have hs := chg_set4 (S := [n]) (r := n) (Chg.refl _ w') (.inl (by simp)) x y z v
  have hp := h.pre hx
  obtain ⟨i', e1, e2, e3, e4⟩ := h
  obtain ⟨j', _, _, f3, _⟩ := hp
  have := hx.size
  refine ⟨i', e1, e2.chg hs (fun k hk => ?_), chg_set4 (r := n) f3 (.inr h2) x y z v, fun k hk => (e4 k hk).imp id (fun h => by omega)⟩
  simp only [List.mem_singleton]
  rintro rfl
  rcases e4 _ hk with h | h
  · exact hn h
  · omega
theorem iE_lv (xs : List Datum) : (Pl.lv xs).isEmpty = xs.isEmpty := by
  have := Pl.lv_len xs
  cases xs with
  | nil => rfl
  | cons x r =>
    cases h : Pl.lv (x :: r) with
    | nil => rw [h] at this; simp at this
    | cons _ _ => rfl
theorem pos_lv {xs : List Datum} (h : xs ≠ []) : 0 < (Pl.lv xs).length := by rw [Pl.lv_len]; exact List.length_pos_iff.2 h
/-! ### The real side's calls, each in one. -/
theorem r_add (w : World) (i : BId) (xs ys : List Datum) (a b c : Int) (h : BoxAt w i (Pl.lv xs) (Pl.lv ys)) (hx : Pl.Rat xs) (hy : Pl.Rat ys) (ha : in64 a) (hb : in64 b) (hc : in64 c) :
    Calls Try.prog 12 #[.pointer (some ⟨i.b, 0, none⟩), .int .i64 a, .int .i64 b, .int .i64 c] w fun e w' => e = .returned (.int .i64 (aE xs)) ∧ RP i w w' (aX xs (Pl.ratio a c) xs.length) (aX ys (Pl.ratio b c) xs.length) := by
  unfold aE aX
  have hl := h.sx.len
  rw [Pl.lv_len] at hl
  by_cases h8 : xs.length < 8
  · rw [if_pos h8, if_pos h8, if_pos h8]
    refine (add_ok w i (Pl.lv xs) (Pl.lv ys) a b c h (by rw [Pl.lv_len]; exact h8) ?_ ?_).mono fun e w' ⟨he, hb', hc'⟩ => ⟨he, ?_, hc'⟩
    · rw [← Pl.lv_snoc]; exact Pl.fit_lv (hx.snoc ha hc)
    · rw [← Pl.lv_snoc]; exact Pl.fit_lv (hy.snoc hb hc)
    · rw [Pl.lv_snoc, Pl.lv_snoc]; exact hb'
  · rw [if_neg h8, if_neg h8, if_neg h8]
    exact (add_full w i (Pl.lv xs) (Pl.lv ys) a b c h (by rw [Pl.lv_len]; omega)).mono fun e w' ⟨he, hx'⟩ => ⟨he, RP.of_ext h hx'⟩
theorem r_drop (w : World) (i : BId) (xs ys : List Datum) (h : BoxAt w i (Pl.lv xs) (Pl.lv ys)) (hx : Pl.Rat xs) (hy : Pl.Rat ys) :
    Calls Try.prog 35 #[.pointer (some ⟨i.b, 0, none⟩)] w fun e w' => e = .returned (.int .i64 (dE xs)) ∧ RP i w w' xs.dropLast ys.dropLast := by
  unfold dE
  cases hxs : xs with
  | nil =>
    subst hxs
    have hy0 : ys = [] := List.length_eq_zero_iff.1 (by have := h.len; rw [Pl.lv_len, Pl.lv_len] at this; simpa using this)
    subst hy0
    exact (drop_none w i _ h).mono fun e w' ⟨he, hx'⟩ => ⟨he, RP.of_ext h hx'⟩
  | cons x r =>
    rw [← hxs]
    have he : xs.isEmpty = false := by rw [hxs]; rfl
    rw [he]
    refine (drop_some w i (Pl.lv xs) (Pl.lv ys) h (pos_lv (by rw [hxs]; simp)) ?_ ?_).mono fun e w' ⟨he, hb', hc'⟩ => ⟨he, ?_, hc'⟩
    · rw [← Pl.lv_drop]; exact Pl.fit_lv hx.drop
    · rw [← Pl.lv_drop]; exact Pl.fit_lv hy.drop
    · rw [Pl.lv_drop, Pl.lv_drop]; exact hb'
theorem r_len (w : World) (i : BId) (xs ys : List Datum) (h : BoxAt w i (Pl.lv xs) (Pl.lv ys)) :
    Calls Try.prog 36 #[.pointer (some ⟨i.b, 0, none⟩)] w fun e w' => e = .returned (.int .i64 xs.length) ∧ RP i w w' xs ys := by
  refine (blen_any w i _ _ h).mono fun e w' ⟨he, hx'⟩ => ⟨?_, RP.of_ext h hx'⟩
  rw [Pl.lv_len] at he; exact he
theorem r_corner (w : World) (i : BId) (xs ys : List Datum) (k : Int) (h : BoxAt w i (Pl.lv xs) (Pl.lv ys)) :
    Calls Try.prog 37 #[.pointer (some ⟨i.b, 0, none⟩), .int .i64 k] w fun e w' => ∃ r, e = .returned (.tuple #[.float .f32 r, .int .i64 (corner (AX xs) (AX ys) xs.isEmpty k).2]) ∧ V .f32 r = (corner (AX xs) (AX ys) xs.isEmpty k).1 ∧ RP i w w' xs ys := by
  have := corner_any w i _ _ k h
  rw [iE_lv] at this
  exact this.mono fun e w' ⟨r, he, hr, hx'⟩ => ⟨r, he, hr, RP.of_ext h hx'⟩
theorem r_ins (w : World) (i : BId) (xs ys : List Datum) (a b c : Int) (h : BoxAt w i (Pl.lv xs) (Pl.lv ys)) (ha : in64 a) (hb : in64 b) (hc : in64 c) :
    Calls Try.prog 39 #[.pointer (some ⟨i.b, 0, none⟩), .int .i64 a, .int .i64 b, .int .i64 c] w fun e w' => e = .returned (.tuple #[.bool (insB xs ys a b c), .int .i64 (dE xs)]) ∧ RP i w w' xs ys := by
  unfold insB dE
  cases hxs : xs with
  | nil => subst hxs; exact (inside_none w i _ a b c h).mono fun e w' ⟨he, hx'⟩ => ⟨he, RP.of_ext h hx'⟩
  | cons x r =>
    rw [← hxs]
    have he : xs.isEmpty = false := by rw [hxs]; rfl
    rw [he]
    exact (inside_some w i _ _ a b c h (pos_lv (by rw [hxs]; simp)) (Ff.ratio_fit a c ha hc) (Ff.ratio_fit b c hb hc)).mono fun e w' ⟨he, hx'⟩ => ⟨he, RP.of_ext h hx'⟩
theorem r_clp (w : World) (i : BId) (xs ys : List Datum) (a b c : Int) (h : BoxAt w i (Pl.lv xs) (Pl.lv ys)) (ha : in64 a) (hb : in64 b) (hc : in64 c) :
    Calls Try.prog 15 #[.pointer (some ⟨i.b, 0, none⟩), .int .i64 a, .int .i64 b, .int .i64 c] w fun e w' => ∃ u v, e = .returned (.tuple #[.float .f32 u, .float .f32 v, .int .i64 (dE xs)]) ∧ V .f32 u = (clp xs ys a b c).1 ∧ V .f32 v = (clp xs ys a b c).2 ∧ RP i w w' xs ys := by
  unfold clp dE
  cases hxs : xs with
  | nil => subst hxs; exact (clamp_none w i _ a b c h).mono fun e w' ⟨he, hx'⟩ => ⟨0, 0, he, rfl, rfl, RP.of_ext h hx'⟩
  | cons x r =>
    rw [← hxs]
    have he : xs.isEmpty = false := by rw [hxs]; rfl
    rw [he]
    exact (clamp_some w i _ _ a b c h (pos_lv (by rw [hxs]; simp)) (Ff.ratio_fit a c ha hc) (Ff.ratio_fit b c hb hc)).mono fun e w' ⟨u, v, he, hu, hv, hx'⟩ => ⟨u, v, he, hu, hv, RP.of_ext h hx'⟩
theorem r_alg (w : World) (i : BId) (xs ys : List Datum) (a b : Int) (h : BoxAt w i (Pl.lv xs) (Pl.lv ys)) (ha : in64 a) (hb : in64 b) :
    Calls Try.prog 14 #[.pointer (some ⟨i.b, 0, none⟩), .int .i64 a, .int .i64 b] w fun e w' => ∃ u v, e = .returned (.tuple #[.float .f32 u, .float .f32 v, .int .i64 (dE xs)]) ∧ V .f32 u = (alg xs ys a b).1 ∧ V .f32 v = (alg xs ys a b).2 ∧ RP i w w' xs ys := by
  unfold alg dE
  cases hxs : xs with
  | nil => subst hxs; exact (along_none w i _ a b h).mono fun e w' ⟨he, hx'⟩ => ⟨0, 0, he, rfl, rfl, RP.of_ext h hx'⟩
  | cons x r =>
    rw [← hxs]
    have he : xs.isEmpty = false := by rw [hxs]; rfl
    rw [he]
    exact (along_some w i _ _ a b h (pos_lv (by rw [hxs]; simp)) (Ff.ratio_fit a b ha hb)).mono fun e w' ⟨u, v, he, hu, hv, hx'⟩ => ⟨u, v, he, hu, hv, RP.of_ext h hx'⟩
theorem r_cel (w : World) (i : BId) (xs ys : List Datum) (a b c : Int) (h : BoxAt w i (Pl.lv xs) (Pl.lv ys)) (ha : in64 a) (hb : in64 b) (hc : in64 c) :
    Calls Try.prog 13 #[.pointer (some ⟨i.b, 0, none⟩), .int .i64 a, .int .i64 b, .int .i64 c] w fun e w' => e = .returned (.tuple #[.int .i64 (cel xs ys a b c).1, .int .i64 (cel xs ys a b c).2]) ∧ RP i w w' xs ys := by
  unfold cel
  cases hxs : xs with
  | nil => subst hxs; exact (cell_none w i _ a b c h).mono fun e w' ⟨he, hx'⟩ => ⟨he, RP.of_ext h hx'⟩
  | cons x r =>
    rw [← hxs]
    have he : xs.isEmpty = false := by rw [hxs]; rfl
    rw [he]
    exact (cell_some w i _ _ a b c h (pos_lv (by rw [hxs]; simp)) (Ff.ratio_fit a c ha hc) (Ff.ratio_fit b c hb hc) (by unfold Pl.cellOk; rw [Ff.partOk_all, Ff.partOk_all]; rfl)).mono fun e w' ⟨he, hx'⟩ => ⟨he, RP.of_ext h hx'⟩
theorem r_show (w : World) (i : BId) (xs ys : List Datum) (h : BoxAt w i (Pl.lv xs) (Pl.lv ys)) :
    Calls Try.prog 40 #[.pointer (some ⟨i.b, 0, none⟩)] w fun e w' => e = .returned (.string (st (showB xs.length (AX xs) (AX ys)))) ∧ RP i w w' xs ys := by
  have := show_any w i _ _ h
  rw [Pl.lv_len] at this
  exact this.mono fun e w' ⟨he, hx'⟩ => ⟨he, RP.of_ext h hx'⟩
theorem r_check (w : World) (i : BId) (xs ys : List Datum) (h : BoxAt w i (Pl.lv xs) (Pl.lv ys)) :
    Calls Try.prog 41 #[.pointer (some ⟨i.b, 0, none⟩)] w fun e w' => e = .returned (.bool true) ∧ RP i w w' xs ys :=
  (check_any w i xs ys h).mono fun e w' ⟨he, hx'⟩ => ⟨he, RP.of_ext h hx'⟩
/-! ### The model's. -/
theorem m_add (w : World) (B : Nat) (i : BM) (xs ys : List Datum) (a b c : Int) (h : BmAt w B i xs ys) (hx : Pl.Rat xs) (hy : Pl.Rat ys) (ha : in64 a) (hb : in64 b) (hc : in64 c) :
    Calls Try.prog 79 #[.pointer (some ⟨i.mb, 0, none⟩), .int .i64 a, .int .i64 b, .int .i64 c] w fun e w' => e = .returned (.int .i64 (aE xs)) ∧ MP B i w w' (aX xs (Pl.ratio a c) xs.length) (aX ys (Pl.ratio b c) xs.length) := by
  unfold aE aX
  have hl := h.sx.len
  by_cases h8 : xs.length < 8
  · rw [if_pos h8, if_pos h8, if_pos h8]
    exact bmadd_ok w B i xs ys a b c h h8
  · rw [if_neg h8, if_neg h8, if_neg h8]
    exact (bmadd_full w B i xs ys a b c h (by omega)).mono fun e w' ⟨he, hx'⟩ => ⟨he, MP.of_ext h hx'⟩
theorem m_drop (w : World) (B : Nat) (i : BM) (xs ys : List Datum) (h : BmAt w B i xs ys) :
    Calls Try.prog 80 #[.pointer (some ⟨i.mb, 0, none⟩)] w fun e w' => e = .returned (.int .i64 (dE xs)) ∧ MP B i w w' xs.dropLast ys.dropLast := by
  unfold dE
  cases hxs : xs with
  | nil =>
    subst hxs
    have hy0 : ys = [] := List.length_eq_zero_iff.1 (by have := h.len; simpa using this)
    subst hy0
    exact (bmdrop_none w B i _ h).mono fun e w' ⟨he, hx'⟩ => ⟨he, MP.of_ext h hx'⟩
  | cons x r =>
    rw [← hxs]
    have he : xs.isEmpty = false := by rw [hxs]; rfl
    rw [he]
    exact bmdrop_some w B i xs ys h (by rw [hxs]; simp)
theorem m_len (w : World) (B : Nat) (i : BM) (xs ys : List Datum) (h : BmAt w B i xs ys) :
    Calls Try.prog 81 #[.pointer (some ⟨i.mb, 0, none⟩)] w fun e w' => e = .returned (.int .i64 xs.length) ∧ MP B i w w' xs ys :=
  (bmlen_any w B i xs ys h).mono fun e w' ⟨he, hx'⟩ => ⟨he, MP.of_ext h hx'⟩
theorem m_corner (w : World) (B : Nat) (i : BM) (xs ys : List Datum) (k : Int) (h : BmAt w B i xs ys) (hx : Pl.Rat xs) (hy : Pl.Rat ys) :
    Calls Try.prog 82 #[.pointer (some ⟨i.mb, 0, none⟩), .int .i64 k] w fun e w' => ∃ r, e = .returned (.tuple #[.float .f32 r, .int .i64 (corner (AX xs) (AX ys) xs.isEmpty k).2]) ∧ V .f32 r = (corner (AX xs) (AX ys) xs.isEmpty k).1 ∧ MP B i w w' xs ys :=
  (bmcorner_any w B i xs ys k h hx hy).mono fun e w' ⟨r, he, hr, h1, h2⟩ => ⟨r, he, hr, MP.same h1 h2⟩
theorem m_ins (w : World) (B : Nat) (i : BM) (xs ys : List Datum) (a b c : Int) (h : BmAt w B i xs ys) (hx : Pl.Rat xs) (hy : Pl.Rat ys) (ha : in64 a) (hb : in64 b) (hc : in64 c) :
    Calls Try.prog 83 #[.pointer (some ⟨i.mb, 0, none⟩), .int .i64 a, .int .i64 b, .int .i64 c] w fun e w' => e = .returned (.tuple #[.bool (insB xs ys a b c), .int .i64 (dE xs)]) ∧ MP B i w w' xs ys := by
  unfold insB dE
  cases hxs : xs with
  | nil => subst hxs; exact (bminside_none w B i _ a b c h).mono fun e w' ⟨he, hx'⟩ => ⟨he, MP.of_ext h hx'⟩
  | cons x r =>
    rw [← hxs]
    have he : xs.isEmpty = false := by rw [hxs]; rfl
    rw [he]
    exact (bminside_some w B i xs ys h (by rw [hxs]; simp) hx hy a b c (Ff.ratio_fit a c ha hc) (Ff.ratio_fit b c hb hc)).mono fun e w' ⟨he, h1, h2⟩ => ⟨he, MP.same h1 h2⟩
theorem m_clp (w : World) (B : Nat) (i : BM) (xs ys : List Datum) (a b c : Int) (h : BmAt w B i xs ys) (hx : Pl.Rat xs) (hy : Pl.Rat ys) (ha : in64 a) (hb : in64 b) (hc : in64 c) :
    Calls Try.prog 84 #[.pointer (some ⟨i.mb, 0, none⟩), .int .i64 a, .int .i64 b, .int .i64 c] w fun e w' => ∃ u v, e = .returned (.tuple #[.float .f32 u, .float .f32 v, .int .i64 (dE xs)]) ∧ V .f32 u = (clp xs ys a b c).1 ∧ V .f32 v = (clp xs ys a b c).2 ∧ MP B i w w' xs ys := by
  unfold clp dE
  cases hxs : xs with
  | nil => subst hxs; exact (bmclamp_none w B i _ a b c h).mono fun e w' ⟨he, hx'⟩ => ⟨0, 0, he, rfl, rfl, MP.of_ext h hx'⟩
  | cons x r =>
    rw [← hxs]
    have he : xs.isEmpty = false := by rw [hxs]; rfl
    rw [he]
    exact (bmclamp_some w B i xs ys h (by rw [hxs]; simp) hx hy a b c (Ff.ratio_fit a c ha hc) (Ff.ratio_fit b c hb hc)).mono fun e w' ⟨u, v, he, hu, hv, h1, h2⟩ => ⟨u, v, he, hu, hv, MP.same h1 h2⟩
theorem m_alg (w : World) (B : Nat) (i : BM) (xs ys : List Datum) (a b : Int) (h : BmAt w B i xs ys) (hx : Pl.Rat xs) (hy : Pl.Rat ys) (ha : in64 a) (hb : in64 b) :
    Calls Try.prog 85 #[.pointer (some ⟨i.mb, 0, none⟩), .int .i64 a, .int .i64 b] w fun e w' => ∃ u v, e = .returned (.tuple #[.float .f32 u, .float .f32 v, .int .i64 (dE xs)]) ∧ V .f32 u = (alg xs ys a b).1 ∧ V .f32 v = (alg xs ys a b).2 ∧ MP B i w w' xs ys := by
  unfold alg dE
  cases hxs : xs with
  | nil => subst hxs; exact (bmalong_none w B i _ a b h).mono fun e w' ⟨he, hx'⟩ => ⟨0, 0, he, rfl, rfl, MP.of_ext h hx'⟩
  | cons x r =>
    rw [← hxs]
    have he : xs.isEmpty = false := by rw [hxs]; rfl
    rw [he]
    exact (bmalong_some w B i xs ys h (by rw [hxs]; simp) hx hy a b (Ff.ratio_fit a b ha hb)).mono fun e w' ⟨u, v, he, hu, hv, h1, h2⟩ => ⟨u, v, he, hu, hv, MP.same h1 h2⟩
theorem m_cel (w : World) (B : Nat) (i : BM) (xs ys : List Datum) (a b c : Int) (h : BmAt w B i xs ys) (hx : Pl.Rat xs) (hy : Pl.Rat ys) (ha : in64 a) (hb : in64 b) (hc : in64 c) :
    Calls Try.prog 86 #[.pointer (some ⟨i.mb, 0, none⟩), .int .i64 a, .int .i64 b, .int .i64 c] w fun e w' => e = .returned (.tuple #[.int .i64 (cel xs ys a b c).1, .int .i64 (cel xs ys a b c).2]) ∧ MP B i w w' xs ys := by
  unfold cel
  cases hxs : xs with
  | nil => subst hxs; exact (bmcell_none w B i _ a b c h).mono fun e w' ⟨he, hx'⟩ => ⟨he, MP.of_ext h hx'⟩
  | cons x r =>
    rw [← hxs]
    have he : xs.isEmpty = false := by rw [hxs]; rfl
    rw [he]
    exact (bmcell_some w B i xs ys h (by rw [hxs]; simp) hx hy a b c (Ff.ratio_fit a c ha hc) (Ff.ratio_fit b c hb hc)).mono fun e w' ⟨he, h1, h2⟩ => ⟨he, MP.same h1 h2⟩
theorem m_show (w : World) (B : Nat) (i : BM) (xs ys : List Datum) (h : BmAt w B i xs ys) (hx : Pl.Rat xs) (hy : Pl.Rat ys) :
    Calls Try.prog 87 #[.pointer (some ⟨i.mb, 0, none⟩)] w fun e w' => e = .returned (.string (st (showB xs.length (AX xs) (AX ys)))) ∧ MP B i w w' xs ys :=
  (bmshow_any w B i xs ys h hx hy).mono fun e w' ⟨he, h1, h2⟩ => ⟨he, MP.same h1 h2⟩
end Go.Proofs.Qxb6500343a

