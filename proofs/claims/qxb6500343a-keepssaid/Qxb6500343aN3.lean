/-
  The model's box: New, Len, Add, Drop, Corner, four.
-/
import Derived.Test.Qxb6500343aN2
namespace Go.Proofs.Qxb6500343a
open Go.RowKit
open Go.Proofs
open Ieee (Datum)
open Fl
open Tx (st)
open Ff (in64)
set_option linter.unusedSimpArgs false
set_option linter.unusedVariables false
attribute [local go_sem] run_fadd run_fsub run_fmul run_fquo run_store_float alloc_drewN setCell_drewN shape?_drewN tape_alloc drawn_alloc tape_setCell drawn_setCell drawn_drewN drawn_drew run_fneg

structure BM where
  mb : Nat
  mx : Nat
  my : Nat
  vx : Value
  vy : Value
def BM.all (i : BM) : List Nat := i.mb :: i.mx :: i.my :: (blk i.vx ++ blk i.vy)
structure BmAt (w : World) (B : Nat) (i : BM) (xs ys : List Datum) : Prop where
  hb : w.heap[i.mb]? = some (.cells #[.pointer (some ⟨i.mx, 0, none⟩), .pointer (some ⟨i.my, 0, none⟩)] 112)
  sx : SmAt w B i.mx i.vx xs
  sy : SmAt w B i.my i.vy ys
  len : ys.length = xs.length
  nd : i.all.Nodup
  hB : B ≤ i.mb
theorem BmAt.chg {S : List Nat} {w w' : World} {B : Nat} {i : BM} {xs ys : List Datum} (h : BmAt w B i xs ys) (hx : Chg S w w') (hS : ∀ k, k ∈ i.all → k ∉ S) : BmAt w' B i xs ys :=
  ⟨hx.heap h.hb (hS _ (by simp [BM.all])), h.sx.chg hx (hS _ (by simp [BM.all])) (fun g hg => hS g (by simp [BM.all, hg])), h.sy.chg hx (hS _ (by simp [BM.all])) (fun g hg => hS g (by simp [BM.all, hg])), h.len, h.nd, h.hB⟩
theorem BmAt.ext {w w' : World} {B : Nat} {i : BM} {xs ys : List Datum} (h : BmAt w B i xs ys) (hx : Ext w w') : BmAt w' B i xs ys := h.chg (S := []) (Chg.of_ext hx) (by simp)
theorem BmAt.lt {w : World} {B : Nat} {i : BM} {xs ys : List Datum} (h : BmAt w B i xs ys) : ∀ k, k ∈ i.all → k < w.heap.size ∧ B ≤ k := by
  intro k hk
  have h1 := lt_of_heap h.hb
  have h2 := h.sx.lt
  have h3 := h.sy.lt
  have h4 := h.sx.hB
  have h5 := h.sy.hB
  have h6 := h.hB
  simp only [BM.all, List.mem_cons, List.mem_append] at hk
  rcases hk with rfl | rfl | rfl | hk | hk
  · exact ⟨h1, h6⟩
  · exact ⟨h2.1, h4⟩
  · exact ⟨h3.1, h5⟩
  · exact h2.2 k hk
  · exact h3.2 k hk
/-- What is apart. -/
theorem BmAt.ap {w : World} {B : Nat} {i : BM} {xs ys : List Datum} (h : BmAt w B i xs ys) : i.mb ≠ i.mx ∧ i.mb ≠ i.my ∧ i.mx ≠ i.my ∧ i.mb ∉ blk i.vx ∧ i.mb ∉ blk i.vy ∧ i.mx ∉ blk i.vx ∧ i.mx ∉ blk i.vy ∧ i.my ∉ blk i.vx ∧ i.my ∉ blk i.vy ∧ (∀ g, g ∈ blk i.vx → g ∉ blk i.vy) ∧ (blk i.vx).Nodup ∧ (blk i.vy).Nodup := by
  have := h.nd
  simp only [BM.all, List.nodup_cons, List.mem_cons, List.mem_append, not_or, List.nodup_append] at this
  obtain ⟨⟨a1, a2, a3, a4⟩, ⟨b1, b2, b3⟩, ⟨c1, c2⟩, d1, d2, d3⟩ := this
  exact ⟨a1, a2, b1, a3, a4, b2, b3, c1, c2, fun g hg hg' => d3 g hg g hg' rfl, d1, d2⟩
theorem blk_nodup (v : Value) : (blk v).Nodup := by
  unfold blk
  cases v.ownBlock <;> simp
theorem BM.nd_of {i : BM} (h1 : i.mb ≠ i.mx) (h2 : i.mb ≠ i.my) (h3 : i.mx ≠ i.my) (h4 : i.mb ∉ blk i.vx) (h5 : i.mb ∉ blk i.vy) (h6 : i.mx ∉ blk i.vx) (h7 : i.mx ∉ blk i.vy) (h8 : i.my ∉ blk i.vx) (h9 : i.my ∉ blk i.vy) (h10 : ∀ g, g ∈ blk i.vx → g ∉ blk i.vy) : i.all.Nodup := by
  simp only [BM.all, List.nodup_cons, List.mem_cons, List.mem_append, not_or, List.nodup_append]
  exact ⟨⟨h1, h2, h4, h5⟩, ⟨h3, h6, h7⟩, ⟨h8, h9⟩, blk_nodup _, blk_nodup _, fun a ha b hb e => h10 a ha (by rw [e]; exact hb)⟩
set_option maxHeartbeats 1000000 in
theorem bmnew_any (w : World) (B : Nat) (hB : B ≤ w.heap.size) : Calls Try.prog 60 #[] w fun e w' => ∃ i : BM, e = .returned (.pointer (some ⟨i.mb, 0, none⟩)) ∧ BmAt w' B i [] [] ∧ (∀ k, k ∈ i.all → w.heap.size ≤ k) ∧ Ext w w' := by
  go_enter Try.func60, Try.ntmps60
  go_wp2_with fail
  refine (smnew_any _).mono ?_
  rintro e w1 ⟨rfl, hw1⟩
  have H1 : Hid (w1 = w.alloc (.cells #[.slice none 0 0, .int .i64 0] 106)) := hw1
  clear hw1
  go_wp2_with fail
  refine (smnew_any _).mono ?_
  rintro e w2 ⟨rfl, hw2⟩
  have H2 : Hid (w2 = w1.alloc (.cells #[.slice none 0 0, .int .i64 0] 106)) := hw2
  clear hw2
  go_wp2
  go_ret
  have e1 : w1.heap.size = w.heap.size + 1 := by rw [H1.out]; exact World.size_alloc _ _
  have e2 : w2.heap.size = w.heap.size + 2 := by rw [H2.out, World.size_alloc, e1]
  have z1 : w2.heap[w.heap.size]? = some (.cells #[.slice none 0 0, .int .i64 0] 106) := by rw [H2.out]; exact heap_alloc_lt (by rw [H1.out]; exact heap_alloc_new w _)
  have z2 : w2.heap[w1.heap.size]? = some (.cells #[.slice none 0 0, .int .i64 0] 106) := by rw [H2.out]; exact heap_alloc_new w1 _
  have x2 : Ext w w2 := by rw [H2.out, H1.out]; exact ((Ext.refl w).alloc _).alloc _
  refine ⟨⟨w2.heap.size, w.heap.size, w1.heap.size, .slice none 0 0, .slice none 0 0⟩, rfl, ⟨heap_alloc_new w2 _, (sm_fresh (heap_alloc_lt z1) hB), sm_fresh (heap_alloc_lt z2) (by show B ≤ w1.heap.size; omega), rfl, ?_, by show B ≤ w2.heap.size; omega⟩, ?_, x2.alloc _⟩
  · refine BM.nd_of ?_ ?_ ?_ ?_ ?_ ?_ ?_ ?_ ?_ ?_ <;> simp [blk, Value.ownBlock] <;> omega
  · intro k hk
    simp [BM.all, blk, Value.ownBlock] at hk
    omega
set_option maxHeartbeats 400000 in
theorem bmlen_any (w : World) (B : Nat) (i : BM) (xs ys : List Datum) (h : BmAt w B i xs ys) : Calls Try.prog 81 #[.pointer (some ⟨i.mb, 0, none⟩)] w fun e w' => e = .returned (.int .i64 xs.length) ∧ Ext w w' := by
  have g0 : w.cell? ⟨i.mb, 0, none⟩ = some (.pointer (some ⟨i.mx, 0, none⟩)) := cell_of h.hb 0
  go_enter Try.func81, Try.ntmps81
  go_wp2_with fail
  refine (smlen_any w B i.mx i.vx xs h.sx).mono ?_
  rintro e w1 ⟨rfl, x1⟩
  go_wp2
  go_ret
  exact ⟨rfl, x1⟩
set_option maxHeartbeats 400000 in
theorem bmadd_full (w : World) (B : Nat) (i : BM) (xs ys : List Datum) (a b c : Int) (h : BmAt w B i xs ys) (h8 : xs.length = 8) : Calls Try.prog 79 #[.pointer (some ⟨i.mb, 0, none⟩), .int .i64 a, .int .i64 b, .int .i64 c] w fun e w' => e = .returned (.int .i64 1) ∧ Ext w w' := by
  have g0 : w.cell? ⟨i.mb, 0, none⟩ = some (.pointer (some ⟨i.mx, 0, none⟩)) := cell_of h.hb 0
  go_enter Try.func79, Try.ntmps79
  go_wp2_with fail
  refine (smlen_any w B i.mx i.vx xs h.sx).mono ?_
  rintro e w1 ⟨rfl, x1⟩
  rw [h8]
  go_wp2
  go_ret
  exact ⟨rfl, x1⟩
set_option maxHeartbeats 1000000 in
theorem bmadd_ok (w : World) (B : Nat) (i : BM) (xs ys : List Datum) (a b c : Int) (h : BmAt w B i xs ys) (h8 : xs.length < 8) : Calls Try.prog 79 #[.pointer (some ⟨i.mb, 0, none⟩), .int .i64 a, .int .i64 b, .int .i64 c] w fun e w' => e = .returned (.int .i64 0) ∧ ∃ i' : BM, i'.mb = i.mb ∧ BmAt w' B i' (xs ++ [Pl.ratio a c]) (ys ++ [Pl.ratio b c]) ∧ Chg i.all w w' ∧ ∀ k, k ∈ i'.all → k ∈ i.all ∨ w.heap.size ≤ k := by
  have H : Hid (BmAt w B i xs ys) := h
  have g0 : w.cell? ⟨i.mb, 0, none⟩ = some (.pointer (some ⟨i.mx, 0, none⟩)) := cell_of h.hb 0
  have hd : decide ((8 : Int) ≤ (xs.length : Int)) = false := decide_eq_false (by omega)
  clear h
  go_enter Try.func79, Try.ntmps79
  go_wp2_with fail
  refine (smlen_any w B i.mx i.vx xs H.out.sx).mono ?_
  rintro e w1 ⟨rfl, x1⟩
  have H1 : Hid (BmAt w1 B i xs ys ∧ Ext w w1) := ⟨H.out.ext x1, x1⟩
  have g1 : w1.cell? ⟨i.mb, 0, none⟩ = some (.pointer (some ⟨i.mx, 0, none⟩)) := cell_of H1.out.1.hb 0
  clear x1
  go_wp2_with fail
  refine (smpush_ok w1 B i.mx i.vx xs a c H1.out.1.sx h8).mono ?_
  rintro e w2 ⟨rfl, vx', sx', cx', fx'⟩
  obtain ⟨p1, p2, p3, p4, p5, p6, p7, p8, p9, p10, _, _⟩ := H1.out.1.ap
  have hb2 := cx'.heap H1.out.1.hb (by simp only [List.mem_cons, not_or]; exact ⟨p1, p4⟩)
  have sy2 := H1.out.1.sy.chg cx' (by simp only [List.mem_cons, not_or]; exact ⟨Ne.symm p3, p8⟩) (fun g hg => by simp only [List.mem_cons, not_or]; exact ⟨fun e => p7 (by rw [← e]; exact hg), fun hg' => p10 g hg' hg⟩)
  have H2 : Hid (SmAt w2 B i.mx vx' (xs ++ [Pl.ratio a c]) ∧ SmAt w2 B i.my i.vy ys ∧ w2.heap[i.mb]? = some (.cells #[.pointer (some ⟨i.mx, 0, none⟩), .pointer (some ⟨i.my, 0, none⟩)] 112) ∧ Chg (i.mx :: blk i.vx) w1 w2 ∧ ∀ g, g ∈ blk vx' → g ∈ blk i.vx ∨ w1.heap.size ≤ g) := ⟨sx', sy2, hb2, cx', fx'⟩
  have g2 : w2.cell? ⟨i.mb, 1, none⟩ = some (.pointer (some ⟨i.my, 0, none⟩)) := cell_of hb2 1
  clear sx' cx' fx' hb2 sy2 p1 p2 p3 p4 p5 p6 p7 p8 p9 p10
  go_wp2_with fail
  refine (smpush_ok w2 B i.my i.vy ys b c H2.out.2.1 (by rw [H.out.len]; exact h8)).mono ?_
  rintro e w3 ⟨rfl, vy', sy', cy', fy'⟩
  have H3 : Hid (SmAt w3 B i.my vy' (ys ++ [Pl.ratio b c]) ∧ Chg (i.my :: blk i.vy) w2 w3 ∧ ∀ g, g ∈ blk vy' → g ∈ blk i.vy ∨ w2.heap.size ≤ g) := ⟨sy', cy', fy'⟩
  clear sy' cy' fy'
  go_wp2
  go_ret
  obtain ⟨h1, x1⟩ := H1.out
  obtain ⟨p1, p2, p3, p4, p5, p6, p7, p8, p9, p10, _, _⟩ := h1.ap
  obtain ⟨sx2, sy2, hb2, cx, fx⟩ := H2.out
  obtain ⟨sy3, cy, fy⟩ := H3.out
  have s1 := x1.size
  have s2 := cx.size
  have s3 := cy.size
  have l1 := h1.lt
  have lx := sx2.lt
  have ly := sy2.lt
  have hbl : i.mb < w1.heap.size := (l1 i.mb (by simp [BM.all])).1
  have hmxl : i.mx < w1.heap.size := (l1 i.mx (by simp [BM.all])).1
  have hmyl : i.my < w1.heap.size := (l1 i.my (by simp [BM.all])).1
  have hvy : ∀ g, g ∈ blk i.vy → g < w1.heap.size := fun g hg => (l1 g (by simp [BM.all, hg])).1
  have hvx : ∀ g, g ∈ blk i.vx → g < w1.heap.size := fun g hg => (l1 g (by simp [BM.all, hg])).1
  have hxn : ∀ g, g ∈ blk vx' → g ≠ i.my ∧ g ≠ i.mb ∧ g ∉ blk i.vy := fun g hg => by
    rcases fx g hg with h | h
    · exact ⟨fun e => p8 (e ▸ h), fun e => p4 (e ▸ h), p10 g h⟩
    · exact ⟨by omega, by omega, fun h' => by have := hvy g h'; omega⟩
  have sx3 : SmAt w3 B i.mx vx' (xs ++ [Pl.ratio a c]) := sx2.chg cy (by simp only [List.mem_cons, not_or]; exact ⟨p3, p7⟩) (fun g hg => by simp only [List.mem_cons, not_or]; exact ⟨(hxn g hg).1, (hxn g hg).2.2⟩)
  have hyn : ∀ g, g ∈ blk vy' → g ≠ i.mx ∧ g ≠ i.mb ∧ g ∉ blk vx' := fun g hg => by
    rcases fy g hg with h | h
    · exact ⟨fun e => p7 (e ▸ h), fun e => p5 (e ▸ h), fun h' => (hxn g h').2.2 h⟩
    · exact ⟨by omega, by omega, fun h' => by have := (lx.2 g h').1; omega⟩
  refine ⟨rfl, ⟨i.mb, i.mx, i.my, vx', vy'⟩, rfl, ⟨cy.heap hb2 (by simp only [List.mem_cons, not_or]; exact ⟨p2, p5⟩), sx3, sy3, by simp [h1.len], BM.nd_of p1 p2 p3 (fun h => (hxn _ h).2.1 rfl) (fun h => (hyn _ h).2.1 rfl) sx3.ne (fun h => (hyn _ h).1 rfl) (fun h => (hxn _ h).1 rfl) sy3.ne (fun g hg hg' => (hyn g hg').2.2 hg), h1.hB⟩, ?_, ?_⟩
  · refine (Chg.of_ext x1).trans ((cx.mono ?_).trans (cy.mono ?_))
    · intro k hk; simp only [List.mem_cons] at hk; simp only [BM.all, List.mem_cons, List.mem_append]; rcases hk with rfl | hk <;> simp [*]
    · intro k hk; simp only [List.mem_cons] at hk; simp only [BM.all, List.mem_cons, List.mem_append]; rcases hk with rfl | hk <;> simp [*]
  · intro k hk
    simp only [BM.all, List.mem_cons, List.mem_append] at hk ⊢
    rcases hk with rfl | rfl | rfl | hk | hk
    · simp
    · simp
    · simp
    · rcases fx k hk with h | h
      · left; simp [h]
      · right; omega
    · rcases fy k hk with h | h
      · left; simp [h]
      · right; omega
set_option maxHeartbeats 400000 in
theorem bmdrop_none (w : World) (B : Nat) (i : BM) (ys : List Datum) (h : BmAt w B i [] ys) : Calls Try.prog 80 #[.pointer (some ⟨i.mb, 0, none⟩)] w fun e w' => e = .returned (.int .i64 2) ∧ Ext w w' := by
  have g0 : w.cell? ⟨i.mb, 0, none⟩ = some (.pointer (some ⟨i.mx, 0, none⟩)) := cell_of h.hb 0
  go_enter Try.func80, Try.ntmps80
  go_wp2_with fail
  refine (smlen_any w B i.mx i.vx [] h.sx).mono ?_
  rintro e w1 ⟨rfl, x1⟩
  go_wp2
  go_ret
  exact ⟨rfl, x1⟩
set_option maxHeartbeats 1000000 in
theorem bmdrop_some (w : World) (B : Nat) (i : BM) (xs ys : List Datum) (h : BmAt w B i xs ys) (hn : 0 < xs.length) : Calls Try.prog 80 #[.pointer (some ⟨i.mb, 0, none⟩)] w fun e w' => e = .returned (.int .i64 0) ∧ ∃ i' : BM, i'.mb = i.mb ∧ BmAt w' B i' xs.dropLast ys.dropLast ∧ Chg i.all w w' ∧ ∀ k, k ∈ i'.all → k ∈ i.all ∨ w.heap.size ≤ k := by
  have H : Hid (BmAt w B i xs ys) := h
  have g0 : w.cell? ⟨i.mb, 0, none⟩ = some (.pointer (some ⟨i.mx, 0, none⟩)) := cell_of h.hb 0
  have hz : ((xs.length : Int) == 0) = false := beq_eq_false_iff_ne.2 (by omega)
  clear h
  go_enter Try.func80, Try.ntmps80
  go_wp2_with fail
  refine (smlen_any w B i.mx i.vx xs H.out.sx).mono ?_
  rintro e w1 ⟨rfl, x1⟩
  have H1 : Hid (BmAt w1 B i xs ys ∧ Ext w w1) := ⟨H.out.ext x1, x1⟩
  have g1 : w1.cell? ⟨i.mb, 0, none⟩ = some (.pointer (some ⟨i.mx, 0, none⟩)) := cell_of H1.out.1.hb 0
  clear x1
  go_wp2_with fail
  refine (smpop_some w1 B i.mx i.vx xs H1.out.1.sx hn).mono ?_
  rintro e w2 ⟨rfl, vx', sx', cx', bx'⟩
  obtain ⟨p1, p2, p3, p4, p5, p6, p7, p8, p9, p10, _, _⟩ := H1.out.1.ap
  have hb2 := cx'.heap H1.out.1.hb (by simpa using p1)
  have sy2 := H1.out.1.sy.chg cx' (by simpa using Ne.symm p3) (fun g hg => by simp only [List.mem_singleton]; exact fun e => p7 (by rw [← e]; exact hg))
  have H2 : Hid (SmAt w2 B i.mx vx' xs.dropLast ∧ SmAt w2 B i.my i.vy ys ∧ w2.heap[i.mb]? = some (.cells #[.pointer (some ⟨i.mx, 0, none⟩), .pointer (some ⟨i.my, 0, none⟩)] 112) ∧ Chg [i.mx] w1 w2 ∧ blk vx' = blk i.vx) := ⟨sx', sy2, hb2, cx', bx'⟩
  have g2 : w2.cell? ⟨i.mb, 1, none⟩ = some (.pointer (some ⟨i.my, 0, none⟩)) := cell_of hb2 1
  clear sx' cx' bx' hb2 sy2 p1 p2 p3 p4 p5 p6 p7 p8 p9 p10
  go_wp2_with fail
  refine (smpop_some w2 B i.my i.vy ys H2.out.2.1 (by rw [H.out.len]; exact hn)).mono ?_
  rintro e w3 ⟨rfl, vy', sy', cy', by'⟩
  have H3 : Hid (SmAt w3 B i.my vy' ys.dropLast ∧ Chg [i.my] w2 w3 ∧ blk vy' = blk i.vy) := ⟨sy', cy', by'⟩
  clear sy' cy' by'
  go_wp2
  go_ret
  obtain ⟨h1, x1⟩ := H1.out
  obtain ⟨p1, p2, p3, p4, p5, p6, p7, p8, p9, p10, _, _⟩ := h1.ap
  obtain ⟨sx2, sy2, hb2, cx, bx⟩ := H2.out
  obtain ⟨sy3, cy, bY⟩ := H3.out
  have sx3 : SmAt w3 B i.mx vx' xs.dropLast := sx2.chg cy (by simpa using p3) (fun g hg => by simp only [List.mem_singleton]; rw [bx] at hg; exact fun e => p8 (by rw [← e]; exact hg))
  refine ⟨rfl, ⟨i.mb, i.mx, i.my, vx', vy'⟩, rfl, ⟨cy.heap hb2 (by simpa using p2), sx3, sy3, by simp [h1.len], BM.nd_of p1 p2 p3 (by rw [bx]; exact p4) (by rw [bY]; exact p5) sx3.ne (by rw [bY]; exact p7) (by rw [bx]; exact p8) sy3.ne (by rw [bx, bY]; exact p10), h1.hB⟩, ?_, ?_⟩
  · refine (Chg.of_ext x1).trans ((cx.mono ?_).trans (cy.mono ?_)) <;> simp [BM.all]
  · intro k hk
    left
    simp only [BM.all, bx, bY] at hk ⊢
    exact hk
end Go.Proofs.Qxb6500343a
