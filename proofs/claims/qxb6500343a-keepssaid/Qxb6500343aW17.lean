/-
  Walks 17: the box's Check.
-/
import Derived.Test.Qxb6500343aW16
import Derived.LaidEqlPtr
namespace Go.Proofs.Qxb6500343a
open Go.RowKit
open Go.Proofs
open Ieee (Datum)
open Fl
open Tx (st)
open Ff (in64)
set_option linter.unusedSimpArgs false
set_option linter.unusedVariables false
attribute [local go_sem] run_fadd run_fsub run_fmul run_fquo run_store_float alloc_drewN setCell_drewN shape?_drewN tape_alloc drawn_alloc tape_setCell drawn_setCell drawn_drewN drawn_drew run_fneg

theorem rd_num (k : FloatKind) (s : Bool) (m : Nat) (e : Int) : (rd k (.number s m e)).isNaN = false := by
  rw [Ff.rd_number]
  split
  · obtain ⟨m1, e1, v1, _⟩ := Ff.val_mag k.format s (Ff.rung k.format m e)
    rw [v1]; rfl
  · rfl
/-- One over a number is a number. -/
theorem inv_num (k : FloatKind) (m : Nat) (e : Int) (hm : m ≠ 0) (d : Datum) (h : d.isNaN = false) : (div k (.number false m e) d).isNaN = false := by
  unfold div
  cases d with
  | nan s t => cases h
  | infinity s =>
    show (ar k (some (.number (false ^^ s) 0 0))).isNaN = false
    exact rd_num k _ _ _
  | number s n j =>
    unfold Datum.quotient
    simp only
    split
    · (try rw [if_neg hm])
      unfold ar
      simp only
      rw [Ff.rd_inf]; rfl
    · exact rd_num k _ _ _
theorem oo (k : FloatKind) (a : Nat) : (k.format.order a a == some .eq) = !(V k a).isNaN := by rw [order_V]; exact Pl.eq_self _
theorem one32_num : Pl.one32 = .number false 8388608 (-23) := Ff.o32
set_option maxHeartbeats 1000000 in
theorem same32_any (a b : Nat) (w : World) (h : V .f32 a = V .f32 b) : Calls Try.prog 89 #[.float .f32 a, .float .f32 b] w fun e w' => e = .returned (.bool true) ∧ Ext w w' := by
  have ha := oo .f32 a
  have hb := oo .f32 b
  rw [← h] at hb
  cases hn : (V .f32 a).isNaN
  · rw [hn] at ha hb
    have ha' : (FloatKind.f32.format.order a a != some .eq) = false := by rw [bne, ha]; rfl
    have hb' : (FloatKind.f32.format.order b b != some .eq) = false := by rw [bne, hb]; rfl
    have z1 : (FloatKind.f32.format.order a 0 == some .eq) = eq (V .f32 a) Pl.zero32 := by rw [order_V]; rfl
    have z2 : (FloatKind.f32.format.order b 0 == some .eq) = eq (V .f32 a) Pl.zero32 := by rw [order_V, ← h]; rfl
    cases hz : eq (V .f32 a) Pl.zero32
    · rw [hz] at z1 z2
      have hab : (FloatKind.f32.format.order a b == some .eq) = true := by rw [order_V, ← h]; have := Pl.eq_self (V .f32 a); rw [hn] at this; exact this
      clear hz hn h ha hb
      go_enter Try.func89, Try.ntmps89
      go_wp2
      go_ret
      exact ⟨rfl, Ext.refl _⟩
    · rw [hz] at z1 z2
      have hq : ∀ τ n τ' n', (FloatKind.f32.format.order (fb .quo .f32 1065353216 a τ n) (fb .quo .f32 1065353216 b τ' n') == some .eq) = true := by
        intro τ n τ' n'
        rw [order_V, V_quo, V_quo, ← h]
        have h1 := Pl.eq_self (div .f32 (V .f32 1065353216) (V .f32 a))
        have h2 : V .f32 1065353216 = .number false 8388608 (-23) := one32_num
        rw [h2] at h1 ⊢
        rw [inv_num .f32 8388608 (-23) (by decide) _ hn] at h1
        exact h1
      clear hz hn h ha hb
      go_enter Try.func89, Try.ntmps89
      go_wp2
      go_ret
      exact ⟨rfl, (Ext.refl _).drewN _⟩
  · rw [hn] at ha hb
    have ha' : (FloatKind.f32.format.order a a != some .eq) = true := by rw [bne, ha]; rfl
    have hb' : (FloatKind.f32.format.order b b != some .eq) = true := by rw [bne, hb]; rfl
    clear hn h ha hb
    go_enter Try.func89, Try.ntmps89
    go_wp2
    go_ret
    exact ⟨rfl, Ext.refl _⟩
set_option maxHeartbeats 1000000 in
theorem sound_any (lo hi wd : Nat) (b : Bool) (d : Pl.AX) (hd : axV lo hi wd b d) (hs : Pl.SoundA d) (w : World) : Calls Try.prog 72 #[axC lo hi wd b] w fun e w' => e = .returned (.bool true) ∧ Ext w w' := by
  obtain ⟨d1, d2, d3, d4⟩ := hd
  obtain ⟨s1, s2, s3, s4⟩ := hs
  have HS : Hid (∀ τ n, V .f32 wd = V .f32 (fb .sub .f32 hi lo τ n)) := by
    intro τ n
    rw [V_sub, d1, d2, d3]; exact s1
  have hw : ∀ τ n, (FloatKind.f32.format.order (fb .add .f32 wd wd τ n) wd == some .eq) = !b := by
    intro τ n
    rw [order_V, V_add, d3, d4, s2, Bool.not_not]; rfl
  have hg : (FloatKind.f32.format.order lo hi == some .gt) = false := by rw [order_V, d1, d2]; exact s3
  have h1 := oo .f32 lo
  have h2 := oo .f32 hi
  rw [d1, s4] at h1
  rw [d2] at h2
  generalize d.hi.isNaN = t at *
  have h1' : (FloatKind.f32.format.order lo lo != some .eq) = t := by rw [bne, h1]; cases t <;> rfl
  have h2' : (FloatKind.f32.format.order hi hi != some .eq) = t := by rw [bne, h2]; cases t <;> rfl
  clear d1 d2 d3 d4 s1 s2 s3 s4 h1 h2
  unfold axC
  go_enter Try.func72, Try.ntmps72
  go_wp2_with fail
  refine (same32_any wd _ _ (HS.out _ _)).mono ?_
  rintro e w1 ⟨rfl, x1⟩
  have X1 : Hid (Ext w w1 ∧ w1.heap[w.heap.size]? = some (.cells #[.float .f32 lo, .float .f32 hi, .float .f32 wd, .bool b] 60)) := ⟨(((Ext.refl w).alloc _).drewN _).trans x1, x1.heap (((Ext.refl (w.alloc _)).drewN _).heap (heap_alloc_new w _))⟩
  have c0 : w1.cell? ⟨w.heap.size, 0, none⟩ = some (.float .f32 lo) := cell_of X1.out.2 0
  have c1 : w1.cell? ⟨w.heap.size, 1, none⟩ = some (.float .f32 hi) := cell_of X1.out.2 1
  have c2 : w1.cell? ⟨w.heap.size, 2, none⟩ = some (.float .f32 wd) := cell_of X1.out.2 2
  have c3 : w1.cell? ⟨w.heap.size, 3, none⟩ = some (.bool b) := cell_of X1.out.2 3
  clear x1
  cases b <;> cases t
  all_goals (go_wp2; go_ret; exact ⟨rfl, X1.out.1.drewN _⟩)
theorem run_equalIn_f32 (w : World) (d : Nat) (x y : Nat) : (Op.equalIn (d + 1) 35 (.float .f32 x) (.float .f32 y)).run Try.prog w = .ok (FloatKind.f32.format.order x y == some .eq) w := by
  simp [Op.equalIn, run_underlying Try.underlying35, Op.floatCmp]
  try rfl
theorem info97 : (Try.prog.info? 97).map (fun i => i.size) = some 2 := by kernel_rfl
theorem ptr_ne (w : World) {px Lx py Ly : Nat} {xs ys : List Pl.LD} (hx : SerAt w px Lx xs) (hy : SerAt w py Ly ys) (hne : px ≠ py) : (binOp .eql 25 (.pointer (some ⟨px, 0, none⟩)) (.pointer (some ⟨py, 0, none⟩))).run Try.prog w = .ok (.bool false) w := by
  obtain ⟨j, hj, hz⟩ := Option.map_eq_some_iff.1 info97
  exact run_eql_ptr_other w Try.underlying25 hj (by rw [hz]; decide) (by simp [hne]) hx.hp hy.hp
set_option maxRecDepth 100000 in
set_option maxHeartbeats 2000000 in
theorem check_any (w : World) (i : BId) (xs ys : List Datum) (h : BoxAt w i (Pl.lv xs) (Pl.lv ys)) : Calls Try.prog 41 #[.pointer (some ⟨i.b, 0, none⟩)] w fun e w' => e = .returned (.bool true) ∧ Ext w w' := by
  have HB : Hid (BoxAt w i (Pl.lv xs) (Pl.lv ys)) := h
  have hlen := h.sx.len
  have hl2 := h.len
  have hne : i.px ≠ i.py := by have := h.nd; simp [BId.all] at this; omega
  obtain ⟨xl, xh, xw, xb, yl, yh, yw, yb, hax, hay, hc⟩ := h.cells
  obtain ⟨g0, g1, _⟩ := hc w (Ext.refl _)
  have HC : Hid (axV xl xh xw xb (Pl.axisOf (Pl.lv xs)) ∧ axV yl yh yw yb (Pl.axisOf (Pl.lv ys))) := ⟨hax, hay⟩
  have HCC : Hid _ := hc
  have hpe := ptr_ne w.drew (h.sx.ext (Ext.refl w).drew) (h.sy.ext (Ext.refl w).drew) hne
  clear h hax hay hc
  go_enter Try.func41, Try.ntmps41
  go_wp2
  go_region
  go_wp2_with fail
  refine (slen_any _ i.px i.Lx (Pl.lv xs) (HB.out.sx.ext (Ext.refl w).drew)).mono ?_
  rintro e w1 ⟨rfl, x1⟩
  replace x1 := (Ext.refl w).drew.trans x1
  obtain ⟨g0, g1, g2, _⟩ := HCC.out w1 x1
  clear hpe
  go_wp2_with fail
  refine (slen_any _ i.py i.Ly (Pl.lv ys) (HB.out.sy.ext x1)).mono ?_
  rintro e w2 ⟨rfl, x2⟩
  replace x2 := x1.trans x2
  rw [hl2]
  obtain ⟨_, _, g2, g3, g4, g5, g6, g7, g8, g9, g10⟩ := HCC.out w2 x2
  have HX2 : Hid (Ext w w2) := x2
  clear x1 x2
  have HN : Hid ((Pl.lv xs).length = xs.length ∧ (Pl.lv ys).length = ys.length ∧ (Pl.lv ys).length = (Pl.lv xs).length) := ⟨Pl.lv_len xs, Pl.lv_len ys, hl2⟩
  clear hl2
  generalize (Pl.lv xs).length = n at *
  have q1 : decide ((n : Int) < 0) = false := decide_eq_false (by omega)
  have q2 : decide ((8 : Int) < (n : Int)) = false := decide_eq_false (by omega)
  by_cases hn : n = 0
  · have hx : xs = [] := List.length_eq_zero_iff.1 (by have := HN.out; omega)
    have hy : ys = [] := List.length_eq_zero_iff.1 (by have := HN.out; omega)
    subst hn hx hy
    have zz : ∀ r, V .f32 r = Pl.zero32 → (FloatKind.f32.format.order r 0 == some .eq) = true := by
      intro r hr
      rw [order_V, hr]; decide +kernel
    obtain ⟨⟨a1, a2, a3, a4⟩, ⟨b1, b2, b3, b4⟩⟩ := HC.out
    have z1 := zz _ a1
    have z2 := zz _ a2
    have z3 := zz _ a3
    have z4 := zz _ b1
    have z5 := zz _ b2
    have z6 := zz _ b3
    have e4 : xb = false := a4
    have e5 : yb = false := b4
    subst e4 e5
    have y1 : ∀ wx, (Op.equalIn 9999 35 (.float .f32 xl) (.float .f32 0)).run Try.prog wx = .ok true wx := fun wx => by rw [run_equalIn_f32 wx 9998, z1]
    have y2 : ∀ wx, (Op.equalIn 9999 35 (.float .f32 xh) (.float .f32 0)).run Try.prog wx = .ok true wx := fun wx => by rw [run_equalIn_f32 wx 9998, z2]
    have y3 : ∀ wx, (Op.equalIn 9999 35 (.float .f32 xw) (.float .f32 0)).run Try.prog wx = .ok true wx := fun wx => by rw [run_equalIn_f32 wx 9998, z3]
    have y4 : ∀ wx, (Op.equalIn 9999 35 (.float .f32 yl) (.float .f32 0)).run Try.prog wx = .ok true wx := fun wx => by rw [run_equalIn_f32 wx 9998, z4]
    have y5 : ∀ wx, (Op.equalIn 9999 35 (.float .f32 yh) (.float .f32 0)).run Try.prog wx = .ok true wx := fun wx => by rw [run_equalIn_f32 wx 9998, z5]
    have y6 : ∀ wx, (Op.equalIn 9999 35 (.float .f32 yw) (.float .f32 0)).run Try.prog wx = .ok true wx := fun wx => by rw [run_equalIn_f32 wx 9998, z6]
    clear a1 a2 a3 a4 b1 b2 b3 b4 zz z1 z2 z3 z4 z5 z6
    go_wp2
    go_ret
    exact ⟨rfl, HX2.out⟩
  · have hz : ((n : Int) == 0) = false := beq_eq_false_iff_ne.2 (by omega)
    have hx : xs ≠ [] := fun h => hn (HN.out.1.trans (by rw [h]; rfl))
    have hy : ys ≠ [] := fun h => hn (HN.out.2.2.symm.trans (HN.out.2.1.trans (by rw [h]; rfl)))
    have HS : Hid (Pl.SoundA (Pl.axisOf (Pl.lv xs)) ∧ Pl.SoundA (Pl.axisOf (Pl.lv ys))) := ⟨Pl.sound_lv xs hx, Pl.sound_lv ys hy⟩
    clear hx hy
    go_wp2_with fail
    refine (sound_any xl xh xw xb _ HC.out.1 HS.out.1 w2).mono ?_
    rintro e w3 ⟨rfl, x3⟩
    have X3 : Hid (Ext w w3) := HX2.out.trans x3
    obtain ⟨_, _, g2, g3, g4, g5, g6, g7, g8, g9, g10⟩ := HCC.out w3 X3.out
    clear x3
    go_wp2_with fail
    refine (sound_any yl yh yw yb _ HC.out.2 HS.out.2 w3).mono ?_
    rintro e w4 ⟨rfl, x4⟩
    have X4 : Hid (Ext w w4) := X3.out.trans x4
    clear x4
    go_wp2
    go_ret
    exact ⟨rfl, X4.out⟩
end Go.Proofs.Qxb6500343a
