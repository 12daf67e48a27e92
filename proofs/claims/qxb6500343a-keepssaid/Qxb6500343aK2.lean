/-
  Walks of Keeps 2: sums, means, At, Whole.
-/
import Derived.Test.Qxb6500343aK1
namespace Go.Proofs.Qxb6500343a
open Go.RowKit
open Go.Proofs
open Ieee (Datum)
open Fl
open Tx (st)
open Ff (in64)
set_option linter.unusedSimpArgs false
set_option linter.unusedVariables false
attribute [local go_sem] run_fadd run_fsub run_fmul run_fquo run_store_float alloc_drewN setCell_drewN shape?_drewN tape_alloc drawn_alloc tape_setCell drawn_setCell drawn_drewN drawn_drew run_fneg

namespace Pl
def sumL (xs : List Datum) : Datum := xs.foldl (fun t x => add .f64 t x) zero64
theorem sumL_snoc (xs : List Datum) (x : Datum) : sumL (xs ++ [x]) = add .f64 (sumL xs) x := by simp [sumL, List.foldl_append]
theorem lv_sum (xs : List Datum) : ∀ d, (lv xs).getLast? = some d → d.s = sumL xs := by
  induction xs using snoc_ind with
  | h0 => intro d h; simp [lv] at h
  | h1 ys y ih =>
    intro d h
    rw [lv_snoc, List.getLast?_concat] at h
    cases h
    rw [sumL_snoc]
    unfold next
    cases hl : (lv ys).getLast? with
    | none =>
      have : lv ys = [] := List.getLast?_eq_none_iff.1 hl
      have hy : ys = [] := List.length_eq_zero_iff.1 (by rw [← lv_len, this]; rfl)
      subst hy
      rfl
    | some t =>
      show add .f64 t.s y = _
      rw [ih t hl]
def mean (xs : List Datum) : Datum := div .f64 (sumL xs) (ofInt .f64 xs.length)
end Pl
set_option maxHeartbeats 1000000 in
theorem ssum_none (w : World) (p L : Nat) (h : SerAt w p L []) : Calls Try.prog 74 #[.pointer (some ⟨p, 0, none⟩)] w fun e w' => ∃ r, e = .returned (.float .f64 r) ∧ V .f64 r = Pl.zero64 ∧ Ext w w' := by
  have g1 : w.cell? ⟨p, 1, none⟩ = some (.int .i64 0) := cell_of h.hp 1
  clear h
  go_enter Try.func74, Try.ntmps74
  go_wp2
  go_ret
  exact ⟨_, rfl, rfl, Ext.refl _⟩
set_option maxHeartbeats 1000000 in
theorem ssum_some (w : World) (p L m : Nat) (ls : List Pl.LD) (d : Pl.LD) (h : SerAt w p L ls) (hm : ls.length = m + 1) (hd : ls[m]? = some d) :
    Calls Try.prog 74 #[.pointer (some ⟨p, 0, none⟩)] w fun e w' => ∃ r, e = .returned (.float .f64 r) ∧ V .f64 r = d.s ∧ Ext w w' := by
  obtain ⟨hp, ⟨C, hL, hC, hl⟩, hlen, hne⟩ := h
  obtain ⟨x0, s0, l0, h0, c0, c1, c2, c3, hv0⟩ := hl m d hd
  have HV0 : Hid (lvV x0 s0 l0 h0 d) := hv0
  rw [hm] at hp
  have g0 : ∀ w', Ext w w' → w'.cell? ⟨p, 0, none⟩ = some (.slice (some ⟨L, 0, none⟩) 8 8) := fun w' h => cell_of (h.heap hp) 0
  have g1 : ∀ w', Ext w w' → w'.cell? ⟨p, 1, none⟩ = some (.int .i64 ((m : Int) + 1)) := fun w' h => cell_of (h.heap hp) 1
  have k1 : ∀ w', Ext w w' → w'.cell? ⟨L, m * 4 + 1, none⟩ = some (.float .f64 s0) := fun w' h => (cell_of (h.heap hL) _).trans c1
  have hx0 := Ext.refl w
  have i1 : IntKind.i64.wrap (m : Int) = m := by rw [IntKind.wrap_i64]; omega
  have i2 : (m : Int) < 8 := by omega
  have hz : ((m : Int) + 1 == 0) = false := by simp; omega
  clear hv0 hm c0 c1 c2 c3 hd
  go_enter Try.func74, Try.ntmps74
  go_wp2
  refine Calm.region 13 0 (fun _ => false) (Ext w) (by kernel_rfl) (by kernel_rfl) hx0.drew ?_
  simp only [List.take, List.drop]
  repeat (first
    | (refine Calm.walk_move _ (by first | exact .inl rfl | exact .inr rfl) rfl rfl ?_; simp only [Act.put, List.setIfInBounds_toArray, List.set, Act.eval, List.getD_toArray, List.getD_cons_zero, List.getD_cons_succ])
    | (apply Calm.walk_value; rfl; rfl; (intro w' hw'; simp [go_sem, hw', g0, g1, k1, i1, i2]; rfl); simp only [Act.put, List.setIfInBounds_toArray, List.set]))
  show ∀ w', _
  intro w2 hx2
  go_wp2
  go_ret
  exact ⟨_, rfl, HV0.out.2.1, hx2⟩
set_option maxHeartbeats 1000000 in
theorem smean_some (w : World) (p L m : Nat) (ls : List Pl.LD) (d : Pl.LD) (h : SerAt w p L ls) (hm : ls.length = m + 1) (hd : ls[m]? = some d) :
    Calls Try.prog 75 #[.pointer (some ⟨p, 0, none⟩)] w fun e w' => ∃ r, e = .returned (.tuple #[.float .f64 r, .int .i64 0]) ∧ V .f64 r = div .f64 d.s (ofInt .f64 ((m : Int) + 1)) ∧ Ext w w' := by
  obtain ⟨hp, ⟨C, hL, hC, hl⟩, hlen, hne⟩ := h
  obtain ⟨x0, s0, l0, h0, c0, c1, c2, c3, hv0⟩ := hl m d hd
  have HV0 : Hid (lvV x0 s0 l0 h0 d) := hv0
  rw [hm] at hp
  have g0 : ∀ w', Ext w w' → w'.cell? ⟨p, 0, none⟩ = some (.slice (some ⟨L, 0, none⟩) 8 8) := fun w' h => cell_of (h.heap hp) 0
  have g1 : ∀ w', Ext w w' → w'.cell? ⟨p, 1, none⟩ = some (.int .i64 ((m : Int) + 1)) := fun w' h => cell_of (h.heap hp) 1
  have k1 : ∀ w', Ext w w' → w'.cell? ⟨L, m * 4 + 1, none⟩ = some (.float .f64 s0) := fun w' h => (cell_of (h.heap hL) _).trans c1
  have hx0 := Ext.refl w
  have i1 : IntKind.i64.wrap (m : Int) = m := by rw [IntKind.wrap_i64]; omega
  have i2 : (m : Int) < 8 := by omega
  have hz : ((m : Int) + 1 == 0) = false := by simp; omega
  clear hv0 hm c0 c1 c2 c3 hd
  go_enter Try.func75, Try.ntmps75
  go_wp2
  refine Calm.region 20 0 (fun o => o.dst == some 26) (Ext w) (by kernel_rfl) (by kernel_rfl) hx0.drew ?_
  simp only [List.take, List.drop]
  repeat (first
    | (refine Calm.walk_move _ (by first | exact .inl rfl | exact .inr rfl) rfl rfl ?_; simp only [Act.put, List.setIfInBounds_toArray, List.set, Act.eval, List.getD_toArray, List.getD_cons_zero, List.getD_cons_succ])
    | (refine Calm.walk_loud (F := fun w' => .float .f64 (fb .quo .f64 s0 (floatOfInt .f64 ((m : Int) + 1)) w'.tape w'.drawn)) (N := fun _ => fn .quo .f64 s0 (floatOfInt .f64 ((m : Int) + 1))) (fun v => ∃ r, v = .float .f64 r ∧ V .f64 r = div .f64 d.s (ofInt .f64 ((m : Int) + 1))) rfl rfl (fun w' hw' => by simp [go_sem]) (fun w' hw' => ⟨hw'.drewN _, _, rfl, by rw [V_quo, HV0.out.2.1]; rfl⟩) ?_; rintro v ⟨r, rfl, hr⟩; simp only [Act.put, List.setIfInBounds_toArray, List.set])
    | (apply Calm.walk_value; rfl; rfl; (intro w' hw'; simp [go_sem, hw', g0, g1, k1, i1, i2]; rfl); simp only [Act.put, List.setIfInBounds_toArray, List.set]))
  show ∀ w', _
  intro w2 hx2
  have HR : Hid _ := hr
  clear hr
  go_wp2
  go_ret2
  exact ⟨_, rfl, HR.out, hx2⟩
set_option maxHeartbeats 1000000 in
theorem smat_in (w : World) (B m : Nat) (v : Value) (xs : List Datum) (i : Nat) (h : SmAt w B m v xs) (hi : i < xs.length) : Calls Try.prog 51 #[.pointer (some ⟨m, 0, none⟩), .int .i64 i] w fun e w' => ∃ r, e = .returned (.tuple #[.float .f64 r, .int .i64 0]) ∧ V .f64 r = xs.getD i Pl.zero64 ∧ w' = w := by
  obtain ⟨ad, cap, l, rfl, hll, hl, hf⟩ := h.form
  obtain ⟨g, rfl, hcell⟩ : ∃ g, ad = some ⟨g, 0, none⟩ ∧ ∀ w', Ext w w' → ∀ i, i < xs.length → w'.cell? ⟨g, i, none⟩ = some (.float .f64 (l.getD i 0)) := by
    rcases hf with h0 | h
    · omega
    · exact h
  clear hf
  obtain ⟨c, ha⟩ := h.hp
  have g0 : w.cell? ⟨m, 0, none⟩ = some (.slice (some ⟨g, 0, none⟩) xs.length cap) := cell_of ha 0
  have k0 : w.cell? ⟨g, i, none⟩ = some (.float .f64 (l.getD i 0)) := hcell w (Ext.refl _) i hi
  have HG : Hid (V .f64 (l.getD i 0) = xs.getD i Pl.zero64) := getD_V hl (by omega)
  have hl8 := h.len
  have d1 : decide ((i : Int) < 0) = false := decide_eq_false (by omega)
  have d2 : decide ((xs.length : Int) ≤ (i : Int)) = false := decide_eq_false (by omega)
  have i2 : (i : Int) < (xs.length : Int) := by omega
  clear h ha hcell hl hll
  generalize l.getD i 0 = r at *
  go_enter Try.func51, Try.ntmps51
  go_wp2
  go_ret2
  exact ⟨r, rfl, HG.out, rfl⟩
theorem ord_En {m n : Nat} {e j : Int} (hm : m ≠ 0) (h : (Datum.number true n j).order (.number true m e) ≠ some .gt) : e + m.log2 ≤ j + n.log2 := by
  refine Ff.ord_E hm ?_
  have h1 := (Ff.order_not_gt (b := min e j) (by omega) (by omega)).1 h
  refine (Ff.order_not_gt (b := min e j) (by omega) (by omega)).2 ?_
  simp only [Ieee.signed, Bool.false_eq_true, if_false, if_true] at h1 ⊢
  omega
theorem p53 : V .f64 4845873199050653696 = .number false 4503599627370496 1 := by decide +kernel
theorem m53 : V .f64 14069245235905429504 = .number true 4503599627370496 1 := by decide +kernel
theorem whole_ok {x : Datum} (h1 : ge x (V .f64 14069245235905429504) = true) (h2 : le x (V .f64 4845873199050653696) = true) : Pl.intOk x = true := by
  rw [m53, Ff.ge_iff] at h1
  rw [p53, Ff.le_iff] at h2
  have hl : (4503599627370496 : Nat).log2 = 52 := by decide +kernel
  cases x with
  | nan s t => exact absurd h1.2.1 (by simp [Datum.isNaN])
  | infinity s =>
    cases s
    · exact absurd rfl h2.2.2
    · exact absurd rfl h1.2.2
  | number s m e =>
    refine Ff.intOk_of fun h0 => ?_
    cases s
    · have := Ff.ord_E h0 h2.2.2
      rw [hl] at this
      omega
    · have := ord_En h0 h1.2.2
      rw [hl] at this
      omega
set_option maxHeartbeats 1000000 in
theorem smwhole (w : World) (B m : Nat) (v : Value) (xs : List Datum) (h : SmAt w B m v xs) : Calls Try.prog 54 #[.pointer (some ⟨m, 0, none⟩), .int .i64 0] w fun e w' => ∃ k f : Int, e = .returned (.tuple #[.int .i64 k, .int .i64 f]) ∧ (f = 0 → xs ≠ [] ∧ eq (ofInt .f64 k) (xs.getD 0 Pl.zero64) = true) ∧ w' = w := by
  obtain ⟨ad, cap, l, rfl, hll, hl, hf⟩ := h.form
  obtain ⟨c, ha⟩ := h.hp
  have g0 : w.cell? ⟨m, 0, none⟩ = some (.slice ad xs.length cap) := cell_of ha 0
  have hl8 := h.len
  by_cases hn : xs.length = 0
  · rw [hn] at g0
    clear h ha hl hll hf
    go_enter Try.func54, Try.ntmps54
    go_wp2
    go_ret2
    exact ⟨0, 3, rfl, fun h => absurd h (by decide), rfl⟩
  · obtain ⟨g, rfl, hcell⟩ : ∃ g, ad = some ⟨g, 0, none⟩ ∧ ∀ w', Ext w w' → ∀ i, i < xs.length → w'.cell? ⟨g, i, none⟩ = some (.float .f64 (l.getD i 0)) := by
      rcases hf with h0 | h
      · omega
      · exact h
    have k0 : w.cell? ⟨g, 0, none⟩ = some (.float .f64 (l.getD 0 0)) := hcell w (Ext.refl _) 0 (by omega)
    have HG : Hid (V .f64 (l.getD 0 0) = xs.getD 0 Pl.zero64 ∧ xs ≠ []) := ⟨getD_V hl (by omega), by rintro rfl; exact hn rfl⟩
    obtain ⟨n, hnn⟩ : ∃ n, xs.length = n + 1 := ⟨xs.length - 1, by omega⟩
    rw [hnn] at g0
    have d2 : decide ((n : Int) + 1 ≤ 0) = false := decide_eq_false (by omega)
    have i2 : (0 : Int) < (n : Int) + 1 := by omega
    have i3 : n < 8 := by omega
    clear h ha hcell hl hll hf hn hnn hl8
    generalize l.getD 0 0 = r at *
    have q1 := o_ge .f64 r 14069245235905429504
    have q2 := o_le .f64 r 4845873199050653696
    cases t1 : ge (V .f64 r) (V .f64 14069245235905429504)
    · rw [t1] at q1
      clear t1
      go_enter Try.func54, Try.ntmps54
      go_wp2
      go_ret2
      exact ⟨0, 4, rfl, fun h => absurd h (by decide), rfl⟩
    · rw [t1] at q1
      cases t2 : le (V .f64 r) (V .f64 4845873199050653696)
      · rw [t2] at q2
        clear t1 t2
        go_enter Try.func54, Try.ntmps54
        go_wp2
        go_ret2
        exact ⟨0, 4, rfl, fun h => absurd h (by decide), rfl⟩
      · rw [t2] at q2
        have hok := whole_ok t1 t2
        have hcv : ∀ wx, (convert 80 3 (.float .f64 r)).run Try.prog wx = .ok (.int .i64 (Pl.toI (V .f64 r))) wx := by
          intro wx
          rw [run_convert_float_int wx 80 3 .f64 .i64 _ _ (by rw [Try.underlying80]; rfl) Try.underlying3 (toI_law _ _ hok)]
        have q3 := o_eq .f64 (floatOfInt .f64 (Pl.toI (V .f64 r))) r
        have HE : Hid (V .f64 (floatOfInt .f64 (Pl.toI (V .f64 r))) = ofInt .f64 (Pl.toI (V .f64 r))) := rfl
        clear t1 t2 hok
        generalize Pl.toI (V .f64 r) = K at *
        cases t3 : eq (V .f64 (floatOfInt .f64 K)) (V .f64 r)
        · rw [t3] at q3
          clear t3
          go_enter Try.func54, Try.ntmps54
          go_wp2
          go_ret2
          exact ⟨0, 4, rfl, fun h => absurd h (by decide), rfl⟩
        · rw [t3] at q3
          have HT : Hid _ := t3
          clear t3
          go_enter Try.func54, Try.ntmps54
          go_wp2
          go_ret2
          exact ⟨K, 0, rfl, fun _ => ⟨HG.out.2, by rw [← HG.out.1, ← HE.out]; exact HT.out⟩, rfl⟩
def SuR (w : World) (xs : List Datum) (t i : Value) (wr : World) : Prop := ∃ r k : Nat, k ≤ xs.length ∧ i = .int .i64 k ∧ t = .float .f64 r ∧ V .f64 r = Pl.sumL (xs.take k) ∧ Ext w wr
set_option maxHeartbeats 2000000 in
theorem smsum_any (w : World) (B m : Nat) (v : Value) (xs : List Datum) (h : SmAt w B m v xs) : Calls Try.prog 76 #[.pointer (some ⟨m, 0, none⟩)] w fun e w' => ∃ r, e = .returned (.float .f64 r) ∧ V .f64 r = Pl.sumL xs ∧ Ext w w' := by
  obtain ⟨ad, cap, l, rfl, hll, hl, hf⟩ := h.form
  obtain ⟨c, ha⟩ := h.hp
  have g0 : ∀ w', Ext w w' → w'.cell? ⟨m, 0, none⟩ = some (.slice ad xs.length cap) := fun w' hx => cell_of (hx.heap ha) 0
  have hl8 := h.len
  have HF : Hid (l.length = xs.length ∧ l.map (V .f64) = xs ∧ (xs.length = 0 ∨ ∃ g, ad = some ⟨g, 0, none⟩ ∧ ∀ w', Ext w w' → ∀ i, i < xs.length → w'.cell? ⟨g, i, none⟩ = some (.float .f64 (l.getD i 0)))) := ⟨hll, hl, hf⟩
  have hx0 := Ext.refl w
  have G0 : Hid _ := g0
  have g00 := g0 w hx0
  clear h ha hl hll hf g0 hx0
  go_enter Try.func76, Try.ntmps76
  go_wp2
  go_loopw [3, 4] (fun t i wr => SuR w xs t i wr) (fun _ i _ => xs.length - (intOf i).toNat)
  case atStart => exact ⟨0, 0, by omega, rfl, rfl, rfl, Ext.refl _⟩
  case round =>
    obtain ⟨r, k, hk, rfl, rfl, hr, hx⟩ := hrel
    have HR : Hid (V .f64 r = Pl.sumL (xs.take k) ∧ Ext w wr) := ⟨hr, hx⟩
    have g1 := G0.out wr hx
    clear hr hx g00
    by_cases hlt : k < xs.length
    · have hd : decide ((k : Int) < (xs.length : Int)) = true := decide_eq_true (by omega)
      have hk0 : (k : Int) < (xs.length : Int) := by omega
      obtain ⟨g, rfl, hcell⟩ : ∃ g, ad = some ⟨g, 0, none⟩ ∧ ∀ w', Ext w w' → ∀ i, i < xs.length → w'.cell? ⟨g, i, none⟩ = some (.float .f64 (l.getD i 0)) := by
        rcases HF.out.2.2 with h0 | h
        · omega
        · exact h
      have kk : wr.cell? ⟨g, k, none⟩ = some (.float .f64 (l.getD k 0)) := hcell wr HR.out.2 k hlt
      clear hcell
      have HX : Hid (Pl.sumL (xs.take (k + 1)) = add .f64 (Pl.sumL (xs.take k)) (V .f64 (l.getD k 0))) := by
        show _ = _
        obtain ⟨hll, hl, _⟩ := HF.out
        rw [getD_V hl (by omega), List.take_add_one, List.getElem?_eq_getElem hlt]
        simp only [Option.toList_some]
        rw [Pl.sumL_snoc]
        congr 1
        simp [hlt]
      generalize l.getD k 0 = y at *
      go_wp2
      go_roundw
      case rel =>
        have hrel' : SuR w xs (.float .f64 (fb .add .f64 r y wr.tape wr.drawn)) (.int .i64 ((k : Int) + 1)) (wr.drewN (fn .add .f64 r y)) := ⟨_, k + 1, by omega, by go_num, rfl, by rw [V_add, HX.out, HR.out.1], HR.out.2.drewN _⟩
        first | exact hrel' | ((repeat apply Exists.intro); exact ⟨hrel', rfl⟩)
      case measure => simp [intOf]; omega
    · have hd : decide ((k : Int) < (xs.length : Int)) = false := decide_eq_false (by omega)
      have HK : Hid (V .f64 r = Pl.sumL xs) := by
        have e : xs.take k = xs := List.take_of_length_le (by omega)
        have := HR.out.1
        rw [e] at this
        exact this
      go_wp2
      go_ret
      exact ⟨r, rfl, HK.out, HR.out.2⟩
set_option maxHeartbeats 1000000 in
theorem smmean_some (w : World) (B m : Nat) (v : Value) (xs : List Datum) (h : SmAt w B m v xs) (hn : 0 < xs.length) : Calls Try.prog 77 #[.pointer (some ⟨m, 0, none⟩)] w fun e w' => ∃ r, e = .returned (.tuple #[.float .f64 r, .int .i64 0]) ∧ V .f64 r = Pl.mean xs ∧ Ext w w' := by
  have HS : Hid (SmAt w B m v xs) := h
  obtain ⟨ad, cap, l, rfl, _⟩ := h.form
  obtain ⟨c, ha⟩ := h.hp
  have HA : Hid _ := ha
  have g0 : w.cell? ⟨m, 0, none⟩ = some (.slice ad xs.length cap) := cell_of ha 0
  have hz : ((xs.length : Int) == 0) = false := beq_eq_false_iff_ne.2 (by omega)
  clear h ha
  go_enter Try.func77, Try.ntmps77
  go_wp2_with fail
  refine (smsum_any w B m _ xs HS.out).mono ?_
  rintro e w1 ⟨r, rfl, hr, x1⟩
  have H1 : Hid (V .f64 r = Pl.sumL xs ∧ Ext w w1) := ⟨hr, x1⟩
  have g1 : w1.cell? ⟨m, 0, none⟩ = some (.slice ad xs.length cap) := cell_of (x1.heap HA.out) 0
  clear hr x1 g0
  go_wp2
  go_ret2
  exact ⟨_, rfl, by rw [V_quo, H1.out.1]; rfl, H1.out.2.drewN _⟩
end Go.Proofs.Qxb6500343a
