/-
  Walks 18: the series' Check.
-/
import Derived.Test.Qxb6500343aW17
import Derived.Deep.CutRange
namespace Go.Proofs.Qxb6500343a
open Go.RowKit
open Go.Proofs
open Ieee (Datum)
open Fl
open Tx (st)
open Ff (in64)
set_option linter.unusedSimpArgs false
set_option linter.unusedVariables false
attribute [local go_sem] run_fadd run_fsub run_fmul run_fquo run_store_float alloc_drewN setCell_drewN shape?_drewN tape_alloc drawn_alloc tape_setCell drawn_setCell drawn_drewN drawn_drew run_fneg

theorem one64_num : V .f64 4607182418800017408 = .number false 4503599627370496 (-52) := o64
set_option maxHeartbeats 1000000 in
theorem same64_any (a b : Nat) (w : World) (h : V .f64 a = V .f64 b) : Calls Try.prog 95 #[.float .f64 a, .float .f64 b] w fun e w' => e = .returned (.bool true) ∧ Ext w w' := by
  have ha := oo .f64 a
  have hb := oo .f64 b
  rw [← h] at hb
  cases hn : (V .f64 a).isNaN
  · rw [hn] at ha hb
    have ha' : (FloatKind.f64.format.order a a != some .eq) = false := by rw [bne, ha]; rfl
    have hb' : (FloatKind.f64.format.order b b != some .eq) = false := by rw [bne, hb]; rfl
    have hab : (FloatKind.f64.format.order a b == some .eq) = true := by rw [order_V, ← h]; have := Pl.eq_self (V .f64 a); rw [hn] at this; exact this
    have hq : ∀ τ n τ' n', (FloatKind.f64.format.order (fb .quo .f64 4607182418800017408 a τ n) (fb .quo .f64 4607182418800017408 b τ' n') == some .eq) = true := by
      intro τ n τ' n'
      rw [order_V, V_quo, V_quo, ← h]
      have h1 := Pl.eq_self (div .f64 (V .f64 4607182418800017408) (V .f64 a))
      rw [one64_num] at h1 ⊢
      rw [inv_num .f64 4503599627370496 (-52) (by decide) _ hn] at h1
      exact h1
    clear hn h ha hb
    go_enter Try.func95, Try.ntmps95
    go_wp2
    go_ret
    exact ⟨rfl, (Ext.refl _).drewN _⟩
  · rw [hn] at ha hb
    have ha' : (FloatKind.f64.format.order a a != some .eq) = true := by rw [bne, ha]; rfl
    have hb' : (FloatKind.f64.format.order b b != some .eq) = true := by rw [bne, hb]; rfl
    clear hn h ha hb
    go_enter Try.func95, Try.ntmps95
    go_wp2
    go_ret
    exact ⟨rfl, Ext.refl _⟩
set_option maxRecDepth 100000 in
set_option maxHeartbeats 4000000 in
theorem scheck_any (w : World) (p L : Nat) (xs : List Datum) (hser : SerAt w p L (Pl.lv xs)) : Calls Try.prog 94 #[.pointer (some ⟨p, 0, none⟩)] w fun e w' => e = .returned (.bool true) ∧ Ext w w' := by
  obtain ⟨hp, ⟨C, hL, hC, hl⟩, hlen, hne⟩ := hser
  have HS : Hid (w.heap[p]? = some (.cells #[.slice (some ⟨L, 0, none⟩) 8 8, .int .i64 (Pl.lv xs).length] 97) ∧ w.heap[L]? = some (.cells C 100)) := ⟨hp, hL⟩
  have HL : Hid (∀ i d, (Pl.lv xs)[i]? = some d → lvAt C i d) := hl
  have g0 : w.cell? ⟨p, 0, none⟩ = some (.slice (some ⟨L, 0, none⟩) 8 8) := cell_of hp 0
  have g1 : w.cell? ⟨p, 1, none⟩ = some (.int .i64 (Pl.lv xs).length) := cell_of hp 1
  have b1 : decide (((Pl.lv xs).length : Int) < 0) = false := decide_eq_false (by omega)
  have b2 : decide ((8 : Int) < ((Pl.lv xs).length : Int)) = false := decide_eq_false (by omega)
  clear hp hL hl
  go_enter Try.func94, Try.ntmps94
  go_wp2
  go_loopw [3] (fun i wr => ∃ k : Nat, k ≤ (Pl.lv xs).length ∧ i = .int .i64 k ∧ Ext w wr) (fun i _ => (Pl.lv xs).length - (intOf i).toNat)
  case atStart => exact ⟨0, by omega, rfl, Ext.refl _⟩
  case round =>
    obtain ⟨k, hk, rfl, hx⟩ := hrel
    have HX : Hid (Ext w wr) := hx
    have g1 : wr.cell? ⟨p, 1, none⟩ = some (.int .i64 (Pl.lv xs).length) := cell_of (hx.heap HS.out.1) 1
    clear hx
    by_cases hlt : k < (Pl.lv xs).length
    · have hd : decide ((k : Int) < ((Pl.lv xs).length : Int)) = true := decide_eq_true (by omega)
      obtain ⟨d, hdk⟩ : ∃ d, (Pl.lv xs)[k]? = some d := ⟨_, List.getElem?_eq_getElem hlt⟩
      obtain ⟨x0, _, hdx, hdn⟩ := Pl.lv_get xs k d hdk
      obtain ⟨x, s, l, h, cx, cs, cl, ch, hvx⟩ := HL.out k d hdk
      have HV : Hid (C[k * 4]? = some (.float .f64 x) ∧ C[k * 4 + 1]? = some (.float .f64 s) ∧ C[k * 4 + 2]? = some (.float .f64 l) ∧ C[k * 4 + 3]? = some (.float .f64 h) ∧ lvV x s l h d) := ⟨cx, cs, cl, ch, hvx⟩
      have h0 : wr.cell? ⟨p, 0, none⟩ = some (.slice (some ⟨L, 0, none⟩) 8 8) := cell_of (HX.out.heap HS.out.1) 0
      have hx0 : wr.cell? ⟨L, k * 4, none⟩ = some (.float .f64 x) := (cell_of (HX.out.heap HS.out.2) _).trans cx
      have hk8 : (k : Int) < 8 := by omega
      have HDN : Hid (V .f64 x = d.x ∧ d = Pl.next ((Pl.lv xs).take k) d.x) := ⟨hvx.1, by rw [hdx]; exact hdn⟩
      clear hdk hdx hdn cx cs cl ch hvx
      go_wp2_with fail
      refine (first_any x _).mono ?_
      rintro e w1 ⟨x', s', l', h', rfl, hf, x1⟩
      have X1 : Hid (Ext w w1 ∧ lvV x' s' l' h' (Pl.first (V .f64 x))) := ⟨HX.out.trans x1, hf⟩
      clear hf x1 h0 hx0
      unfold lvC
      by_cases hk0 : k = 0
      · subst hk0
        obtain ⟨WB, hWB⟩ : ∃ WB, WB = w1.alloc (.cells #[.float .f64 x', .float .f64 s', .float .f64 l', .float .f64 h'] 100) := ⟨_, rfl⟩
        have XB : Hid (Ext w WB ∧ WB.heap[w1.heap.size]? = some (.cells #[.float .f64 x', .float .f64 s', .float .f64 l', .float .f64 h'] 100) ∧ True) := by rw [hWB]; exact ⟨X1.out.1.alloc _, heap_alloc_new w1 _, trivial⟩
        have HW : Hid (lvV x' s' l' h' d) := by
          have := X1.out.2
          rw [HDN.out.1] at this
          have e : d = Pl.first d.x := HDN.out.2
          rw [e]
          exact this
        go_upto_region 9 with fail
        rw [← hWB]
        clear hWB
        have q0 : ∀ w', Ext WB w' → w'.cell? ⟨p, 0, none⟩ = some (.slice (some ⟨L, 0, none⟩) 8 8) := fun w' hx => cell_of ((XB.out.1.trans hx).heap HS.out.1) 0
        have qx : ∀ w', Ext WB w' → w'.cell? ⟨L, 0, none⟩ = some (.float .f64 x) := fun w' hx => (cell_of ((XB.out.1.trans hx).heap HS.out.2) _).trans HV.out.1
        have qs : ∀ w', Ext WB w' → w'.cell? ⟨L, 1, none⟩ = some (.float .f64 s) := fun w' hx => (cell_of ((XB.out.1.trans hx).heap HS.out.2) _).trans HV.out.2.1
        have ql : ∀ w', Ext WB w' → w'.cell? ⟨L, 2, none⟩ = some (.float .f64 l) := fun w' hx => (cell_of ((XB.out.1.trans hx).heap HS.out.2) _).trans HV.out.2.2.1
        have qh : ∀ w', Ext WB w' → w'.cell? ⟨L, 3, none⟩ = some (.float .f64 h) := fun w' hx => (cell_of ((XB.out.1.trans hx).heap HS.out.2) _).trans HV.out.2.2.2.1
        have ks : ∀ w', Ext WB w' → w'.cell? ⟨w1.heap.size, 1, none⟩ = some (.float .f64 s') := fun w' hx => cell_of (hx.heap XB.out.2.1) 1
        have kl : ∀ w', Ext WB w' → w'.cell? ⟨w1.heap.size, 2, none⟩ = some (.float .f64 l') := fun w' hx => cell_of (hx.heap XB.out.2.1) 2
        have kh : ∀ w', Ext WB w' → w'.cell? ⟨w1.heap.size, 3, none⟩ = some (.float .f64 h') := fun w' hx => cell_of (hx.heap XB.out.2.1) 3
        have hxb := Ext.refl WB
        go_wp2
        refine Calm.region 12 0 (fun o => o.dst == some 71) (Ext WB) (by kernel_rfl) (by kernel_rfl) hxb.drew ?_
        simp only [List.take, List.drop]
        repeat (first
          | (refine Calm.walk_move _ (.inl rfl) rfl rfl ?_; simp only [Act.put, List.setIfInBounds_toArray, List.set, Act.eval, List.getD_toArray, List.getD_cons_zero, List.getD_cons_succ])
          | (refine Calm.walk_call (f := 95) (args := #[.float .f64 s, .float .f64 s']) (fun v => v = .bool true) rfl rfl (fun _ _ => by simp [go_sem]) (fun w' hw' => (same64_any s s' w' (HV.out.2.2.2.2.2.1.trans HW.out.2.1.symm)).mono fun e w2 ⟨he, hx⟩ => ⟨_, he, hw'.trans hx, rfl⟩) ?_; rintro v rfl; simp only [Act.put, List.setIfInBounds_toArray, List.set])
          | (apply Calm.walk_value; rfl; rfl; (intro w' hw'; simp [go_sem, hw', q0, qs, ks]; rfl); simp only [Act.put, List.setIfInBounds_toArray, List.set]))
        show ∀ w', _
        intro wa hxa
        replace hxb := hxa
        go_wp2
        refine Calm.region 12 0 (fun o => o.dst == some 83) (Ext WB) (by kernel_rfl) (by kernel_rfl) hxb.drew ?_
        simp only [List.take, List.drop]
        repeat (first
          | (refine Calm.walk_move _ (.inl rfl) rfl rfl ?_; simp only [Act.put, List.setIfInBounds_toArray, List.set, Act.eval, List.getD_toArray, List.getD_cons_zero, List.getD_cons_succ])
          | (refine Calm.walk_call (f := 95) (args := #[.float .f64 l, .float .f64 l']) (fun v => v = .bool true) rfl rfl (fun _ _ => by simp [go_sem]) (fun w' hw' => (same64_any l l' w' (HV.out.2.2.2.2.2.2.1.trans HW.out.2.2.1.symm)).mono fun e w2 ⟨he, hx⟩ => ⟨_, he, hw'.trans hx, rfl⟩) ?_; rintro v rfl; simp only [Act.put, List.setIfInBounds_toArray, List.set])
          | (apply Calm.walk_value; rfl; rfl; (intro w' hw'; simp [go_sem, hw', q0, ql, kl]; rfl); simp only [Act.put, List.setIfInBounds_toArray, List.set]))
        show ∀ w', _
        intro wb hxb2
        replace hxb := hxb2
        go_wp2
        refine Calm.region 12 0 (fun o => o.dst == some 95) (Ext WB) (by kernel_rfl) (by kernel_rfl) hxb.drew ?_
        simp only [List.take, List.drop]
        repeat (first
          | (refine Calm.walk_move _ (.inl rfl) rfl rfl ?_; simp only [Act.put, List.setIfInBounds_toArray, List.set, Act.eval, List.getD_toArray, List.getD_cons_zero, List.getD_cons_succ])
          | (refine Calm.walk_call (f := 95) (args := #[.float .f64 h, .float .f64 h']) (fun v => v = .bool true) rfl rfl (fun _ _ => by simp [go_sem]) (fun w' hw' => (same64_any h h' w' (HV.out.2.2.2.2.2.2.2.trans HW.out.2.2.2.symm)).mono fun e w2 ⟨he, hx⟩ => ⟨_, he, hw'.trans hx, rfl⟩) ?_; rintro v rfl; simp only [Act.put, List.setIfInBounds_toArray, List.set])
          | (apply Calm.walk_value; rfl; rfl; (intro w' hw'; simp [go_sem, hw', q0, qh, kh]; rfl); simp only [Act.put, List.setIfInBounds_toArray, List.set]))
        show ∀ w', _
        intro wd hxd
        replace hxb := hxd
        go_wp2
        go_roundw
        case rel =>
          have hrel' : ∃ k' : Nat, k' ≤ (Pl.lv xs).length ∧ (Value.int .i64 1) = .int .i64 k' ∧ Ext w wd := ⟨1, by omega, rfl, XB.out.1.trans hxb⟩
          first | exact hrel' | ((repeat apply Exists.intro); exact ⟨hrel', rfl⟩)
        case measure => simp [intOf]; omega
      · obtain ⟨m, hkm⟩ : ∃ m, k = m + 1 := ⟨k - 1, by omega⟩
        have e0 : (k : Int) - 1 = (m : Int) := by omega
        have e1 : decide ((0 : Int) < (k : Int)) = true := decide_eq_true (by omega)
        have i1 : IntKind.i64.wrap (m : Int) = m := by rw [IntKind.wrap_i64]; omega
        have i2 : (m : Int) < 8 := by omega
        obtain ⟨d0, hd0⟩ : ∃ d, (Pl.lv xs)[m]? = some d := ⟨_, List.getElem?_eq_getElem (by omega)⟩
        obtain ⟨a0, a1, a2, a3, c0, c1, c2, c3, hv0⟩ := HL.out m d0 hd0
        have HV0 : Hid (C[m * 4]? = some (.float .f64 a0) ∧ C[m * 4 + 1]? = some (.float .f64 a1) ∧ C[m * 4 + 2]? = some (.float .f64 a2) ∧ C[m * 4 + 3]? = some (.float .f64 a3) ∧ lvV a0 a1 a2 a3 d0) := ⟨c0, c1, c2, c3, hv0⟩
        have HD2 : Hid (d = Pl.step d0 d.x) := by
          have e := HDN.out.2
          unfold Pl.next at e
          rw [hkm, List.getLast?_take] at e
          simp only [Nat.add_sub_cancel, hd0] at e
          exact e
        clear c0 c1 c2 c3 hv0 hd0 hkm
        go_upto_region 8 with fail
        obtain ⟨WA, hWA⟩ : ∃ WA, WA = w1.alloc (.cells #[.float .f64 x', .float .f64 s', .float .f64 l', .float .f64 h'] 100) := ⟨_, rfl⟩
        have XA : Hid (Ext w WA ∧ WA.heap[w1.heap.size]? = some (.cells #[.float .f64 x', .float .f64 s', .float .f64 l', .float .f64 h'] 100)) := by rw [hWA]; exact ⟨X1.out.1.alloc _, heap_alloc_new w1 _⟩
        rw [← hWA]
        clear hWA
        have r0 : ∀ w', Ext WA w' → w'.cell? ⟨p, 0, none⟩ = some (.slice (some ⟨L, 0, none⟩) 8 8) := fun w' hx => cell_of ((XA.out.1.trans hx).heap HS.out.1) 0
        have rx : ∀ w', Ext WA w' → w'.cell? ⟨L, k * 4, none⟩ = some (.float .f64 x) := fun w' hx => (cell_of ((XA.out.1.trans hx).heap HS.out.2) _).trans HV.out.1
        have p0 : ∀ w', Ext WA w' → w'.cell? ⟨L, m * 4, none⟩ = some (.float .f64 a0) := fun w' hx => (cell_of ((XA.out.1.trans hx).heap HS.out.2) _).trans HV0.out.1
        have p1 : ∀ w', Ext WA w' → w'.cell? ⟨L, m * 4 + 1, none⟩ = some (.float .f64 a1) := fun w' hx => (cell_of ((XA.out.1.trans hx).heap HS.out.2) _).trans HV0.out.2.1
        have p2 : ∀ w', Ext WA w' → w'.cell? ⟨L, m * 4 + 2, none⟩ = some (.float .f64 a2) := fun w' hx => (cell_of ((XA.out.1.trans hx).heap HS.out.2) _).trans HV0.out.2.2.1
        have p3 : ∀ w', Ext WA w' → w'.cell? ⟨L, m * 4 + 3, none⟩ = some (.float .f64 a3) := fun w' hx => (cell_of ((XA.out.1.trans hx).heap HS.out.2) _).trans HV0.out.2.2.2.1
        refine Calm.region 17 1 (fun o => o.dst == some 60) (Ext WA) (by kernel_rfl) (by kernel_rfl) (Ext.refl WA).drew ?_
        simp only [List.take, List.drop]
        repeat (first
          | (refine Calm.walk_move _ (.inl rfl) rfl rfl ?_; simp only [Act.put, List.setIfInBounds_toArray, List.set, Act.eval, List.getD_toArray, List.getD_cons_zero, List.getD_cons_succ])
          | (refine Calm.walk_call (f := 65) (args := #[lvC a0 a1 a2 a3, .float .f64 x]) (fun v => ∃ b0 b1 b2 b3, v = lvC b0 b1 b2 b3 ∧ lvV b0 b1 b2 b3 (Pl.step d0 (V .f64 x))) rfl rfl (fun _ _ => by simp [go_sem, lvC]) (fun w' hw' => (step_any x a0 a1 a2 a3 d0 HV0.out.2.2.2.2 w').mono fun e w2 ⟨x, s, l, h, he, hv, hx⟩ => ⟨_, he, hw'.trans hx, x, s, l, h, rfl, hv⟩) ?_; rintro v ⟨y0, y1, y2, y3, rfl, hv⟩; simp only [Act.put, List.setIfInBounds_toArray, List.set])
          | (apply Calm.walk_value; rfl; rfl; (intro w' hw'; simp [go_sem, hw', r0, rx, p0, p1, p2, p3, i1, i2, e0, hk8]; rfl); simp only [Act.put, List.setIfInBounds_toArray, List.set]))
        show ∀ w', _
        intro w2 hx2
        have HV2 : Hid (lvV y0 y1 y2 y3 (Pl.step d0 (V .f64 x)) ∧ Ext WA w2) := ⟨hv, hx2⟩
        have z2 := hx2.heap XA.out.2
        have u0 : w2.cell? ⟨w1.heap.size, 0, none⟩ = some (.float .f64 x') := cell_of z2 0
        have u1 : w2.cell? ⟨w1.heap.size, 1, none⟩ = some (.float .f64 s') := cell_of z2 1
        have u2 : w2.cell? ⟨w1.heap.size, 2, none⟩ = some (.float .f64 l') := cell_of z2 2
        have u3 : w2.cell? ⟨w1.heap.size, 3, none⟩ = some (.float .f64 h') := cell_of z2 3
        have uf := frozen_of z2
        clear hv hx2 r0 rx p0 p1 p2 p3
        unfold lvC
        go_upto_region 9 with fail
        obtain ⟨WB, hWB⟩ : ∃ WB, WB = (((w2.setCell ⟨w1.heap.size, 0, none⟩ (.float .f64 y0)).setCell ⟨w1.heap.size, 1, none⟩ (.float .f64 y1)).setCell ⟨w1.heap.size, 2, none⟩ (.float .f64 y2)).setCell ⟨w1.heap.size, 3, none⟩ (.float .f64 y3) := ⟨_, rfl⟩
        have hsz := X1.out.1.size
        have XB : Hid (Ext w WB ∧ WB.heap[w1.heap.size]? = some (.cells #[.float .f64 y0, .float .f64 y1, .float .f64 y2, .float .f64 y3] 100) ∧ True) := by
          rw [hWB]
          exact ⟨((((XA.out.1.trans HV2.out.2).setCell hsz _).setCell hsz _).setCell hsz _).setCell hsz _, heap_set (heap_set (heap_set (heap_set z2 0 _) 1 _) 2 _) 3 _, trivial⟩
        have HW : Hid (lvV y0 y1 y2 y3 d) := by
          have := HV2.out.1
          rw [HDN.out.1] at this
          have e : d = Pl.step d0 d.x := HD2.out
          rw [e]
          exact this
        rw [← hWB]
        clear hWB z2 u0 u1 u2 u3 uf
        have q0 : ∀ w', Ext WB w' → w'.cell? ⟨p, 0, none⟩ = some (.slice (some ⟨L, 0, none⟩) 8 8) := fun w' hx => cell_of ((XB.out.1.trans hx).heap HS.out.1) 0
        have qx : ∀ w', Ext WB w' → w'.cell? ⟨L, k * 4, none⟩ = some (.float .f64 x) := fun w' hx => (cell_of ((XB.out.1.trans hx).heap HS.out.2) _).trans HV.out.1
        have qs : ∀ w', Ext WB w' → w'.cell? ⟨L, k * 4 + 1, none⟩ = some (.float .f64 s) := fun w' hx => (cell_of ((XB.out.1.trans hx).heap HS.out.2) _).trans HV.out.2.1
        have ql : ∀ w', Ext WB w' → w'.cell? ⟨L, k * 4 + 2, none⟩ = some (.float .f64 l) := fun w' hx => (cell_of ((XB.out.1.trans hx).heap HS.out.2) _).trans HV.out.2.2.1
        have qh : ∀ w', Ext WB w' → w'.cell? ⟨L, k * 4 + 3, none⟩ = some (.float .f64 h) := fun w' hx => (cell_of ((XB.out.1.trans hx).heap HS.out.2) _).trans HV.out.2.2.2.1
        have ks : ∀ w', Ext WB w' → w'.cell? ⟨w1.heap.size, 1, none⟩ = some (.float .f64 y1) := fun w' hx => cell_of (hx.heap XB.out.2.1) 1
        have kl : ∀ w', Ext WB w' → w'.cell? ⟨w1.heap.size, 2, none⟩ = some (.float .f64 y2) := fun w' hx => cell_of (hx.heap XB.out.2.1) 2
        have kh : ∀ w', Ext WB w' → w'.cell? ⟨w1.heap.size, 3, none⟩ = some (.float .f64 y3) := fun w' hx => cell_of (hx.heap XB.out.2.1) 3
        have hxb := Ext.refl WB
        go_wp2
        refine Calm.region 12 0 (fun o => o.dst == some 71) (Ext WB) (by kernel_rfl) (by kernel_rfl) hxb.drew ?_
        simp only [List.take, List.drop]
        repeat (first
          | (refine Calm.walk_move _ (.inl rfl) rfl rfl ?_; simp only [Act.put, List.setIfInBounds_toArray, List.set, Act.eval, List.getD_toArray, List.getD_cons_zero, List.getD_cons_succ])
          | (refine Calm.walk_call (f := 95) (args := #[.float .f64 s, .float .f64 y1]) (fun v => v = .bool true) rfl rfl (fun _ _ => by simp [go_sem]) (fun w' hw' => (same64_any s y1 w' (HV.out.2.2.2.2.2.1.trans HW.out.2.1.symm)).mono fun e w2 ⟨he, hx⟩ => ⟨_, he, hw'.trans hx, rfl⟩) ?_; rintro v rfl; simp only [Act.put, List.setIfInBounds_toArray, List.set])
          | (apply Calm.walk_value; rfl; rfl; (intro w' hw'; simp [go_sem, hw', q0, qs, ks, hk8]; rfl); simp only [Act.put, List.setIfInBounds_toArray, List.set]))
        show ∀ w', _
        intro wa hxa
        replace hxb := hxa
        go_wp2
        refine Calm.region 12 0 (fun o => o.dst == some 83) (Ext WB) (by kernel_rfl) (by kernel_rfl) hxb.drew ?_
        simp only [List.take, List.drop]
        repeat (first
          | (refine Calm.walk_move _ (.inl rfl) rfl rfl ?_; simp only [Act.put, List.setIfInBounds_toArray, List.set, Act.eval, List.getD_toArray, List.getD_cons_zero, List.getD_cons_succ])
          | (refine Calm.walk_call (f := 95) (args := #[.float .f64 l, .float .f64 y2]) (fun v => v = .bool true) rfl rfl (fun _ _ => by simp [go_sem]) (fun w' hw' => (same64_any l y2 w' (HV.out.2.2.2.2.2.2.1.trans HW.out.2.2.1.symm)).mono fun e w2 ⟨he, hx⟩ => ⟨_, he, hw'.trans hx, rfl⟩) ?_; rintro v rfl; simp only [Act.put, List.setIfInBounds_toArray, List.set])
          | (apply Calm.walk_value; rfl; rfl; (intro w' hw'; simp [go_sem, hw', q0, ql, kl, hk8]; rfl); simp only [Act.put, List.setIfInBounds_toArray, List.set]))
        show ∀ w', _
        intro wb hxb2
        replace hxb := hxb2
        go_wp2
        refine Calm.region 12 0 (fun o => o.dst == some 95) (Ext WB) (by kernel_rfl) (by kernel_rfl) hxb.drew ?_
        simp only [List.take, List.drop]
        repeat (first
          | (refine Calm.walk_move _ (.inl rfl) rfl rfl ?_; simp only [Act.put, List.setIfInBounds_toArray, List.set, Act.eval, List.getD_toArray, List.getD_cons_zero, List.getD_cons_succ])
          | (refine Calm.walk_call (f := 95) (args := #[.float .f64 h, .float .f64 y3]) (fun v => v = .bool true) rfl rfl (fun _ _ => by simp [go_sem]) (fun w' hw' => (same64_any h y3 w' (HV.out.2.2.2.2.2.2.2.trans HW.out.2.2.2.symm)).mono fun e w2 ⟨he, hx⟩ => ⟨_, he, hw'.trans hx, rfl⟩) ?_; rintro v rfl; simp only [Act.put, List.setIfInBounds_toArray, List.set])
          | (apply Calm.walk_value; rfl; rfl; (intro w' hw'; simp [go_sem, hw', q0, qh, kh, hk8]; rfl); simp only [Act.put, List.setIfInBounds_toArray, List.set]))
        show ∀ w', _
        intro wd hxd
        replace hxb := hxd
        go_wp2
        go_roundw
        case rel =>
          have hrel' : ∃ k' : Nat, k' ≤ (Pl.lv xs).length ∧ (Value.int .i64 ((k : Int) + 1)) = .int .i64 k' ∧ Ext w wd := ⟨k + 1, by omega, by go_num, XB.out.1.trans hxb⟩
          first | exact hrel' | ((repeat apply Exists.intro); exact ⟨hrel', rfl⟩)
        case measure => simp [intOf]; omega
    · have hd : decide ((k : Int) < ((Pl.lv xs).length : Int)) = false := decide_eq_false (by omega)
      go_wp2
      go_ret
      exact ⟨rfl, HX.out⟩
end Go.Proofs.Qxb6500343a

