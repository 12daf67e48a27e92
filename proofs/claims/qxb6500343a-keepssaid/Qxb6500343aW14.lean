/-
  Walks 14: Text64, Text32.
-/
import Derived.Test.Qxb6500343aW13
import Derived.Deep.CutRange
namespace Go.Proofs.Qxb6500343a
open Go.RowKit
open Go.Proofs
open Ieee (Datum)
open Fl
open Tx (st)
open Ff (in64)
set_option linter.unusedSimpArgs false
set_option linter.unusedVariables false
attribute [local go_sem] run_fadd run_fsub run_fmul run_fquo run_store_float alloc_drewN setCell_drewN shape?_drewN tape_alloc drawn_alloc tape_setCell drawn_setCell drawn_drewN drawn_drew run_fneg

def HfR (w : World) (y : Datum) (x e i : Value) (wr : World) : Prop :=
  ∃ (b k : Nat) (e' : Int), x = .float .f64 b ∧ e = .int .i64 e' ∧ i = .int .i64 k ∧ k ≤ 1100 ∧ half 1100 y (-52) = half (1100 - k) (V .f64 b) e' ∧ -52 ≤ e' ∧ e' ≤ -52 + k ∧ Ext w wr
def DbR (w : World) (y : Datum) (e0 : Int) (x e i : Value) (wr : World) : Prop :=
  ∃ (b k : Nat) (e' : Int), x = .float .f64 b ∧ e = .int .i64 e' ∧ i = .int .i64 k ∧ k ≤ 1100 ∧ dbl 1100 y e0 = dbl (1100 - k) (V .f64 b) e' ∧ e0 - k ≤ e' ∧ e' ≤ e0 ∧ Ext w wr
set_option maxRecDepth 100000 in
set_option maxHeartbeats 4000000 in
theorem text_any (x : Nat) (w : World) : Calls Try.prog 73 #[.float .f64 x] w fun e w' => e = .returned (.string (st (text (V .f64 x)))) ∧ Ext w w' := by
  cases h1 : (FloatKind.f64.format.order x x == some .eq)
  · have HT : Hid (text (V .f64 x) = [78, 97, 78]) := by
      rw [order_V] at h1
      show _ = _
      unfold text eq
      rw [h1]; rfl
    have h1' : (FloatKind.f64.format.order x x != some .eq) = true := by rw [bne, h1]; rfl
    clear h1
    go_enter Try.func73, Try.ntmps73
    go_wp2
    go_ret
    exact ⟨by rw [HT.out]; rfl, Ext.refl _⟩
  · have h1' : (FloatKind.f64.format.order x x != some .eq) = false := by rw [bne, h1]; rfl
    have H1 : Hid (eq (V .f64 x) (V .f64 x) = true) := by rw [order_V] at h1; exact h1
    clear h1
    cases h2 : (FloatKind.f64.format.order x 0 == some .eq)
    · have H2 : Hid (eq (V .f64 x) Pl.zero64 = false) := by rw [order_V] at h2; exact h2
      go_enter Try.func73, Try.ntmps73
      go_upto_if 18 with fail
      go_cut [0, 3] from 9 to 71 (fun vx vs wc => ∃ (y : Nat) (sg : List Nat), vx = .float .f64 y ∧ vs = .string (st sg) ∧ sg.length = 1 ∧ text (V .f64 x) = body sg (V .f64 y) ∧ Ext w wc)
      case first =>
        cases h3 : (FloatKind.f64.format.order x 0 == some .lt)
        · have H3 : Hid (text (V .f64 x) = body [43] (V .f64 x)) := by
            rw [order_V] at h3
            have h3' : lt (V .f64 x) Pl.zero64 = false := h3
            show _ = _
            unfold text
            rw [H1.out, H2.out, h3']; rfl
          go_wp2_with fail
          go_meet
          case rel => exact ⟨x, [43], rfl, rfl, rfl, H3.out, Ext.refl _⟩
        · have H3 : Hid (text (V .f64 x) = body [45] (V .f64 (Op.negFloat .f64 x))) := by
            rw [order_V] at h3
            have h3' : lt (V .f64 x) Pl.zero64 = true := h3
            show _ = _
            unfold text
            rw [H1.out, H2.out, h3', V_neg]; rfl
          go_wp2_with fail
          go_meet
          case rel => exact ⟨Op.negFloat .f64 x, [45], rfl, rfl, rfl, H3.out, Ext.refl _⟩
      case rest =>
        obtain ⟨y, sg, rfl, rfl, hsg, hT, hx⟩ := hcut
        have HT : Hid (text (V .f64 x) = body sg (V .f64 y) ∧ Ext w wc) := ⟨hT, hx⟩
        have hs1 : (st sg).size = 1 := by rw [Tx.st_size]; exact hsg
        clear hT hx hsg H1 H2 h2 h1'
        have ha : ∀ τ n, (FloatKind.f64.format.order (fb .add .f64 y y τ n) y == some .eq) = eq (add .f64 (V .f64 y) (V .f64 y)) (V .f64 y) := by
          intro τ n
          rw [order_V, V_add]; rfl
        have HB : Hid (body sg (V .f64 y) = if eq (add .f64 (V .f64 y) (V .f64 y)) (V .f64 y) then sg ++ [73, 110, 102] else (if ge (dbl 1100 (half 1100 (V .f64 y) (-52)).1 (half 1100 (V .f64 y) (-52)).2).1 one64 && lt (dbl 1100 (half 1100 (V .f64 y) (-52)).1 (half 1100 (V .f64 y) (-52)).2).1 two64 then sg ++ Tx.itoa (Pl.toI (mul .f64 (dbl 1100 (half 1100 (V .f64 y) (-52)).1 (half 1100 (V .f64 y) (-52)).2).1 p52)) ++ [112] ++ Tx.itoa (dbl 1100 (half 1100 (V .f64 y) (-52)).1 (half 1100 (V .f64 y) (-52)).2).2 else sg ++ [63])) := rfl
        generalize eq (add .f64 (V .f64 y) (V .f64 y)) (V .f64 y) = t at *
        cases t
        · go_wp2
          go_loopw [0, 4, 5] (fun x e i wr => HfR w (V .f64 y) x e i wr) (fun _ _ i _ => 1100 - (intOf i).toNat)
          case atStart => exact ⟨y, 0, -52, rfl, rfl, rfl, by omega, rfl, by omega, by omega, HT.out.2.drewN _⟩
          case round =>
            obtain ⟨b, k, e', rfl, rfl, rfl, hk, hH, he1, he2, hx⟩ := hrel
            have HX : Hid (half 1100 (V .f64 y) (-52) = half (1100 - k) (V .f64 b) e' ∧ Ext w wr) := ⟨hH, hx⟩
            clear hH hx ha
            by_cases hgo : k < 1100 ∧ ge (V .f64 b) two64 = true
            · have d1 : decide ((k : Int) < 1100) = true := decide_eq_true (by omega)
              have d2 : (FloatKind.f64.format.order b 4611686018427387904 == some .gt || FloatKind.f64.format.order b 4611686018427387904 == some .eq) = true := by rw [order_V]; exact hgo.2
              have HS : Hid (half (1100 - k) (V .f64 b) e' = half (1100 - (k + 1)) (div .f64 (V .f64 b) two64) (e' + 1)) := by
                obtain ⟨q, hq⟩ : ∃ q, 1100 - k = q + 1 := ⟨1100 - k - 1, by omega⟩
                show _ = _
                rw [hq, half, if_pos hgo.2, show 1100 - (k + 1) = q from by omega]
              have hk1 : k < 1100 := hgo.1
              clear hgo
              go_wp2
              go_roundw
              case rel =>
                have hrel' : HfR w (V .f64 y) (.float .f64 (fb .quo .f64 b 4611686018427387904 wr.tape wr.drawn)) (.int .i64 (e' + 1)) (.int .i64 ((k : Int) + 1)) (wr.drewN (fn .quo .f64 b 4611686018427387904)) := by
                  refine ⟨_, k + 1, e' + 1, rfl, rfl, by go_num, by omega, ?_, by omega, by omega, HX.out.2.drewN _⟩
                  rw [HX.out.1, HS.out, V_quo]; rfl
                first | exact hrel' | ((repeat apply Exists.intro); exact ⟨hrel', rfl⟩)
              case measure => simp [intOf]; omega
            · have HE : Hid (half 1100 (V .f64 y) (-52) = (V .f64 b, e')) := by
                show _ = _
                rw [HX.out.1]
                cases hq : 1100 - k with
                | zero => rfl
                | succ q =>
                  rw [half, if_neg (fun h => hgo ⟨by omega, h⟩)]
              have HX2 : Hid (Ext w wr) := HX.out.2
              have d0 : (decide ((k : Int) < 1100) = false) ∨ (decide ((k : Int) < 1100) = true ∧ (FloatKind.f64.format.order b 4611686018427387904 == some .gt || FloatKind.f64.format.order b 4611686018427387904 == some .eq) = false) := by
                by_cases h1 : k < 1100
                · refine .inr ⟨decide_eq_true (by omega), ?_⟩
                  rw [order_V]
                  have : ¬ ge (V .f64 b) two64 = true := fun h => hgo ⟨h1, h⟩
                  rw [Bool.not_eq_true] at this
                  exact this
                · exact .inl (decide_eq_false (by omega))
              clear hgo HX
              rcases d0 with d0 | ⟨d0, d1⟩
              · obtain ⟨wo, rfl⟩ : ∃ wo : World, wo = wr := ⟨_, rfl⟩
                go_wp2
                go_loopw [0, 4, 6] (fun x e i wr => DbR w (V .f64 b) e' x e i wr) (fun _ _ i _ => 1100 - (intOf i).toNat)
                case atStart => exact ⟨b, 0, e', rfl, rfl, rfl, by omega, rfl, by omega, by omega, HX2.out⟩
                case round =>
                  obtain ⟨b2, k2, e2, rfl, rfl, rfl, hk2, hD, he3, he4, hx2⟩ := hrel
                  have HX : Hid (dbl 1100 (V .f64 b) e' = dbl (1100 - k2) (V .f64 b2) e2 ∧ Ext w wr) := ⟨hD, hx2⟩
                  clear hD hx2
                  by_cases hgo : k2 < 1100 ∧ lt (V .f64 b2) one64 = true
                  · have q1 : decide ((k2 : Int) < 1100) = true := decide_eq_true (by omega)
                    have q2 : (FloatKind.f64.format.order b2 4607182418800017408 == some .lt) = true := by rw [order_V]; exact hgo.2
                    have HS : Hid (dbl (1100 - k2) (V .f64 b2) e2 = dbl (1100 - (k2 + 1)) (mul .f64 (V .f64 b2) two64) (e2 - 1)) := by
                      obtain ⟨q, hq⟩ : ∃ q, 1100 - k2 = q + 1 := ⟨1100 - k2 - 1, by omega⟩
                      show _ = _
                      rw [hq, dbl, if_pos hgo.2, show 1100 - (k2 + 1) = q from by omega]
                    have hk1 : k2 < 1100 := hgo.1
                    clear hgo
                    go_wp2
                    go_roundw
                    case rel =>
                      have hrel' : DbR w (V .f64 b) e' (.float .f64 (fb .mul .f64 b2 4611686018427387904 wr.tape wr.drawn)) (.int .i64 (e2 - 1)) (.int .i64 ((k2 : Int) + 1)) (wr.drewN (fn .mul .f64 b2 4611686018427387904)) := by
                        refine ⟨_, k2 + 1, e2 - 1, rfl, rfl, by go_num, by omega, ?_, by omega, by omega, HX.out.2.drewN _⟩
                        rw [HX.out.1, HS.out, V_mul]; rfl
                      first | exact hrel' | ((repeat apply Exists.intro); exact ⟨hrel', rfl⟩)
                    case measure => simp [intOf]; omega
                  · have HE2 : Hid (dbl 1100 (V .f64 b) e' = (V .f64 b2, e2)) := by
                      show _ = _
                      rw [HX.out.1]
                      cases hq : 1100 - k2 with
                      | zero => rfl
                      | succ q =>
                        rw [dbl, if_neg (fun h => hgo ⟨by omega, h⟩)]
                    have HX3 : Hid (Ext w wr) := HX.out.2
                    have d2 : (decide ((k2 : Int) < 1100) = false) ∨ (decide ((k2 : Int) < 1100) = true ∧ (FloatKind.f64.format.order b2 4607182418800017408 == some .lt) = false) := by
                      by_cases h1 : k2 < 1100
                      · refine .inr ⟨decide_eq_true (by omega), ?_⟩
                        rw [order_V]
                        have : ¬ lt (V .f64 b2) one64 = true := fun h => hgo ⟨h1, h⟩
                        rw [Bool.not_eq_true] at this
                        exact this
                      · exact .inl (decide_eq_false (by omega))
                    clear hgo HX
                    rcases d2 with d2 | ⟨d2, d3⟩
                    · by_cases f1 : ge (V .f64 b2) one64 = true
                      · have g1 : (FloatKind.f64.format.order b2 4607182418800017408 == some .gt || FloatKind.f64.format.order b2 4607182418800017408 == some .eq) = true := by rw [order_V]; exact f1
                        by_cases f2 : lt (V .f64 b2) two64 = true
                        · have g2 : (FloatKind.f64.format.order b2 4611686018427387904 == some .lt) = true := by rw [order_V]; exact f2
                          have hok := digits_ok f1 f2
                          have hcv : ∀ τ n wx, (convert 80 3 (.float .f64 (fb .mul .f64 b2 4841369599423283200 τ n))).run Try.prog wx = .ok (.int .i64 (Pl.toI (mul .f64 (V .f64 b2) p52))) wx := by
                            intro τ n wx
                            have e : V .f64 (fb .mul .f64 b2 4841369599423283200 τ n) = mul .f64 (V .f64 b2) p52 := by rw [V_mul]; rfl
                            rw [run_convert_float_int wx 80 3 .f64 .i64 _ _ (by rw [Try.underlying80]; rfl) Try.underlying3 (toI_law _ _ (by rw [e]; exact hok)), e]
                          have HF : Hid (text (V .f64 x) = sg ++ Tx.itoa (Pl.toI (mul .f64 (V .f64 b2) p52)) ++ [112] ++ Tx.itoa e2) := by
                            show _ = _
                            rw [HT.out.1, HB.out, HE.out, HE2.out]
                            simp only [f1, f2]
                            rfl
                          have HI : Hid (in64 (Pl.toI (mul .f64 (V .f64 b2) p52))) := toI_64 hok
                          clear f1 f2 hok
                          generalize Pl.toI (mul .f64 (V .f64 b2) p52) = M at *
                          go_wp2_with fail
                          refine (itoa_all M HI.out _).mono ?_
                          rintro e w5 ⟨rfl, x5⟩
                          have L1 : (st (Tx.itoa M)).size ≤ 21 := by rw [Tx.st_size]; exact Tx.itoa_len M
                          have X5 : Hid (Ext w w5) := (HX3.out.drewN _).trans x5
                          clear x5
                          go_wp2_with fail
                          refine (itoa_all e2 (by unfold in64; omega) _).mono ?_
                          rintro e w6 ⟨rfl, x6⟩
                          have L2 : (st (Tx.itoa e2)).size ≤ 21 := by rw [Tx.st_size]; exact Tx.itoa_len e2
                          have X6 : Hid (Ext w w6) := X5.out.trans x6
                          clear x6
                          have HF2 : Hid (st (text (V .f64 x)) = st sg ++ st (Tx.itoa M) ++ { data := #[112] } ++ st (Tx.itoa e2)) := by
                            show _ = _
                            rw [HF.out, ← Tx.st_append, ← Tx.st_append, ← Tx.st_append]; rfl
                          have S1 : (st sg ++ st (Tx.itoa M)).size = (st sg).size + (st (Tx.itoa M)).size := ByteArray.size_append
                          generalize st (Tx.itoa M) = A at *
                          generalize st (Tx.itoa e2) = B at *
                          go_wp2
                          go_ret
                          exact ⟨by rw [HF2.out]; rfl, X6.out⟩
                        · have f2' : lt (V .f64 b2) two64 = false := by simpa using f2
                          have g2 : (FloatKind.f64.format.order b2 4611686018427387904 == some .lt) = false := by rw [order_V]; exact f2'
                          have HF : Hid (st (text (V .f64 x)) = st sg ++ { data := #[63] }) := by
                            show _ = _
                            rw [HT.out.1, HB.out, HE.out, HE2.out]
                            simp only [f1, f2', Bool.and_false, Bool.false_eq_true, if_false]
                            rw [← Tx.st_append]; rfl
                          go_wp2
                          go_ret
                          exact ⟨by rw [HF.out]; rfl, HX3.out⟩
                      · have f1' : ge (V .f64 b2) one64 = false := by simpa using f1
                        have g1 : (FloatKind.f64.format.order b2 4607182418800017408 == some .gt || FloatKind.f64.format.order b2 4607182418800017408 == some .eq) = false := by rw [order_V]; exact f1'
                        have HF : Hid (st (text (V .f64 x)) = st sg ++ { data := #[63] }) := by
                          show _ = _
                          rw [HT.out.1, HB.out, HE.out, HE2.out]
                          simp only [f1', Bool.false_and, Bool.false_eq_true, if_false]
                          rw [← Tx.st_append]; rfl
                        go_wp2
                        go_ret
                        exact ⟨by rw [HF.out]; rfl, HX3.out⟩
                    · by_cases f1 : ge (V .f64 b2) one64 = true
                      · have g1 : (FloatKind.f64.format.order b2 4607182418800017408 == some .gt || FloatKind.f64.format.order b2 4607182418800017408 == some .eq) = true := by rw [order_V]; exact f1
                        by_cases f2 : lt (V .f64 b2) two64 = true
                        · have g2 : (FloatKind.f64.format.order b2 4611686018427387904 == some .lt) = true := by rw [order_V]; exact f2
                          have hok := digits_ok f1 f2
                          have hcv : ∀ τ n wx, (convert 80 3 (.float .f64 (fb .mul .f64 b2 4841369599423283200 τ n))).run Try.prog wx = .ok (.int .i64 (Pl.toI (mul .f64 (V .f64 b2) p52))) wx := by
                            intro τ n wx
                            have e : V .f64 (fb .mul .f64 b2 4841369599423283200 τ n) = mul .f64 (V .f64 b2) p52 := by rw [V_mul]; rfl
                            rw [run_convert_float_int wx 80 3 .f64 .i64 _ _ (by rw [Try.underlying80]; rfl) Try.underlying3 (toI_law _ _ (by rw [e]; exact hok)), e]
                          have HF : Hid (text (V .f64 x) = sg ++ Tx.itoa (Pl.toI (mul .f64 (V .f64 b2) p52)) ++ [112] ++ Tx.itoa e2) := by
                            show _ = _
                            rw [HT.out.1, HB.out, HE.out, HE2.out]
                            simp only [f1, f2]
                            rfl
                          have HI : Hid (in64 (Pl.toI (mul .f64 (V .f64 b2) p52))) := toI_64 hok
                          clear f1 f2 hok
                          generalize Pl.toI (mul .f64 (V .f64 b2) p52) = M at *
                          go_wp2_with fail
                          refine (itoa_all M HI.out _).mono ?_
                          rintro e w5 ⟨rfl, x5⟩
                          have L1 : (st (Tx.itoa M)).size ≤ 21 := by rw [Tx.st_size]; exact Tx.itoa_len M
                          have X5 : Hid (Ext w w5) := (HX3.out.drewN _).trans x5
                          clear x5
                          go_wp2_with fail
                          refine (itoa_all e2 (by unfold in64; omega) _).mono ?_
                          rintro e w6 ⟨rfl, x6⟩
                          have L2 : (st (Tx.itoa e2)).size ≤ 21 := by rw [Tx.st_size]; exact Tx.itoa_len e2
                          have X6 : Hid (Ext w w6) := X5.out.trans x6
                          clear x6
                          have HF2 : Hid (st (text (V .f64 x)) = st sg ++ st (Tx.itoa M) ++ { data := #[112] } ++ st (Tx.itoa e2)) := by
                            show _ = _
                            rw [HF.out, ← Tx.st_append, ← Tx.st_append, ← Tx.st_append]; rfl
                          have S1 : (st sg ++ st (Tx.itoa M)).size = (st sg).size + (st (Tx.itoa M)).size := ByteArray.size_append
                          generalize st (Tx.itoa M) = A at *
                          generalize st (Tx.itoa e2) = B at *
                          go_wp2
                          go_ret
                          exact ⟨by rw [HF2.out]; rfl, X6.out⟩
                        · have f2' : lt (V .f64 b2) two64 = false := by simpa using f2
                          have g2 : (FloatKind.f64.format.order b2 4611686018427387904 == some .lt) = false := by rw [order_V]; exact f2'
                          have HF : Hid (st (text (V .f64 x)) = st sg ++ { data := #[63] }) := by
                            show _ = _
                            rw [HT.out.1, HB.out, HE.out, HE2.out]
                            simp only [f1, f2', Bool.and_false, Bool.false_eq_true, if_false]
                            rw [← Tx.st_append]; rfl
                          go_wp2
                          go_ret
                          exact ⟨by rw [HF.out]; rfl, HX3.out⟩
                      · have f1' : ge (V .f64 b2) one64 = false := by simpa using f1
                        have g1 : (FloatKind.f64.format.order b2 4607182418800017408 == some .gt || FloatKind.f64.format.order b2 4607182418800017408 == some .eq) = false := by rw [order_V]; exact f1'
                        have HF : Hid (st (text (V .f64 x)) = st sg ++ { data := #[63] }) := by
                          show _ = _
                          rw [HT.out.1, HB.out, HE.out, HE2.out]
                          simp only [f1', Bool.false_and, Bool.false_eq_true, if_false]
                          rw [← Tx.st_append]; rfl
                        go_wp2
                        go_ret
                        exact ⟨by rw [HF.out]; rfl, HX3.out⟩
              · obtain ⟨wo, rfl⟩ : ∃ wo : World, wo = wr := ⟨_, rfl⟩
                go_wp2
                go_loopw [0, 4, 6] (fun x e i wr => DbR w (V .f64 b) e' x e i wr) (fun _ _ i _ => 1100 - (intOf i).toNat)
                case atStart => exact ⟨b, 0, e', rfl, rfl, rfl, by omega, rfl, by omega, by omega, HX2.out⟩
                case round =>
                  obtain ⟨b2, k2, e2, rfl, rfl, rfl, hk2, hD, he3, he4, hx2⟩ := hrel
                  have HX : Hid (dbl 1100 (V .f64 b) e' = dbl (1100 - k2) (V .f64 b2) e2 ∧ Ext w wr) := ⟨hD, hx2⟩
                  clear hD hx2
                  by_cases hgo : k2 < 1100 ∧ lt (V .f64 b2) one64 = true
                  · have q1 : decide ((k2 : Int) < 1100) = true := decide_eq_true (by omega)
                    have q2 : (FloatKind.f64.format.order b2 4607182418800017408 == some .lt) = true := by rw [order_V]; exact hgo.2
                    have HS : Hid (dbl (1100 - k2) (V .f64 b2) e2 = dbl (1100 - (k2 + 1)) (mul .f64 (V .f64 b2) two64) (e2 - 1)) := by
                      obtain ⟨q, hq⟩ : ∃ q, 1100 - k2 = q + 1 := ⟨1100 - k2 - 1, by omega⟩
                      show _ = _
                      rw [hq, dbl, if_pos hgo.2, show 1100 - (k2 + 1) = q from by omega]
                    have hk1 : k2 < 1100 := hgo.1
                    clear hgo
                    go_wp2
                    go_roundw
                    case rel =>
                      have hrel' : DbR w (V .f64 b) e' (.float .f64 (fb .mul .f64 b2 4611686018427387904 wr.tape wr.drawn)) (.int .i64 (e2 - 1)) (.int .i64 ((k2 : Int) + 1)) (wr.drewN (fn .mul .f64 b2 4611686018427387904)) := by
                        refine ⟨_, k2 + 1, e2 - 1, rfl, rfl, by go_num, by omega, ?_, by omega, by omega, HX.out.2.drewN _⟩
                        rw [HX.out.1, HS.out, V_mul]; rfl
                      first | exact hrel' | ((repeat apply Exists.intro); exact ⟨hrel', rfl⟩)
                    case measure => simp [intOf]; omega
                  · have HE2 : Hid (dbl 1100 (V .f64 b) e' = (V .f64 b2, e2)) := by
                      show _ = _
                      rw [HX.out.1]
                      cases hq : 1100 - k2 with
                      | zero => rfl
                      | succ q =>
                        rw [dbl, if_neg (fun h => hgo ⟨by omega, h⟩)]
                    have HX3 : Hid (Ext w wr) := HX.out.2
                    have d2 : (decide ((k2 : Int) < 1100) = false) ∨ (decide ((k2 : Int) < 1100) = true ∧ (FloatKind.f64.format.order b2 4607182418800017408 == some .lt) = false) := by
                      by_cases h1 : k2 < 1100
                      · refine .inr ⟨decide_eq_true (by omega), ?_⟩
                        rw [order_V]
                        have : ¬ lt (V .f64 b2) one64 = true := fun h => hgo ⟨h1, h⟩
                        rw [Bool.not_eq_true] at this
                        exact this
                      · exact .inl (decide_eq_false (by omega))
                    clear hgo HX
                    rcases d2 with d2 | ⟨d2, d3⟩
                    · by_cases f1 : ge (V .f64 b2) one64 = true
                      · have g1 : (FloatKind.f64.format.order b2 4607182418800017408 == some .gt || FloatKind.f64.format.order b2 4607182418800017408 == some .eq) = true := by rw [order_V]; exact f1
                        by_cases f2 : lt (V .f64 b2) two64 = true
                        · have g2 : (FloatKind.f64.format.order b2 4611686018427387904 == some .lt) = true := by rw [order_V]; exact f2
                          have hok := digits_ok f1 f2
                          have hcv : ∀ τ n wx, (convert 80 3 (.float .f64 (fb .mul .f64 b2 4841369599423283200 τ n))).run Try.prog wx = .ok (.int .i64 (Pl.toI (mul .f64 (V .f64 b2) p52))) wx := by
                            intro τ n wx
                            have e : V .f64 (fb .mul .f64 b2 4841369599423283200 τ n) = mul .f64 (V .f64 b2) p52 := by rw [V_mul]; rfl
                            rw [run_convert_float_int wx 80 3 .f64 .i64 _ _ (by rw [Try.underlying80]; rfl) Try.underlying3 (toI_law _ _ (by rw [e]; exact hok)), e]
                          have HF : Hid (text (V .f64 x) = sg ++ Tx.itoa (Pl.toI (mul .f64 (V .f64 b2) p52)) ++ [112] ++ Tx.itoa e2) := by
                            show _ = _
                            rw [HT.out.1, HB.out, HE.out, HE2.out]
                            simp only [f1, f2]
                            rfl
                          have HI : Hid (in64 (Pl.toI (mul .f64 (V .f64 b2) p52))) := toI_64 hok
                          clear f1 f2 hok
                          generalize Pl.toI (mul .f64 (V .f64 b2) p52) = M at *
                          go_wp2_with fail
                          refine (itoa_all M HI.out _).mono ?_
                          rintro e w5 ⟨rfl, x5⟩
                          have L1 : (st (Tx.itoa M)).size ≤ 21 := by rw [Tx.st_size]; exact Tx.itoa_len M
                          have X5 : Hid (Ext w w5) := (HX3.out.drewN _).trans x5
                          clear x5
                          go_wp2_with fail
                          refine (itoa_all e2 (by unfold in64; omega) _).mono ?_
                          rintro e w6 ⟨rfl, x6⟩
                          have L2 : (st (Tx.itoa e2)).size ≤ 21 := by rw [Tx.st_size]; exact Tx.itoa_len e2
                          have X6 : Hid (Ext w w6) := X5.out.trans x6
                          clear x6
                          have HF2 : Hid (st (text (V .f64 x)) = st sg ++ st (Tx.itoa M) ++ { data := #[112] } ++ st (Tx.itoa e2)) := by
                            show _ = _
                            rw [HF.out, ← Tx.st_append, ← Tx.st_append, ← Tx.st_append]; rfl
                          have S1 : (st sg ++ st (Tx.itoa M)).size = (st sg).size + (st (Tx.itoa M)).size := ByteArray.size_append
                          generalize st (Tx.itoa M) = A at *
                          generalize st (Tx.itoa e2) = B at *
                          go_wp2
                          go_ret
                          exact ⟨by rw [HF2.out]; rfl, X6.out⟩
                        · have f2' : lt (V .f64 b2) two64 = false := by simpa using f2
                          have g2 : (FloatKind.f64.format.order b2 4611686018427387904 == some .lt) = false := by rw [order_V]; exact f2'
                          have HF : Hid (st (text (V .f64 x)) = st sg ++ { data := #[63] }) := by
                            show _ = _
                            rw [HT.out.1, HB.out, HE.out, HE2.out]
                            simp only [f1, f2', Bool.and_false, Bool.false_eq_true, if_false]
                            rw [← Tx.st_append]; rfl
                          go_wp2
                          go_ret
                          exact ⟨by rw [HF.out]; rfl, HX3.out⟩
                      · have f1' : ge (V .f64 b2) one64 = false := by simpa using f1
                        have g1 : (FloatKind.f64.format.order b2 4607182418800017408 == some .gt || FloatKind.f64.format.order b2 4607182418800017408 == some .eq) = false := by rw [order_V]; exact f1'
                        have HF : Hid (st (text (V .f64 x)) = st sg ++ { data := #[63] }) := by
                          show _ = _
                          rw [HT.out.1, HB.out, HE.out, HE2.out]
                          simp only [f1', Bool.false_and, Bool.false_eq_true, if_false]
                          rw [← Tx.st_append]; rfl
                        go_wp2
                        go_ret
                        exact ⟨by rw [HF.out]; rfl, HX3.out⟩
                    · by_cases f1 : ge (V .f64 b2) one64 = true
                      · have g1 : (FloatKind.f64.format.order b2 4607182418800017408 == some .gt || FloatKind.f64.format.order b2 4607182418800017408 == some .eq) = true := by rw [order_V]; exact f1
                        by_cases f2 : lt (V .f64 b2) two64 = true
                        · have g2 : (FloatKind.f64.format.order b2 4611686018427387904 == some .lt) = true := by rw [order_V]; exact f2
                          have hok := digits_ok f1 f2
                          have hcv : ∀ τ n wx, (convert 80 3 (.float .f64 (fb .mul .f64 b2 4841369599423283200 τ n))).run Try.prog wx = .ok (.int .i64 (Pl.toI (mul .f64 (V .f64 b2) p52))) wx := by
                            intro τ n wx
                            have e : V .f64 (fb .mul .f64 b2 4841369599423283200 τ n) = mul .f64 (V .f64 b2) p52 := by rw [V_mul]; rfl
                            rw [run_convert_float_int wx 80 3 .f64 .i64 _ _ (by rw [Try.underlying80]; rfl) Try.underlying3 (toI_law _ _ (by rw [e]; exact hok)), e]
                          have HF : Hid (text (V .f64 x) = sg ++ Tx.itoa (Pl.toI (mul .f64 (V .f64 b2) p52)) ++ [112] ++ Tx.itoa e2) := by
                            show _ = _
                            rw [HT.out.1, HB.out, HE.out, HE2.out]
                            simp only [f1, f2]
                            rfl
                          have HI : Hid (in64 (Pl.toI (mul .f64 (V .f64 b2) p52))) := toI_64 hok
                          clear f1 f2 hok
                          generalize Pl.toI (mul .f64 (V .f64 b2) p52) = M at *
                          go_wp2_with fail
                          refine (itoa_all M HI.out _).mono ?_
                          rintro e w5 ⟨rfl, x5⟩
                          have L1 : (st (Tx.itoa M)).size ≤ 21 := by rw [Tx.st_size]; exact Tx.itoa_len M
                          have X5 : Hid (Ext w w5) := (HX3.out.drewN _).trans x5
                          clear x5
                          go_wp2_with fail
                          refine (itoa_all e2 (by unfold in64; omega) _).mono ?_
                          rintro e w6 ⟨rfl, x6⟩
                          have L2 : (st (Tx.itoa e2)).size ≤ 21 := by rw [Tx.st_size]; exact Tx.itoa_len e2
                          have X6 : Hid (Ext w w6) := X5.out.trans x6
                          clear x6
                          have HF2 : Hid (st (text (V .f64 x)) = st sg ++ st (Tx.itoa M) ++ { data := #[112] } ++ st (Tx.itoa e2)) := by
                            show _ = _
                            rw [HF.out, ← Tx.st_append, ← Tx.st_append, ← Tx.st_append]; rfl
                          have S1 : (st sg ++ st (Tx.itoa M)).size = (st sg).size + (st (Tx.itoa M)).size := ByteArray.size_append
                          generalize st (Tx.itoa M) = A at *
                          generalize st (Tx.itoa e2) = B at *
                          go_wp2
                          go_ret
                          exact ⟨by rw [HF2.out]; rfl, X6.out⟩
                        · have f2' : lt (V .f64 b2) two64 = false := by simpa using f2
                          have g2 : (FloatKind.f64.format.order b2 4611686018427387904 == some .lt) = false := by rw [order_V]; exact f2'
                          have HF : Hid (st (text (V .f64 x)) = st sg ++ { data := #[63] }) := by
                            show _ = _
                            rw [HT.out.1, HB.out, HE.out, HE2.out]
                            simp only [f1, f2', Bool.and_false, Bool.false_eq_true, if_false]
                            rw [← Tx.st_append]; rfl
                          go_wp2
                          go_ret
                          exact ⟨by rw [HF.out]; rfl, HX3.out⟩
                      · have f1' : ge (V .f64 b2) one64 = false := by simpa using f1
                        have g1 : (FloatKind.f64.format.order b2 4607182418800017408 == some .gt || FloatKind.f64.format.order b2 4607182418800017408 == some .eq) = false := by rw [order_V]; exact f1'
                        have HF : Hid (st (text (V .f64 x)) = st sg ++ { data := #[63] }) := by
                          show _ = _
                          rw [HT.out.1, HB.out, HE.out, HE2.out]
                          simp only [f1', Bool.false_and, Bool.false_eq_true, if_false]
                          rw [← Tx.st_append]; rfl
                        go_wp2
                        go_ret
                        exact ⟨by rw [HF.out]; rfl, HX3.out⟩
        · have HF : Hid (st (text (V .f64 x)) = st sg ++ { data := #[73, 110, 102] }) := by
            show _ = _
            rw [HT.out.1, HB.out, if_pos rfl, ← Tx.st_append]; rfl
          go_wp2
          go_ret
          exact ⟨by rw [HF.out]; rfl, HT.out.2.drewN _⟩
    · have H2 : Hid (eq (V .f64 x) Pl.zero64 = true) := by rw [order_V] at h2; exact h2
      have h3 : ∀ τ n, (FloatKind.f64.format.order (fb .quo .f64 4607182418800017408 x τ n) 0 == some .lt) = lt (div .f64 one64 (V .f64 x)) Pl.zero64 := by
        intro τ n
        rw [order_V, V_quo]; rfl
      have HT : Hid (text (V .f64 x) = if lt (div .f64 one64 (V .f64 x)) Pl.zero64 then [45, 48] else [43, 48]) := by
        show _ = _
        unfold text
        rw [H1.out, H2.out]; rfl
      generalize lt (div .f64 one64 (V .f64 x)) Pl.zero64 = t at *
      cases t
      · go_enter Try.func73, Try.ntmps73
        go_wp2
        go_ret
        exact ⟨by rw [HT.out]; rfl, (Ext.refl _).drewN _⟩
      · go_enter Try.func73, Try.ntmps73
        go_wp2
        go_ret
        exact ⟨by rw [HT.out]; rfl, (Ext.refl _).drewN _⟩
end Go.Proofs.Qxb6500343a
