/-
  The model's series: Pop, Min, Max.
-/
import Derived.Test.Qxb6500343aN1
namespace Go.Proofs.Qxb6500343a
open Go.RowKit
open Go.Proofs
open Ieee (Datum)
open Fl
open Tx (st)
open Ff (in64)
set_option linter.unusedSimpArgs false
set_option linter.unusedVariables false
attribute [local go_sem] run_fadd run_fsub run_fmul run_fquo run_store_float alloc_drewN setCell_drewN shape?_drewN tape_alloc drawn_alloc tape_setCell drawn_setCell drawn_drewN drawn_drew run_fneg

set_option maxHeartbeats 1000000 in
theorem smpop_none (w : World) (B m : Nat) (v : Value) (h : SmAt w B m v []) : Calls Try.prog 44 #[.pointer (some ⟨m, 0, none⟩)] w fun e w' => e = .returned (.int .i64 2) ∧ Ext w w' := by
  obtain ⟨ad, cap, l, rfl, _⟩ := h.form
  obtain ⟨c, ha⟩ := h.hp
  have g0 : w.cell? ⟨m, 0, none⟩ = some (.slice ad 0 cap) := cell_of ha 0
  clear h ha
  go_enter Try.func44, Try.ntmps44
  go_wp2
  go_ret
  exact ⟨rfl, Ext.refl _⟩
theorem fv_take (l : List Nat) (n : Nat) : fv (l.take n) = (fv l).take n := by simp [fv, List.map_take]
set_option maxRecDepth 100000 in
set_option maxHeartbeats 2000000 in
theorem smpop_some (w : World) (B m : Nat) (v : Value) (xs : List Datum) (h : SmAt w B m v xs) (hn : 0 < xs.length) : Calls Try.prog 44 #[.pointer (some ⟨m, 0, none⟩)] w fun e w' => e = .returned (.int .i64 0) ∧ ∃ v', SmAt w' B m v' xs.dropLast ∧ Chg [m] w w' ∧ blk v' = blk v := by
  have HS : Hid (SmAt w B m v xs) := h
  obtain ⟨l, ho, hl⟩ := h.own
  have hll : l.length = xs.length := by rw [← hl, List.length_map]
  obtain ⟨hfl, ho2⟩ := ho
  obtain ⟨g, cap, cur, hv, h1, h2, h3, h4, h5, h6⟩ : ∃ g cap cur, v = .slice (some ⟨g, 0, none⟩) l.length cap ∧ B ≤ g ∧ w.heap[g]? = some (.cells cur 80 (0, 0)) ∧ l.length ≤ cap ∧ cap ≤ maxLen ∧ cur.size = cap * 1 ∧ cur.toList.take (l.length * 1) = fv l := by
    rcases ho2 with ⟨_, h0⟩ | h
    · omega
    · exact h
  rw [hll] at hv
  subst hv
  have HO : Hid (B ≤ g ∧ w.heap[g]? = some (.cells cur 80 (0, 0)) ∧ l.length ≤ cap ∧ cap ≤ maxLen ∧ cur.size = cap * 1 ∧ cur.toList.take (l.length * 1) = fv l ∧ l.map (V .f64) = xs ∧ l.length = xs.length) := ⟨h1, h2, h3, h4, h5, h6, hl, hll⟩
  obtain ⟨c, ha⟩ := h.hp
  have HA : Hid (w.heap[m]? = some (.cells #[.slice (some ⟨g, 0, none⟩) xs.length cap, .int .i64 c] 106)) := ha
  have g0 : w.cell? ⟨m, 0, none⟩ = some (.slice (some ⟨g, 0, none⟩) xs.length cap) := cell_of ha 0
  have gf := frozen_of ha
  have hz : ((xs.length : Int) == 0) = false := beq_eq_false_iff_ne.2 (by omega)
  have hl8 := h.len
  obtain ⟨n, hnn⟩ : ∃ n, xs.length = n + 1 := ⟨xs.length - 1, by omega⟩
  have hc1 : n ≤ cap := by omega
  have HN : Hid (xs.length = n + 1 ∧ n + 1 ≤ cap) := ⟨hnn, by omega⟩
  have e1 : ((n : Int) + 1) - 1 = (n : Int) := by omega
  have q1 : (n : Int) ≤ (cap : Int) := by omega
  have q2 : (0 : Int) ≤ (n : Int) := by omega
  have i1 : IntKind.i64.wrap (n : Int) = n := by rw [IntKind.wrap_i64]; omega
  have i2 : wrap64 (n : Int) = n := IntWalk.wrap64_in _ (by omega)
  rw [hnn] at g0 hz
  rw [show (((n + 1 : Nat)) : Int) = (n : Int) + 1 from by omega] at hz
  clear h ha h1 h2 h3 h4 h5 h6 hl hll hfl ho2 hnn hn
  go_enter Try.func44, Try.ntmps44
  go_wp2
  go_region
  go_wp2
  go_ret
  obtain ⟨h1, h2, h3, h4, h5, h6, hl, hll⟩ := HO.out
  have hnm : m ∉ blk (.slice (some ⟨g, 0, none⟩) xs.length cap) := HS.out.ne
  have hgm : g ≠ m := by simp [blk, Value.ownBlock] at hnm; exact Ne.symm hnm
  have hdl : xs.dropLast.length = n := by rw [List.length_dropLast, HN.out.1]; rfl
  refine ⟨rfl, .slice (some ⟨g, 0, none⟩) n cap, ⟨⟨c, ?_⟩, ⟨l.take n, ⟨by simp [fv], .inr ⟨g, cap, cur, ?_, h1, ?_, ?_, h4, h5, ?_⟩⟩, ?_⟩, ?_, ?_, HS.out.hB⟩, ?_, ?_⟩
  · first | (rw [heap_drew, heap_set HA.out]; rfl) | (show (w.setCell _ _).heap[m]? = _; rw [heap_set HA.out]; rfl)
  · rw [List.length_take, show min n l.length = n from by have := HN.out.1; omega]
  · show (w.setCell _ _).heap[g]? = _; rw [heap_set_ne hgm]; exact h2
  · rw [List.length_take]; have := HN.out; omega
  · rw [fv_take, ← h6, List.take_take, List.length_take]; congr 1; have := HN.out.1; omega
  · rw [List.map_take, hl, List.dropLast_eq_take, HN.out.1]; rfl
  · simpa [blk, Value.ownBlock] using hnm
  · rw [hdl]; have := HN.out.1; omega
  · exact ((Chg.refl _ _).setCell (by simp) _).drew
  · rfl
set_option maxHeartbeats 2000000 in
theorem smmin_some (w : World) (B m : Nat) (v : Value) (xs : List Datum) (h : SmAt w B m v xs) (hn : 0 < xs.length) : Calls Try.prog 49 #[.pointer (some ⟨m, 0, none⟩)] w fun e w' => ∃ r, e = .returned (.tuple #[.float .f64 r, .int .i64 0]) ∧ V .f64 r = Pl.minL xs ∧ SmAt w' B m v xs ∧ Chg [m] w w' := by
  have HS : Hid (SmAt w B m v xs) := h
  obtain ⟨ad, cap, l, rfl, hll, hl, hf⟩ := h.form
  obtain ⟨g, rfl, hcell⟩ : ∃ g, ad = some ⟨g, 0, none⟩ ∧ ∀ w', Ext w w' → ∀ i, i < xs.length → w'.cell? ⟨g, i, none⟩ = some (.float .f64 (l.getD i 0)) := by
    rcases hf with h0 | h
    · omega
    · exact h
  clear hf
  obtain ⟨c, ha⟩ := h.hp
  have hnm := h.ne
  have hgm : g ≠ m := by simp [blk, Value.ownBlock] at hnm; exact Ne.symm hnm
  have g0 : w.cell? ⟨m, 0, none⟩ = some (.slice (some ⟨g, 0, none⟩) xs.length cap) := cell_of ha 0
  have g1 : w.cell? ⟨m, 1, none⟩ = some (.int .i64 c) := cell_of ha 1
  have gf := frozen_of ha
  have HA : Hid (w.heap[m]? = some (.cells #[.slice (some ⟨g, 0, none⟩) xs.length cap, .int .i64 c] 106) ∧ l.length = xs.length ∧ l.map (V .f64) = xs) := ⟨ha, hll, hl⟩
  have hz : ((xs.length : Int) == 0) = false := beq_eq_false_iff_ne.2 (by omega)
  have k0 : w.cell? ⟨g, 0, none⟩ = some (.float .f64 (l.getD 0 0)) := hcell w (Ext.refl _) 0 hn
  have hn0 : (0 : Int) < (xs.length : Int) := by omega
  have hl8 := h.len
  have HC : Hid (∀ i, i < xs.length → w.cell? ⟨g, i, none⟩ = some (.float .f64 (l.getD i 0))) := fun i hi => hcell w (Ext.refl _) i hi
  have hmg : m ≠ g := Ne.symm hgm
  clear h ha hll hl hcell hnm
  have fin : ∀ x : Value, SmAt (w.setCell ⟨m, 1, none⟩ (.int .i64 (wrap64 (c + 1)))) B m (.slice (some ⟨g, 0, none⟩) xs.length cap) xs ∧ Chg [m] w (w.setCell ⟨m, 1, none⟩ (.int .i64 (wrap64 (c + 1)))) := by
    intro _
    have cs : Chg [m] w (w.setCell ⟨m, 1, none⟩ (.int .i64 (wrap64 (c + 1)))) := (Chg.refl _ _).setCell (by simp) _
    obtain ⟨_, ⟨l', ho, hl'⟩, hne, hlen, hB⟩ := HS.out
    refine ⟨⟨⟨wrap64 (c + 1), by rw [heap_set HA.out.1]; rfl⟩, ⟨l', ho.chg cs ?_, hl'⟩, hne, hlen, hB⟩, cs⟩
    intro g' hg'
    simp [blk, Value.ownBlock] at hg'
    subst hg'
    simpa using hgm
  have HF : Hid _ := fin (.int .i64 0)
  clear fin
  go_enter Try.func49, Try.ntmps49
  go_wp2
  go_loop [4, 5] (fun t i => ∃ r k : Nat, 1 ≤ k ∧ k ≤ xs.length ∧ i = .int .i64 k ∧ t = .float .f64 r ∧ V .f64 r = Pl.minL (xs.take k)) (fun _ i => xs.length - (intOf i).toNat)
  case atStart =>
    refine ⟨l.getD 0 0, 1, by omega, by omega, rfl, rfl, ?_⟩
    obtain ⟨_, hll, hl⟩ := HA.out
    rw [getD_V hl (by omega)]
    cases xs with
    | nil => simp at hn
    | cons x r => rfl
  case round =>
    obtain ⟨r, k, hk1, hk, rfl, rfl, hr⟩ := hrel
    have HR : Hid (V .f64 r = Pl.minL (xs.take k)) := hr
    clear hr k0
    by_cases hlt : k < xs.length
    · have hd : decide ((k : Int) < (xs.length : Int)) = true := decide_eq_true (by omega)
      have hk0 : (k : Int) < (xs.length : Int) := by omega
      have kk : w.cell? ⟨g, k, none⟩ = some (.float .f64 (l.getD k 0)) := HC.out k hlt
      have HX : Hid (Pl.minL (xs.take (k + 1)) = Pl.stepLo (V .f64 (l.getD k 0)) (Pl.minL (xs.take k))) := by
        show _ = _
        obtain ⟨_, hll, hl⟩ := HA.out
        rw [getD_V hl (by omega), List.take_add_one, List.getElem?_eq_getElem hlt]
        simp only [Option.toList_some]
        rw [Pl.minL_snoc _ _ (by
          intro e
          have h9 : (xs.take k).length = k := by rw [List.length_take]; omega
          rw [e] at h9
          simp only [List.length_nil] at h9
          omega)]
        congr 1
        simp [hlt]
      generalize l.getD k 0 = y at *
      cases ht : (FloatKind.f64.format.order y r == some .lt)
      · have HT : Hid (lt (V .f64 y) (V .f64 r) = false) := by rw [order_V] at ht; exact ht
        go_wp2
        go_round
        case rel =>
          have hrel' : ∃ r' k' : Nat, 1 ≤ k' ∧ k' ≤ xs.length ∧ (Value.int .i64 ((k : Int) + 1)) = .int .i64 k' ∧ (Value.float .f64 r) = .float .f64 r' ∧ V .f64 r' = Pl.minL (xs.take k') := ⟨r, k + 1, by omega, by omega, by go_num, rfl, by rw [HX.out, ← HR.out]; unfold Pl.stepLo; rw [HT.out]; rfl⟩
          first | exact hrel' | (refine ⟨trivial, ?_⟩; (repeat apply Exists.intro); exact ⟨hrel', rfl⟩)
        case measure => simp [intOf]; omega
      · have HT : Hid (lt (V .f64 y) (V .f64 r) = true) := by rw [order_V] at ht; exact ht
        go_wp2
        go_round
        case rel =>
          have hrel' : ∃ r' k' : Nat, 1 ≤ k' ∧ k' ≤ xs.length ∧ (Value.int .i64 ((k : Int) + 1)) = .int .i64 k' ∧ (Value.float .f64 y) = .float .f64 r' ∧ V .f64 r' = Pl.minL (xs.take k') := ⟨y, k + 1, by omega, by omega, by go_num, rfl, by rw [HX.out, ← HR.out]; unfold Pl.stepLo; rw [HT.out]; rfl⟩
          first | exact hrel' | (refine ⟨trivial, ?_⟩; (repeat apply Exists.intro); exact ⟨hrel', rfl⟩)
        case measure => simp [intOf]; omega
    · have hd : decide ((k : Int) < (xs.length : Int)) = false := decide_eq_false (by omega)
      have HK : Hid (V .f64 r = Pl.minL xs) := by
        have e : xs.take k = xs := List.take_of_length_le (by omega)
        have := HR.out
        rw [e] at this
        exact this
      go_wp2
      go_ret2
      exact ⟨r, rfl, HK.out, HF.out⟩
set_option maxHeartbeats 2000000 in
theorem smmax_some (w : World) (B m : Nat) (v : Value) (xs : List Datum) (h : SmAt w B m v xs) (hn : 0 < xs.length) : Calls Try.prog 50 #[.pointer (some ⟨m, 0, none⟩)] w fun e w' => ∃ r, e = .returned (.tuple #[.float .f64 r, .int .i64 0]) ∧ V .f64 r = Pl.maxL xs ∧ SmAt w' B m v xs ∧ Chg [m] w w' := by
  have HS : Hid (SmAt w B m v xs) := h
  obtain ⟨ad, cap, l, rfl, hll, hl, hf⟩ := h.form
  obtain ⟨g, rfl, hcell⟩ : ∃ g, ad = some ⟨g, 0, none⟩ ∧ ∀ w', Ext w w' → ∀ i, i < xs.length → w'.cell? ⟨g, i, none⟩ = some (.float .f64 (l.getD i 0)) := by
    rcases hf with h0 | h
    · omega
    · exact h
  clear hf
  obtain ⟨c, ha⟩ := h.hp
  have hnm := h.ne
  have hgm : g ≠ m := by simp [blk, Value.ownBlock] at hnm; exact Ne.symm hnm
  have g0 : w.cell? ⟨m, 0, none⟩ = some (.slice (some ⟨g, 0, none⟩) xs.length cap) := cell_of ha 0
  have g1 : w.cell? ⟨m, 1, none⟩ = some (.int .i64 c) := cell_of ha 1
  have gf := frozen_of ha
  have HA : Hid (w.heap[m]? = some (.cells #[.slice (some ⟨g, 0, none⟩) xs.length cap, .int .i64 c] 106) ∧ l.length = xs.length ∧ l.map (V .f64) = xs) := ⟨ha, hll, hl⟩
  have hz : ((xs.length : Int) == 0) = false := beq_eq_false_iff_ne.2 (by omega)
  have k0 : w.cell? ⟨g, 0, none⟩ = some (.float .f64 (l.getD 0 0)) := hcell w (Ext.refl _) 0 hn
  have hn0 : (0 : Int) < (xs.length : Int) := by omega
  have hl8 := h.len
  have HC : Hid (∀ i, i < xs.length → w.cell? ⟨g, i, none⟩ = some (.float .f64 (l.getD i 0))) := fun i hi => hcell w (Ext.refl _) i hi
  have hmg : m ≠ g := Ne.symm hgm
  clear h ha hll hl hcell hnm
  have fin : ∀ x : Value, SmAt (w.setCell ⟨m, 1, none⟩ (.int .i64 (wrap64 (c + 1)))) B m (.slice (some ⟨g, 0, none⟩) xs.length cap) xs ∧ Chg [m] w (w.setCell ⟨m, 1, none⟩ (.int .i64 (wrap64 (c + 1)))) := by
    intro _
    have cs : Chg [m] w (w.setCell ⟨m, 1, none⟩ (.int .i64 (wrap64 (c + 1)))) := (Chg.refl _ _).setCell (by simp) _
    obtain ⟨_, ⟨l', ho, hl'⟩, hne, hlen, hB⟩ := HS.out
    refine ⟨⟨⟨wrap64 (c + 1), by rw [heap_set HA.out.1]; rfl⟩, ⟨l', ho.chg cs ?_, hl'⟩, hne, hlen, hB⟩, cs⟩
    intro g' hg'
    simp [blk, Value.ownBlock] at hg'
    subst hg'
    simpa using hgm
  have HF : Hid _ := fin (.int .i64 0)
  clear fin
  go_enter Try.func50, Try.ntmps50
  go_wp2
  go_loop [4, 5] (fun t i => ∃ r k : Nat, 1 ≤ k ∧ k ≤ xs.length ∧ i = .int .i64 k ∧ t = .float .f64 r ∧ V .f64 r = Pl.maxL (xs.take k)) (fun _ i => xs.length - (intOf i).toNat)
  case atStart =>
    refine ⟨l.getD 0 0, 1, by omega, by omega, rfl, rfl, ?_⟩
    obtain ⟨_, hll, hl⟩ := HA.out
    rw [getD_V hl (by omega)]
    cases xs with
    | nil => simp at hn
    | cons x r => rfl
  case round =>
    obtain ⟨r, k, hk1, hk, rfl, rfl, hr⟩ := hrel
    have HR : Hid (V .f64 r = Pl.maxL (xs.take k)) := hr
    clear hr k0
    by_cases hlt : k < xs.length
    · have hd : decide ((k : Int) < (xs.length : Int)) = true := decide_eq_true (by omega)
      have hk0 : (k : Int) < (xs.length : Int) := by omega
      have kk : w.cell? ⟨g, k, none⟩ = some (.float .f64 (l.getD k 0)) := HC.out k hlt
      have HX : Hid (Pl.maxL (xs.take (k + 1)) = Pl.stepHi (V .f64 (l.getD k 0)) (Pl.maxL (xs.take k))) := by
        show _ = _
        obtain ⟨_, hll, hl⟩ := HA.out
        rw [getD_V hl (by omega), List.take_add_one, List.getElem?_eq_getElem hlt]
        simp only [Option.toList_some]
        rw [Pl.maxL_snoc _ _ (by
          intro e
          have h9 : (xs.take k).length = k := by rw [List.length_take]; omega
          rw [e] at h9
          simp only [List.length_nil] at h9
          omega)]
        congr 1
        simp [hlt]
      generalize l.getD k 0 = y at *
      cases ht : (FloatKind.f64.format.order y r == some .gt)
      · have HT : Hid (gt (V .f64 y) (V .f64 r) = false) := by rw [order_V] at ht; exact ht
        go_wp2
        go_round
        case rel =>
          have hrel' : ∃ r' k' : Nat, 1 ≤ k' ∧ k' ≤ xs.length ∧ (Value.int .i64 ((k : Int) + 1)) = .int .i64 k' ∧ (Value.float .f64 r) = .float .f64 r' ∧ V .f64 r' = Pl.maxL (xs.take k') := ⟨r, k + 1, by omega, by omega, by go_num, rfl, by rw [HX.out, ← HR.out]; unfold Pl.stepHi; rw [HT.out]; rfl⟩
          first | exact hrel' | (refine ⟨trivial, ?_⟩; (repeat apply Exists.intro); exact ⟨hrel', rfl⟩)
        case measure => simp [intOf]; omega
      · have HT : Hid (gt (V .f64 y) (V .f64 r) = true) := by rw [order_V] at ht; exact ht
        go_wp2
        go_round
        case rel =>
          have hrel' : ∃ r' k' : Nat, 1 ≤ k' ∧ k' ≤ xs.length ∧ (Value.int .i64 ((k : Int) + 1)) = .int .i64 k' ∧ (Value.float .f64 y) = .float .f64 r' ∧ V .f64 r' = Pl.maxL (xs.take k') := ⟨y, k + 1, by omega, by omega, by go_num, rfl, by rw [HX.out, ← HR.out]; unfold Pl.stepHi; rw [HT.out]; rfl⟩
          first | exact hrel' | (refine ⟨trivial, ?_⟩; (repeat apply Exists.intro); exact ⟨hrel', rfl⟩)
        case measure => simp [intOf]; omega
    · have hd : decide ((k : Int) < (xs.length : Int)) = false := decide_eq_false (by omega)
      have HK : Hid (V .f64 r = Pl.maxL xs) := by
        have e : xs.take k = xs := List.take_of_length_le (by omega)
        have := HR.out
        rw [e] at this
        exact this
      go_wp2
      go_ret2
      exact ⟨r, rfl, HK.out, HF.out⟩
end Go.Proofs.Qxb6500343a

