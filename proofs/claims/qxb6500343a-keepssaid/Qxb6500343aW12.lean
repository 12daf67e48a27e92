/-
  Walks 12: Itoa.
-/
import Derived.Test.Qxb6500343aTx
import Derived.Test.Qxb6500343aW9
namespace Go.Proofs.Qxb6500343a
open Go.RowKit
open Go.Proofs
open Ieee (Datum)
open Fl
open Tx (st)
open Ff (in64)
set_option linter.unusedSimpArgs false
set_option linter.unusedVariables false
attribute [local go_sem] alloc_drewN setCell_drewN shape?_drewN

theorem foldl_push : ∀ (l : List Int) (s : ByteArray), (l.foldl (fun r n => r.push (UInt8.ofNat n.toNat)) s) = ⟨s.data ++ (l.map fun n => UInt8.ofNat n.toNat).toArray⟩
  | [], s => by simp
  | n :: l, s => by
    rw [List.foldl_cons, foldl_push l]
    simp [ByteArray.push]
/-- string(b). -/
theorem conv_bytes (w : World) (g p cap : Nat) (l : List Nat) (h : ∀ t, t < l.length → w.cell? ⟨g, p + t, none⟩ = some (.int .u8 ((l.getD t 0 : Nat) : Int))) :
    (convert 110 9 (.slice (some ⟨g, p, none⟩) l.length cap)).run Try.prog w = .ok (.string (st l)) w := by
  rw [run_convert_bytes_string w 110 9 5 _ _ _ Try.underlying110 Try.underlying5 Try.underlying9]
  have hl := run_loadCells_list (P := Try.prog) w ⟨g, p, none⟩ ((l.map fun (n : Nat) => (n : Int)).map (Value.int .u8)) (fun j v hv => by
    have hj : j < l.length := by
      have := (List.getElem?_eq_some_iff.1 hv).1
      simpa using this
    have e : ((⟨g, p, none⟩ : Addr).add j) = ⟨g, p + j, none⟩ := by unfold Addr.add; split <;> simp_all
    rw [e, h j hj, ← hv]
    simp [hj])
  rw [show (((l.map fun (n : Nat) => (n : Int)).map (Value.int .u8)).length) = l.length from by simp] at hl
  rw [run_bytesToString w _ _ _ _ hl, foldl_push]
  congr 2
  unfold st
  simp [ByteArray.empty, ByteArray.emptyWithCapacity]
  rfl
/-- The loop that gathers the digits, from the array's end. -/
def ItR (w : World) (N : Nat) (a n : Value) (wr : World) : Prop :=
  ∃ (m : Int) (xs : List Nat) (f p : Nat) (C : Array Value), n = .int .i64 m ∧ in64 m ∧ a = .int .i64 (p : Int) ∧ Tx.dg 20 N = xs ++ Tx.dg f m.natAbs ∧ m.natAbs < 10 ^ f ∧ xs.length + f = 20 ∧ p + xs.length = 20 ∧ wr.heap[w.heap.size]? = some (.cells C 109) ∧ C.size = 20 ∧ (∀ t, t < xs.length → C[19 - t]? = some (.int .u8 ((xs.getD t 0 : Nat) : Int))) ∧ Ext w wr
theorem dig_step {C : Array Value} {xs : List Nat} {p d : Nat} {v : Value} (hp : p + 1 + xs.length = 20) (hC : C.size = 20) (h : ∀ t, t < xs.length → C[19 - t]? = some (.int .u8 ((xs.getD t 0 : Nat) : Int))) (hv : v = .int .u8 (d : Int)) : ∀ t, t < (xs ++ [d]).length → (C.setIfInBounds p v)[19 - t]? = some (.int .u8 (((xs ++ [d]).getD t 0 : Nat) : Int)) := by
  intro t ht
  rw [List.length_append, List.length_singleton] at ht
  rw [Array.getElem?_setIfInBounds, hC]
  by_cases e : t = xs.length
  · rw [if_pos (by omega), if_pos (by omega), hv, e, List.getD_eq_getElem?_getD, List.getElem?_append_right (Nat.le_refl _)]
    simp
  · rw [if_neg (by omega), h t (by omega), List.getD_eq_getElem?_getD, List.getD_eq_getElem?_getD, List.getElem?_append_left (by omega)]
set_option maxRecDepth 100000 in
set_option maxHeartbeats 1000000 in
theorem itoa_any (n : Int) (w : World) (h : in64 n) (hn : n ≠ 0) :
    Calls Try.prog 47 #[.int .i64 n] w fun e w' => e = .returned (.string (st (Tx.itoa n))) ∧ Ext w w' := by
  have hne : (n == 0) = false := beq_eq_false_iff_ne.2 hn
  have HN : Hid (in64 n) := h
  clear h
  go_enter Try.func47, Try.ntmps47
  go_wp2
  go_loopw [4, 5] (fun a k wr => ItR w n.natAbs a k wr) (fun _ k _ => (intOf k).natAbs)
  case atStart => exact ⟨n, [], 20, 20, _, rfl, HN.out, rfl, by simp, by have := HN.out; unfold in64 at this; omega, by simp, by simp, heap_alloc_new w _, rfl, by simp, (Ext.refl w).alloc _⟩
  case round =>
    obtain ⟨m, xs, f, p, C, rfl, hm, rfl, hdg, hlt, hf, hp, hC, hCs, hCt, hx⟩ := hrel
    have HD : Hid (Tx.dg 20 n.natAbs = xs ++ Tx.dg f m.natAbs ∧ m.natAbs < 10 ^ f ∧ xs.length + f = 20 ∧ p + xs.length = 20 ∧ wr.heap[w.heap.size]? = some (.cells C 109) ∧ C.size = 20 ∧ (∀ t, t < xs.length → C[19 - t]? = some (.int .u8 ((xs.getD t 0 : Nat) : Int))) ∧ Ext w wr ∧ in64 m) := ⟨hdg, hlt, hf, hp, hC, hCs, hCt, hx, hm⟩
    by_cases hz : m = 0
    · subst hz
      have hxs : xs = Tx.dg 20 n.natAbs := by
        rw [show (0 : Int).natAbs = 0 from rfl, Tx.dg_zero, List.append_nil] at hdg
        exact hdg.symm
      have hcv : (convert 110 9 (.slice (some ⟨w.heap.size, p, none⟩) (20 - p) (20 - p))).run Try.prog wr = .ok (.string (st xs.reverse)) wr := by
        have := conv_bytes wr w.heap.size p (20 - p) xs.reverse (fun t ht => by
          rw [List.length_reverse] at ht
          rw [cell_of hC, show p + t = 19 - (xs.length - 1 - t) from by omega, hCt _ (by omega)]
          congr 3
          rw [List.getD_eq_getElem?_getD, List.getD_eq_getElem?_getD, List.getElem?_reverse ht])
        rw [List.length_reverse] at this
        rw [show 20 - p = xs.length from by omega] at this ⊢
        exact this
      have HY : Hid (Tx.itoa n = (if n < 0 then [45] else []) ++ xs.reverse) := by
        show _ = _
        unfold Tx.itoa Tx.rev
        rw [if_neg hn, ← hxs, List.reverse_append]
        split <;> rfl
      have hx1 : 1 ≤ xs.length := by
        rw [hxs, show (20 : Nat) = 19 + 1 from rfl, Tx.dg, if_neg (by omega)]
        simp
      have hp20 : (p : Int) ≤ 20 := by omega
      have hpe : ¬ (20 = p) := by omega
      have hpn : p ≤ 20 := by omega
      have hxl : xs.length ≤ 20 := by omega
      clear hdg hlt hC hCs hCt hx hm hxs
      generalize hrv : xs.reverse = R at *
      have hRs : (st R).size ≤ 20 := by rw [Tx.st_size, ← hrv, List.length_reverse]; exact hxl
      clear hrv
      by_cases hneg : n < 0
      · have hdn : decide (n < 0) = true := decide_eq_true hneg
        go_wp2
        go_ret
        refine ⟨?_, HD.out.2.2.2.2.2.2.2.1⟩
        rw [HY.out, if_pos (by omega), ← Tx.st_append]
        rfl
      · have hdn : decide (n < 0) = false := decide_eq_false hneg
        go_wp2
        go_ret
        refine ⟨?_, HD.out.2.2.2.2.2.2.2.1⟩
        rw [HY.out, if_neg (by omega)]
        rfl
    · have hmn : (m != 0) = true := by rw [bne_iff_ne]; exact hz
      have hf1 : 1 ≤ f := by
        cases f with
        | zero => simp at hlt; omega
        | succ f => omega
      have hstep : Tx.dg f m.natAbs = (48 + m.natAbs % 10) :: Tx.dg (f - 1) (m.natAbs / 10) := by
        obtain ⟨f, rfl⟩ : ∃ q, f = q + 1 := ⟨f - 1, by omega⟩
        simp only [Tx.dg, Nat.add_sub_cancel]
        rw [if_neg (by omega)]
      have hpow : m.natAbs / 10 < 10 ^ (f - 1) := by
        obtain ⟨f, rfl⟩ : ∃ q, f = q + 1 := ⟨f - 1, by omega⟩
        rw [Nat.pow_succ] at hlt
        simp only [Nat.add_sub_cancel]
        omega
      obtain ⟨p, rfl⟩ : ∃ p', p = p' + 1 := ⟨p - 1, by omega⟩
      have HE : Hid (Tx.dg 20 n.natAbs = (xs ++ [48 + m.natAbs % 10]) ++ Tx.dg (f - 1) (m.natAbs / 10) ∧ m.natAbs / 10 < 10 ^ (f - 1) ∧ (xs ++ [48 + m.natAbs % 10]).length + (f - 1) = 20 ∧ p + (xs ++ [48 + m.natAbs % 10]).length = 20) := by
        refine ⟨?_, hpow, ?_, ?_⟩
        · rw [hdg, hstep]; simp
        · simp; omega
        · simp; omega
      obtain ⟨v0, hv0⟩ : ∃ v, C[p]? = some v := ⟨C[p]'(by omega), Array.getElem?_eq_getElem _⟩
      have c0 : wr.cell? ⟨w.heap.size, p, none⟩ = some v0 := (cell_of hC p).trans hv0
      have cf := frozen_of hC
      have hp19 : (p : Int) < 20 := by omega
      have ep : (((p + 1 : Nat) : Int)) = (p : Int) + 1 := by omega
      rw [ep]
      unfold in64 at hm
      clear hstep hpow hdg hlt hC hCs hCt hx hv0
      by_cases hs : 0 < m
      · have hd : decide (m % 10 < 0) = false := decide_eq_false (by omega)
        go_wp2
        go_roundw
        case rel => exact ⟨m / 10, xs ++ [48 + m.natAbs % 10], f - 1, p, C.setIfInBounds p (.int .u8 (48 + m % 10)), rfl, by unfold in64; omega, rfl, by rw [show (m / 10).natAbs = m.natAbs / 10 from by omega]; exact HE.out.1, by rw [show (m / 10).natAbs = m.natAbs / 10 from by omega]; exact HE.out.2.1, HE.out.2.2.1, HE.out.2.2.2, heap_set HD.out.2.2.2.2.1 p _, by rw [Array.size_setIfInBounds]; exact HD.out.2.2.2.2.2.1, dig_step (by omega) HD.out.2.2.2.2.2.1 HD.out.2.2.2.2.2.2.1 (by congr 1; omega), HD.out.2.2.2.2.2.2.2.1.setCell (Nat.le_refl _) _⟩
        case measure => simp [intOf]; omega
      · have hk : m = -((m.natAbs : Nat) : Int) := by omega
        have e1 : m.tmod 10 = -((m.natAbs % 10 : Nat) : Int) := by
          conv => lhs; rw [hk]
          rw [Int.neg_tmod]
          rfl
        have e2 : m.tdiv 10 = -((m.natAbs / 10 : Nat) : Int) := by
          conv => lhs; rw [hk]
          rw [Int.neg_tdiv]
          rfl
        have t0 : -9 ≤ m.tmod 10 := by omega
        have t1 : m.tmod 10 ≤ 0 := by omega
        have t2 : -922337203685477581 ≤ m.tdiv 10 := by omega
        have t3 : m.tdiv 10 ≤ 0 := by omega
        have HK : Hid (m.tmod 10 = -((m.natAbs % 10 : Nat) : Int) ∧ m.tdiv 10 = -((m.natAbs / 10 : Nat) : Int)) := ⟨e1, e2⟩
        clear hk e1 e2
        by_cases hd0 : m.tmod 10 < 0
        · have hd : decide (m.tmod 10 < 0) = true := decide_eq_true hd0
          go_wp2
          go_roundw
          case rel => exact ⟨m.tdiv 10, xs ++ [48 + m.natAbs % 10], f - 1, p, C.setIfInBounds p (.int .u8 (48 + -m.tmod 10)), rfl, by unfold in64; omega, rfl, by rw [show (m.tdiv 10).natAbs = m.natAbs / 10 from by have := HK.out; omega]; exact HE.out.1, by rw [show (m.tdiv 10).natAbs = m.natAbs / 10 from by have := HK.out; omega]; exact HE.out.2.1, HE.out.2.2.1, HE.out.2.2.2, heap_set HD.out.2.2.2.2.1 p _, by rw [Array.size_setIfInBounds]; exact HD.out.2.2.2.2.2.1, dig_step (by omega) HD.out.2.2.2.2.2.1 HD.out.2.2.2.2.2.2.1 (by congr 1; have := HK.out; omega), HD.out.2.2.2.2.2.2.2.1.setCell (Nat.le_refl _) _⟩
          case measure => show (m.tdiv 10).natAbs < m.natAbs; have := HK.out; omega
        · have hd : decide (m.tmod 10 < 0) = false := decide_eq_false hd0
          go_wp2
          go_roundw
          case rel => exact ⟨m.tdiv 10, xs ++ [48 + m.natAbs % 10], f - 1, p, C.setIfInBounds p (.int .u8 (48 + m.tmod 10)), rfl, by unfold in64; omega, rfl, by rw [show (m.tdiv 10).natAbs = m.natAbs / 10 from by have := HK.out; omega]; exact HE.out.1, by rw [show (m.tdiv 10).natAbs = m.natAbs / 10 from by have := HK.out; omega]; exact HE.out.2.1, HE.out.2.2.1, HE.out.2.2.2, heap_set HD.out.2.2.2.2.1 p _, by rw [Array.size_setIfInBounds]; exact HD.out.2.2.2.2.2.1, dig_step (by omega) HD.out.2.2.2.2.2.1 HD.out.2.2.2.2.2.2.1 (by congr 1; have := HK.out; omega), HD.out.2.2.2.2.2.2.2.1.setCell (Nat.le_refl _) _⟩
          case measure => show (m.tdiv 10).natAbs < m.natAbs; have := HK.out; omega
set_option maxHeartbeats 400000 in
theorem itoa_zero (w : World) : Calls Try.prog 47 #[.int .i64 0] w fun e w' => e = .returned (.string (st (Tx.itoa 0))) ∧ Ext w w' := by
  go_enter Try.func47, Try.ntmps47
  go_wp2
  go_ret
  exact ⟨rfl, Ext.refl _⟩
theorem itoa_all (n : Int) (h : in64 n) (w : World) : Calls Try.prog 47 #[.int .i64 n] w fun e w' => e = .returned (.string (st (Tx.itoa n))) ∧ Ext w w' := by
  by_cases hn : n = 0
  · subst hn; exact itoa_zero w
  · exact itoa_any n w h hn
end Go.Proofs.Qxb6500343a
