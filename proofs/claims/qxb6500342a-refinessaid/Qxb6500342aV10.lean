/-
  Walks 10: Itoa.
-/
import Derived.Test.Qxb6500342aV9
import Derived.Test.Qxb6500342aTx
namespace Go.Proofs.Qxb6500342a
open Go.RowKit
open Go.Proofs
open Pl (Hd)
open Tx (st)
set_option linter.unusedSimpArgs false
set_option linter.unusedVariables false
attribute [local go_sem] alloc_drewN setCell_drewN shape?_drewN

def bv (l : List Nat) : List Value := l.map fun (n : Nat) => Value.int .u8 (n : Int)
/-- A slice of bytes of the call's own. -/
def Own (w : World) (B : Nat) (v : Value) (l : List Nat) : Prop := w.ownsRow B 5 1 v l.length (bv l)
theorem Own.nil (w : World) (B : Nat) : Own w B (.slice none 0 0) [] := World.ownsRow_nil w B 5 1
theorem Own.ext {w w' : World} {B : Nat} {v : Value} {l : List Nat} (h : Own w B v l) (hx : Ext w w') : Own w' B v l :=
  h.kept (row := none) ⟨hx.os, hx.tape, hx.output, hx.size, fun k hk _ => hx.block k hk⟩ (by cases hv : v.ownBlock <;> simp)
theorem info5 : (Try.prog.info? 5).map (fun i => (i.zero, i.size, i.bytes)) = some (some (.int .u8 0), 1, 1) := by kernel_rfl
/-- append(b, bytes..) onto a slice of the call's own. -/
theorem append_bytes {w : World} {ops : Array Oper} {rest : List Oper} {o : Oper} {a : Act} {Q : Exit → Act → World → Prop} (hgd : o.guard = none) (s x : Operand)
    (ho : o.op = .call { callee := .builtin .append, args := #[s, x], argTypes := #[61, 61] }) (B : Nat) (v : Value) (xs : List Nat) (hs : a.eval s = v) (hown : Own w B v xs)
    (ad : Addr) (m c : Nat) (ys : List Nat) (hx : a.eval x = .slice (some ad) m c) (hm : ys.length = m) (hnews : ∀ j u, (bv ys)[j]? = some u → w.cell? (ad.add j) = some u)
    (hlen : xs.length + ys.length ≤ 1099511627776) (hB : B ≤ w.heap.size)
    (h : ∀ v' w', Own w' B v' (xs ++ ys) → w.grownBy w' v.ownBlock → (∀ w0, Ext w0 w → w0.heap.size ≤ B → Ext w0 w') → wpList Try.prog ops Q rest (a.put o.dst v') w') : wpList Try.prog ops Q (o :: rest) a w := by
  obtain ⟨i0, hi, hz0, hz1, hz2⟩ := info_parts info5
  have hlt := hown.lt
  refine wpList_append_own w hgd s x 61 ho B 5 i0 (.int .u8 0) 1 1 Try.underlying61 hi hz0 hz1 hz2 rfl (by decide) v xs.length (bv xs) hs hown ad m c (bv ys) hx (by simp [bv, hm]) hnews ?_ ?_ ?_ hB ?_
  · intro u hu; simp only [bv, List.mem_map] at hu; obtain ⟨q, _, rfl⟩ := hu; rfl
  · unfold maxLen; omega
  · omega
  · intro v' w' h1 h2 _
    refine h v' w' ?_ h2 (fun w0 hw0 hb => Below.grown hw0 h2 hw0.size (fun k hk => by have := (hlt k hk).1; omega))
    unfold Own
    rw [List.length_append, hm]
    simpa [bv] using h1

theorem news_one (w : World) (x : Int) (d : Nat) (h : x = (d : Int)) : ∀ j u, (bv [d])[j]? = some u → (w.alloc (.cells #[.int .u8 x] 5)).cell? ((⟨w.heap.size, 0, none⟩ : Addr).add j) = some u := by
  intro j u hj
  match j, hj with
  | 0, hj => simp [bv] at hj; subst hj; simp [Addr.add, h]
theorem foldl_push : ∀ (l : List Int) (s : ByteArray), (l.foldl (fun r n => r.push (UInt8.ofNat n.toNat)) s) = ⟨s.data ++ (l.map fun n => UInt8.ofNat n.toNat).toArray⟩
  | [], s => by simp
  | n :: l, s => by
    rw [List.foldl_cons, foldl_push l]
    simp [ByteArray.push]
/-- string(b). -/
theorem conv_bytes (w : World) (g cap : Nat) (l : List Nat) (h : ∀ t, t < l.length → w.cell? ⟨g, t, none⟩ = some (.int .u8 ((l.getD t 0 : Nat) : Int))) :
    (convert 61 9 (.slice (some ⟨g, 0, none⟩) l.length cap)).run Try.prog w = .ok (.string (st l)) w := by
  rw [run_convert_bytes_string w 61 9 5 _ _ _ Try.underlying61 Try.underlying5 Try.underlying9]
  have hl := run_loadCells_list (P := Try.prog) w ⟨g, 0, none⟩ ((l.map fun (n : Nat) => (n : Int)).map (Value.int .u8)) (fun j v hv => by
    have hj : j < l.length := by
      have := (List.getElem?_eq_some_iff.1 hv).1
      simpa using this
    have e : ((⟨g, 0, none⟩ : Addr).add j) = ⟨g, j, none⟩ := by unfold Addr.add; split <;> simp_all
    rw [e, h j hj, ← hv]
    simp [hj])
  rw [show (((l.map fun (n : Nat) => (n : Int)).map (Value.int .u8)).length) = l.length from by simp] at hl
  rw [run_bytesToString w _ _ _ _ hl, foldl_push]
  congr 2
  unfold st
  simp [ByteArray.empty, ByteArray.emptyWithCapacity]
  rfl
/-- The loop that turns the bytes round. -/
def RvR (w : World) (g cap : Nat) (ys : List Nat) (a b : Value) (wr : World) : Prop :=
  ∃ (i j : Nat) (cur : Array Value), i + j + 1 = ys.length ∧ i ≤ j + 1 ∧ a = .int .i64 i ∧ b = .int .i64 j ∧ wr.heap[g]? = some (.cells cur 5) ∧ cur.size = cap ∧
    (∀ t, t < ys.length → cur[t]? = some (.int .u8 ((ys.getD (if t < i ∨ j < t then ys.length - 1 - t else t) 0 : Nat) : Int))) ∧ Ext w wr
/-- The loop that gathers the digits. -/
def ItR (w : World) (N : Nat) (n v : Value) (wr : World) : Prop :=
  ∃ (m : Int) (xs : List Nat) (f : Nat), n = .int .i64 m ∧ -9223372036854775808 ≤ m ∧ m ≤ 9223372036854775807 ∧ Own wr w.heap.size v xs ∧ Tx.dg 20 N = xs ++ Tx.dg f m.natAbs ∧ m.natAbs < 10 ^ f ∧ xs.length + f = 20 ∧ Ext w wr
set_option maxRecDepth 100000 in
set_option maxHeartbeats 1000000 in
theorem itoa_any (n : Int) (w : World) (h0 : -9223372036854775808 ≤ n) (h1 : n ≤ 9223372036854775807) (hn : n ≠ 0) :
    Calls Try.prog 15 #[.int .i64 n] w fun e w' => e = .returned (.string (st (Tx.itoa n))) ∧ Ext w w' := by
  have hne : (n == 0) = false := beq_eq_false_iff_ne.2 hn
  go_enter Try.func15, Try.ntmps15
  go_wp2
  go_loopw [0, 4, 5] (fun n' v d wr => ItR w n.natAbs n' v wr) (fun n' _ _ _ => (intOf n').natAbs)
  case atStart => exact ⟨n, [], 20, rfl, h0, h1, Own.nil _ _, by simp, by omega, by simp, Ext.refl _⟩
  case round =>
    obtain ⟨m, xs, f, rfl, hm0, hm1, hown, hdg, hlt, hf, hx⟩ := hrel
    have HD : Hid (Tx.dg 20 n.natAbs = xs ++ Tx.dg f m.natAbs ∧ m.natAbs < 10 ^ f ∧ xs.length + f = 20 ∧ Own wr w.heap.size _ xs) := ⟨hdg, hlt, hf, hown⟩
    clear hdg hlt hf hown
    by_cases hz : m = 0
    · subst hz
      have HX : Hid (xs = Tx.dg 20 n.natAbs) := by
        have := HD.out.1
        rw [show (0 : Int).natAbs = 0 from rfl, Tx.dg_zero, List.append_nil] at this
        exact this.symm
      have hsz := hx.size
      by_cases hneg : n < 0
      · have hdn : decide (n < 0) = true := decide_eq_true hneg
        have HL : Hid (xs.length ≤ 20) := by rw [HX.out]; exact Tx.dg_len 20 _
        go_wp2_with (at_builtin; refine append_bytes rfl _ _ rfl w.heap.size _ xs rfl (HD.out.2.2.2.ext ((Ext.refl _).alloc _)) ⟨wr.heap.size, 0, none⟩ 1 1 [45] rfl rfl (news_one _ _ _ rfl) ?c2 ?c3 ?_)
        case c2 => have := HL.out; first | omega | (simp; omega)
        case c3 => first | omega | (simp; omega)
        intro v' w1 hown' hgr hext
        obtain ⟨ys, hys⟩ : ∃ ys, ys = xs ++ [45] := ⟨_, rfl⟩
        have HO : Hid (Own w1 w.heap.size v' ys ∧ Ext w w1) := ⟨by rw [hys]; exact hown', hext w (hx.alloc _) (Nat.le_refl _)⟩
        have HY : Hid (st (Tx.itoa n) = st ys.reverse ∧ ys.length ≤ 21 ∧ 0 < ys.length) := by
          have e : ys = Tx.rev n := by rw [hys, HX.out]; simp [Tx.rev, hneg]
          refine ⟨by rw [e]; simp [Tx.itoa, hn], by rw [e]; exact Tx.rev_len n, by rw [hys]; simp⟩
        clear hown' hgr hext hys
        have hyl : 0 < ys.length := HY.out.2.2
        have hy21 : ys.length ≤ 21 := HY.out.2.1
        obtain ⟨g, cap, cur, hv, hg1, hg2, hg3, hg4, hg5, hg6⟩ : ∃ g cap cur, v' = .slice (some ⟨g, 0, none⟩) ys.length cap ∧ w.heap.size ≤ g ∧ w1.heap[g]? = some (.cells cur 5 (0, 0)) ∧ ys.length ≤ cap ∧ cap ≤ maxLen ∧ cur.size = cap * 1 ∧ cur.toList.take (ys.length * 1) = bv ys := by
          rcases HO.out.1.2 with ⟨_, h0⟩ | h
          · omega
          · exact h
        rw [hv]
        have HG : Hid (w1.heap[g]? = some (.cells cur 5 (0, 0)) ∧ cur.size = cap ∧ ∀ t, t < ys.length → cur[t]? = some (.int .u8 ((ys.getD t 0 : Nat) : Int))) := by
          refine ⟨hg2, by omega, fun t ht => ?_⟩
          have h1 : (cur.toList.take (ys.length * 1))[t]? = (bv ys)[t]? := by rw [hg6]
          rw [List.getElem?_take_of_lt (by omega)] at h1
          rw [Array.getElem?_toList] at h1
          rw [h1]
          simp [bv, ht]
        clear hg2 hg5 hg6 hg4 hv
        go_wp2
        obtain ⟨wo, rfl⟩ : ∃ wo : World, wo = w1 := ⟨_, rfl⟩
        go_loopw [6, 7] (fun a b wr => RvR w g cap ys a b wr) (fun a _ _ => ys.length - (intOf a).toNat)
        case atStart => exact ⟨0, ys.length - 1, cur, by omega, by omega, rfl, by rw [show ((ys.length - 1 : Nat) : Int) = (ys.length : Int) - 1 from by omega], HG.out.1, HG.out.2.1, fun t ht => by rw [if_neg (by omega)]; exact HG.out.2.2 t ht, HO.out.2⟩
        case round =>
          obtain ⟨i, j, cu, hij, hle, rfl, rfl, hcu, hcs, hct, hxr⟩ := hrel
          have HC : Hid (wr.heap[g]? = some (.cells cu 5) ∧ cu.size = cap ∧ ∀ t, t < ys.length → cu[t]? = some (.int .u8 ((ys.getD (if t < i ∨ j < t then ys.length - 1 - t else t) 0 : Nat) : Int))) := ⟨hcu, hcs, hct⟩
          clear hcu hcs hct
          by_cases hlt : i < j
          · have hd : decide ((i : Int) < (j : Int)) = true := decide_eq_true (by omega)
            have c1 : ∀ w', Ext wr w' → w'.cell? ⟨g, i, none⟩ = some (.int .u8 ((ys.getD i 0 : Nat) : Int)) := fun w' hx' => by
              have h1 := HC.out.2.2 i (by omega)
              rw [if_neg (by omega)] at h1
              exact (cell_of (hx'.heap HC.out.1) i).trans h1
            have c2 : ∀ w', Ext wr w' → w'.cell? ⟨g, j, none⟩ = some (.int .u8 ((ys.getD j 0 : Nat) : Int)) := fun w' hx' => by
              have h1 := HC.out.2.2 j (by omega)
              rw [if_neg (by omega)] at h1
              exact (cell_of (hx'.heap HC.out.1) j).trans h1
            have cf : ∀ w', Ext wr w' → ∀ o, w'.frozen? ⟨g, o, none⟩ = false := fun w' hx' => frozen_of (hx'.heap HC.out.1)
            have hr0 := Ext.refl wr
            have q1 : (i : Int) < (ys.length : Int) := by omega
            have q2 : (j : Int) < (ys.length : Int) := by omega
            have hne : i ≠ j := by omega
            have hne' : j ≠ i := by omega
            go_wp2
            have d1 : wr.cell? ⟨g, i, none⟩ = some (.int .u8 ((ys.getD i 0 : Nat) : Int)) := c1 wr hr0
            have d2 : wr.cell? ⟨g, j, none⟩ = some (.int .u8 ((ys.getD j 0 : Nat) : Int)) := c2 wr hr0
            have d3 : ∀ o, wr.frozen? ⟨g, o, none⟩ = false := cf wr hr0
            clear c1 c2 cf
            go_region
            go_wp2
            go_roundw
            case rel =>
              refine ⟨i + 1, j - 1, _, by omega, by omega, by go_num, by rw [show ((j - 1 : Nat) : Int) = (j : Int) - 1 from by omega], heap_set (heap_set HC.out.1 i _) j _, by simp [HC.out.2.1], ?_, ?_⟩
              · intro t ht
                have h1 := HC.out.2.2 t ht
                have hcz : cap = cu.size := HC.out.2.1.symm
                rw [Array.getElem?_setIfInBounds, Array.getElem?_setIfInBounds, Array.size_setIfInBounds]
                by_cases e1 : j = t
                · rw [if_pos e1, if_pos (by omega), if_pos (by omega), show ys.length - 1 - t = i from by omega, List.getD_eq_getElem?_getD]
                · rw [if_neg e1]
                  by_cases e2 : i = t
                  · rw [if_pos e2, if_pos (by omega), if_pos (by omega), show ys.length - 1 - t = j from by omega, List.getD_eq_getElem?_getD]
                  · rw [if_neg e2, h1]
                    by_cases e3 : t < i ∨ j < t
                    · rw [if_pos e3, if_pos (by omega)]
                    · rw [if_neg e3, if_neg (by omega)]
              · exact ((hxr.setCell hg1 _).setCell hg1 _).drew
            case measure => simp [intOf]; omega
          · have hd : decide ((i : Int) < (j : Int)) = false := decide_eq_false (by omega)
            have hcv : (convert 61 9 (.slice (some ⟨g, 0, none⟩) ys.length cap)).run Try.prog wr = .ok (.string (st ys.reverse)) wr := by
              have := conv_bytes wr g cap ys.reverse (fun t ht => by
                rw [List.length_reverse] at ht
                rw [cell_of HC.out.1, HC.out.2.2 t ht]
                congr 3
                rw [List.getD_eq_getElem?_getD, List.getD_eq_getElem?_getD, List.getElem?_reverse ht]
                by_cases e3 : t < i ∨ j < t
                · rw [if_pos e3]
                · rw [if_neg e3, show ys.length - 1 - t = t from by omega])
              rw [List.length_reverse] at this
              exact this
            go_wp2
            go_ret
            exact ⟨by rw [HY.out.1]; rfl, hxr⟩
      · have hdn : decide (n < 0) = false := decide_eq_false hneg
        obtain ⟨ys, hys⟩ : ∃ ys, ys = xs := ⟨_, rfl⟩
        have HO : Hid (Own wr w.heap.size _ ys ∧ Ext w wr) := ⟨by rw [hys]; exact HD.out.2.2.2, hx⟩
        have HY : Hid (st (Tx.itoa n) = st ys.reverse ∧ ys.length ≤ 21 ∧ 0 < ys.length) := by
          have e : ys = Tx.rev n := by rw [hys, HX.out]; simp [Tx.rev, hneg]
          refine ⟨by rw [e]; simp [Tx.itoa, hn], by rw [e]; exact Tx.rev_len n, ?_⟩
          rw [hys, HX.out]
          unfold Tx.dg
          rw [if_neg (by omega)]
          simp
        clear hys
        have hyl : 0 < ys.length := HY.out.2.2
        have hy21 : ys.length ≤ 21 := HY.out.2.1
        obtain ⟨g, cap, cur, hv, hg1, hg2, hg3, hg4, hg5, hg6⟩ : ∃ g cap cur, u4 = .slice (some ⟨g, 0, none⟩) ys.length cap ∧ w.heap.size ≤ g ∧ wr.heap[g]? = some (.cells cur 5 (0, 0)) ∧ ys.length ≤ cap ∧ cap ≤ maxLen ∧ cur.size = cap * 1 ∧ cur.toList.take (ys.length * 1) = bv ys := by
          rcases HO.out.1.2 with ⟨_, h0⟩ | h
          · omega
          · exact h
        rw [hv]
        have HG : Hid (wr.heap[g]? = some (.cells cur 5 (0, 0)) ∧ cur.size = cap ∧ ∀ t, t < ys.length → cur[t]? = some (.int .u8 ((ys.getD t 0 : Nat) : Int))) := by
          refine ⟨hg2, by omega, fun t ht => ?_⟩
          have h1 : (cur.toList.take (ys.length * 1))[t]? = (bv ys)[t]? := by rw [hg6]
          rw [List.getElem?_take_of_lt (by omega)] at h1
          rw [Array.getElem?_toList] at h1
          rw [h1]
          simp [bv, ht]
        clear hg2 hg5 hg6 hg4 hv
        go_wp2
        obtain ⟨wo, rfl⟩ : ∃ wo : World, wo = wr := ⟨_, rfl⟩
        go_loopw [6, 7] (fun a b wr => RvR w g cap ys a b wr) (fun a _ _ => ys.length - (intOf a).toNat)
        case atStart => exact ⟨0, ys.length - 1, cur, by omega, by omega, rfl, by rw [show ((ys.length - 1 : Nat) : Int) = (ys.length : Int) - 1 from by omega], HG.out.1, HG.out.2.1, fun t ht => by rw [if_neg (by omega)]; exact HG.out.2.2 t ht, HO.out.2⟩
        case round =>
          obtain ⟨i, j, cu, hij, hle, rfl, rfl, hcu, hcs, hct, hxr⟩ := hrel
          have HC : Hid (wr.heap[g]? = some (.cells cu 5) ∧ cu.size = cap ∧ ∀ t, t < ys.length → cu[t]? = some (.int .u8 ((ys.getD (if t < i ∨ j < t then ys.length - 1 - t else t) 0 : Nat) : Int))) := ⟨hcu, hcs, hct⟩
          clear hcu hcs hct
          by_cases hlt : i < j
          · have hd : decide ((i : Int) < (j : Int)) = true := decide_eq_true (by omega)
            have c1 : ∀ w', Ext wr w' → w'.cell? ⟨g, i, none⟩ = some (.int .u8 ((ys.getD i 0 : Nat) : Int)) := fun w' hx' => by
              have h1 := HC.out.2.2 i (by omega)
              rw [if_neg (by omega)] at h1
              exact (cell_of (hx'.heap HC.out.1) i).trans h1
            have c2 : ∀ w', Ext wr w' → w'.cell? ⟨g, j, none⟩ = some (.int .u8 ((ys.getD j 0 : Nat) : Int)) := fun w' hx' => by
              have h1 := HC.out.2.2 j (by omega)
              rw [if_neg (by omega)] at h1
              exact (cell_of (hx'.heap HC.out.1) j).trans h1
            have cf : ∀ w', Ext wr w' → ∀ o, w'.frozen? ⟨g, o, none⟩ = false := fun w' hx' => frozen_of (hx'.heap HC.out.1)
            have hr0 := Ext.refl wr
            have q1 : (i : Int) < (ys.length : Int) := by omega
            have q2 : (j : Int) < (ys.length : Int) := by omega
            have hne : i ≠ j := by omega
            have hne' : j ≠ i := by omega
            go_wp2
            have d1 : wr.cell? ⟨g, i, none⟩ = some (.int .u8 ((ys.getD i 0 : Nat) : Int)) := c1 wr hr0
            have d2 : wr.cell? ⟨g, j, none⟩ = some (.int .u8 ((ys.getD j 0 : Nat) : Int)) := c2 wr hr0
            have d3 : ∀ o, wr.frozen? ⟨g, o, none⟩ = false := cf wr hr0
            clear c1 c2 cf
            go_region
            go_wp2
            go_roundw
            case rel =>
              refine ⟨i + 1, j - 1, _, by omega, by omega, by go_num, by rw [show ((j - 1 : Nat) : Int) = (j : Int) - 1 from by omega], heap_set (heap_set HC.out.1 i _) j _, by simp [HC.out.2.1], ?_, ?_⟩
              · intro t ht
                have h1 := HC.out.2.2 t ht
                have hcz : cap = cu.size := HC.out.2.1.symm
                rw [Array.getElem?_setIfInBounds, Array.getElem?_setIfInBounds, Array.size_setIfInBounds]
                by_cases e1 : j = t
                · rw [if_pos e1, if_pos (by omega), if_pos (by omega), show ys.length - 1 - t = i from by omega, List.getD_eq_getElem?_getD]
                · rw [if_neg e1]
                  by_cases e2 : i = t
                  · rw [if_pos e2, if_pos (by omega), if_pos (by omega), show ys.length - 1 - t = j from by omega, List.getD_eq_getElem?_getD]
                  · rw [if_neg e2, h1]
                    by_cases e3 : t < i ∨ j < t
                    · rw [if_pos e3, if_pos (by omega)]
                    · rw [if_neg e3, if_neg (by omega)]
              · exact ((hxr.setCell hg1 _).setCell hg1 _).drew
            case measure => simp [intOf]; omega
          · have hd : decide ((i : Int) < (j : Int)) = false := decide_eq_false (by omega)
            have hcv : (convert 61 9 (.slice (some ⟨g, 0, none⟩) ys.length cap)).run Try.prog wr = .ok (.string (st ys.reverse)) wr := by
              have := conv_bytes wr g cap ys.reverse (fun t ht => by
                rw [List.length_reverse] at ht
                rw [cell_of HC.out.1, HC.out.2.2 t ht]
                congr 3
                rw [List.getD_eq_getElem?_getD, List.getD_eq_getElem?_getD, List.getElem?_reverse ht]
                by_cases e3 : t < i ∨ j < t
                · rw [if_pos e3]
                · rw [if_neg e3, show ys.length - 1 - t = t from by omega])
              rw [List.length_reverse] at this
              exact this
            go_wp2
            go_ret
            exact ⟨by rw [HY.out.1]; rfl, hxr⟩
    · have hmn : (m != 0) = true := by rw [bne_iff_ne]; exact hz
      have hf1 : 1 ≤ f := by
        have := HD.out.2.1
        cases f with
        | zero => simp at this; omega
        | succ f => omega
      have hstep : Tx.dg f m.natAbs = (48 + m.natAbs % 10) :: Tx.dg (f - 1) (m.natAbs / 10) := by
        obtain ⟨f, rfl⟩ : ∃ q, f = q + 1 := ⟨f - 1, by omega⟩
        simp only [Tx.dg, Nat.add_sub_cancel]
        rw [if_neg (by omega)]
      have hpow : m.natAbs / 10 < 10 ^ (f - 1) := by
        have := HD.out.2.1
        obtain ⟨f, rfl⟩ : ∃ q, f = q + 1 := ⟨f - 1, by omega⟩
        rw [Nat.pow_succ] at this
        simp only [Nat.add_sub_cancel]
        omega
      have HE : Hid (Tx.dg 20 n.natAbs = (xs ++ [48 + m.natAbs % 10]) ++ Tx.dg (f - 1) (m.natAbs / 10) ∧ m.natAbs / 10 < 10 ^ (f - 1) ∧ (xs ++ [48 + m.natAbs % 10]).length + (f - 1) = 20 ∧ xs.length ≤ 20) := by
        refine ⟨?_, hpow, ?_, ?_⟩
        · rw [HD.out.1, hstep]; simp
        · have := HD.out.2.2.1; simp; omega
        · have := HD.out.2.2.1; omega
      have hsz := hx.size
      clear hstep hpow
      by_cases hs : 0 < m
      · have hd : decide (m % 10 < 0) = false := decide_eq_false (by omega)
        go_wp2_with (at_builtin; refine append_bytes rfl _ _ rfl w.heap.size _ xs rfl (HD.out.2.2.2.ext ((Ext.refl _).alloc _)) ⟨wr.heap.size, 0, none⟩ 1 1 [48 + m.natAbs % 10] rfl rfl (news_one _ _ _ ?c1) ?c2 ?c3 ?_)
        case c1 => omega
        case c2 => have := HE.out.2.2.2; first | omega | (simp; omega)
        case c3 => first | omega | (simp; omega)
        intro v' w1 hown' hgr hext
        have X : Hid (Own w1 w.heap.size v' (xs ++ [48 + m.natAbs % 10]) ∧ Ext w w1) := ⟨hown', hext w (hx.alloc _) (Nat.le_refl _)⟩
        clear hown' hgr hext
        go_wp2
        go_roundw
        case rel => exact ⟨m / 10, xs ++ [48 + m.natAbs % 10], f - 1, rfl, by omega, by omega, X.out.1, by rw [show (m / 10).natAbs = m.natAbs / 10 from by omega]; exact HE.out.1, by rw [show (m / 10).natAbs = m.natAbs / 10 from by omega]; exact HE.out.2.1, HE.out.2.2.1, X.out.2⟩
        case measure => simp [intOf]; omega
      · have hk : m = -((m.natAbs : Nat) : Int) := by omega
        have e1 : m.tmod 10 = -((m.natAbs % 10 : Nat) : Int) := by
          conv => lhs; rw [hk]
          rw [Int.neg_tmod]
          rfl
        have e2 : m.tdiv 10 = -((m.natAbs / 10 : Nat) : Int) := by
          conv => lhs; rw [hk]
          rw [Int.neg_tdiv]
          rfl
        have t0 : -9 ≤ m.tmod 10 := by omega
        have t1 : m.tmod 10 ≤ 0 := by omega
        have t2 : -922337203685477581 ≤ m.tdiv 10 := by omega
        have t3 : m.tdiv 10 ≤ 0 := by omega
        have HK : Hid (m.tmod 10 = -((m.natAbs % 10 : Nat) : Int) ∧ m.tdiv 10 = -((m.natAbs / 10 : Nat) : Int)) := ⟨e1, e2⟩
        clear hk e1 e2
        by_cases hd0 : m.tmod 10 < 0
        · have hd : decide (m.tmod 10 < 0) = true := decide_eq_true hd0
          go_wp2_with (at_builtin; refine append_bytes rfl _ _ rfl w.heap.size _ xs rfl (HD.out.2.2.2.ext ((Ext.refl _).alloc _)) ⟨wr.heap.size, 0, none⟩ 1 1 [48 + m.natAbs % 10] rfl rfl (news_one _ _ _ ?c1) ?c2 ?c3 ?_)
          case c1 => have := HK.out; omega
          case c2 => have := HE.out.2.2.2; first | omega | (simp; omega)
          case c3 => first | omega | (simp; omega)
          intro v' w1 hown' hgr hext
          have X : Hid (Own w1 w.heap.size v' (xs ++ [48 + m.natAbs % 10]) ∧ Ext w w1) := ⟨hown', hext w (hx.alloc _) (Nat.le_refl _)⟩
          clear hown' hgr hext
          go_wp2
          go_roundw
          case rel => exact ⟨m.tdiv 10, xs ++ [48 + m.natAbs % 10], f - 1, rfl, by omega, by omega, X.out.1, by rw [show (m.tdiv 10).natAbs = m.natAbs / 10 from by have := HK.out; omega]; exact HE.out.1, by rw [show (m.tdiv 10).natAbs = m.natAbs / 10 from by have := HK.out; omega]; exact HE.out.2.1, HE.out.2.2.1, X.out.2⟩
          case measure => show (m.tdiv 10).natAbs < m.natAbs; have := HK.out; omega
        · have hd : decide (m.tmod 10 < 0) = false := decide_eq_false hd0
          go_wp2_with (at_builtin; refine append_bytes rfl _ _ rfl w.heap.size _ xs rfl (HD.out.2.2.2.ext ((Ext.refl _).alloc _)) ⟨wr.heap.size, 0, none⟩ 1 1 [48 + m.natAbs % 10] rfl rfl (news_one _ _ _ ?c1) ?c2 ?c3 ?_)
          case c1 => have := HK.out; omega
          case c2 => have := HE.out.2.2.2; first | omega | (simp; omega)
          case c3 => first | omega | (simp; omega)
          intro v' w1 hown' hgr hext
          have X : Hid (Own w1 w.heap.size v' (xs ++ [48 + m.natAbs % 10]) ∧ Ext w w1) := ⟨hown', hext w (hx.alloc _) (Nat.le_refl _)⟩
          clear hown' hgr hext
          go_wp2
          go_roundw
          case rel => exact ⟨m.tdiv 10, xs ++ [48 + m.natAbs % 10], f - 1, rfl, by omega, by omega, X.out.1, by rw [show (m.tdiv 10).natAbs = m.natAbs / 10 from by have := HK.out; omega]; exact HE.out.1, by rw [show (m.tdiv 10).natAbs = m.natAbs / 10 from by have := HK.out; omega]; exact HE.out.2.1, HE.out.2.2.1, X.out.2⟩
          case measure => show (m.tdiv 10).natAbs < m.natAbs; have := HK.out; omega
end Go.Proofs.Qxb6500342a
