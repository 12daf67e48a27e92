/-
  Walks 13: the store's Export.
-/
import Derived.Test.Qxb6500342aV12
import Derived.Test.Qxb6500342aIm
namespace Go.Proofs.Qxb6500342a
open Go.RowKit
open Go.Proofs
open Pl (Hd)
open Tx (st)
set_option linter.unusedSimpArgs false
set_option linter.unusedVariables false
attribute [local go_sem] alloc_drewN setCell_drewN shape?_drewN

theorem news_list (w : World) (vs : List Value) (ys : List Nat) (h : vs = bv ys) : ∀ j u, (bv ys)[j]? = some u → (w.alloc (.cells vs.toArray 5)).cell? ((⟨w.heap.size, 0, none⟩ : Addr).add j) = some u := by
  intro j u hj
  have e : ((⟨w.heap.size, 0, none⟩ : Addr).add j) = ⟨w.heap.size, j, none⟩ := by unfold Addr.add; split <;> simp_all
  rw [e, cell_of (heap_alloc_new w _), h]
  simpa using hj
/-- string(b) of a slice of the call's own. -/
theorem conv_own (w : World) (B : Nat) (v : Value) (l : List Nat) (h : Own w B v l) : (convert 61 9 v).run Try.prog w = .ok (.string (st l)) w := by
  rcases h.2 with ⟨rfl, h0⟩ | ⟨g, cap, cur, rfl, hb, hg, hn, hm, hs, ht⟩
  · have : l = [] := List.length_eq_zero_iff.1 h0
    subst this
    rw [run_convert_bytes_string w 61 9 5 _ _ _ Try.underlying61 Try.underlying5 Try.underlying9]
    rfl
  · refine conv_bytes w g cap l (fun t ht' => ?_)
    rw [cell_of hg]
    have h1 : (cur.toList.take (l.length * 1))[t]? = (bv l)[t]? := by rw [ht]
    rw [List.getElem?_take_of_lt (by omega), Array.getElem?_toList] at h1
    rw [h1]
    simp [bv, ht']
theorem wrap_u8_eq (n : Int) : IntKind.u8.wrap n = n % 256 := IntKind.wrap_u8 n
theorem rec_eq (k : Nat) (hk : k < 8) (x : Int) (h0 : 0 ≤ x) (h1 : x < 72057594037927936) :
    [Value.int .u8 (k : Int), .int .u8 (x / 281474976710656), .int .u8 (x / 1099511627776 % 256), .int .u8 (x / 4294967296 % 256), .int .u8 (x / 16777216 % 256), .int .u8 (x / 65536 % 256), .int .u8 (x / 256 % 256), .int .u8 (x % 256)] = bv (Im.recB k x.toNat) := by
  obtain ⟨x, rfl⟩ := Int.eq_ofNat_of_zero_le h0
  simp only [wrap_u8_eq, bv, Im.recB, List.map_cons, List.map_nil, Int.toNat_natCast, List.cons.injEq, Value.int.injEq, true_and, and_true]
  omega
def ExR (w : World) (u : Nat) (H : Nat → Hd) (v i : Value) (wr : World) : Prop :=
  ∃ k : Nat, k ≤ 8 ∧ i = .int .i64 k ∧ Own wr w.heap.size v (Im.exTo u H k) ∧ Ext w wr
set_option maxRecDepth 100000 in
set_option maxHeartbeats 1000000 in
theorem export_any (w : World) (q : SId) (u : Nat) (H : Nat → Hd) (hst : StAt w q u H) : Calls Try.prog 39 #[.pointer (some ⟨q.s, 0, none⟩)] w fun e w' => e = .returned (.string (st (Im.exTo u H 8))) ∧ Ext w w' := by
  have HS : Hid (StAt w q u H) := hst
  have g0 : ∀ w', Ext w w' → w'.cell? ⟨q.s, 0, none⟩ = some (.slice (some ⟨q.L, 0, none⟩) 8 8) := fun w' hx => cell_of (hx.heap hst.hs) 0
  have g1 : ∀ w', Ext w w' → w'.cell? ⟨q.s, 1, none⟩ = some (.pointer (some ⟨q.b, 0, none⟩)) := fun w' hx => cell_of (hx.heap hst.hs) 1
  have hlt := hst.lt
  have hx0 := Ext.refl w
  clear hst
  go_enter Try.func39, Try.ntmps39
  go_wp2_with fail
  refine (count_any w q.b u HS.out.hb HS.out.lt).mono ?_
  rintro e w1 ⟨rfl, x1⟩
  have hc := Bd.cnt_le u
  generalize Bd.cnt u = c at *
  obtain ⟨i0, hi, hz0, hz1, hz2⟩ := info_parts info5
  obtain ⟨wm, hmk, hown, hgr⟩ := run_make_own (P := Try.prog) w1 w.heap.size 61 5 i0 (.int .u8 0) 1 Try.underlying61 hi hz0 hz1 .i64 .i64 (c * 8) (by rw [hz2]; omega) (by unfold maxLen; omega) x1.size
  have hmk' : (Instr.makeSlice 61 (.int .i64 0) (.int .i64 ((c : Int) * 8))).run Try.prog w1 = .ok (.slice (some ⟨w1.heap.size, 0, none⟩) 0 (c * 8)) wm := by
    rw [show ((c : Int) * 8) = ((c * 8 : Nat) : Int) from by omega]; exact hmk
  have OM : Hid (Own wm w.heap.size (.slice (some ⟨w1.heap.size, 0, none⟩) 0 (c * 8)) [] ∧ Ext w wm) := by
    refine ⟨hown, x1.trans ⟨hgr.os, hgr.tape, hgr.output, hgr.size, fun k hk => hgr.block k hk (by simp)⟩⟩
  have xm := OM.out.2
  clear hmk hown hgr hi hz0 hz1 hz2
  go_wp2
  go_loopw [4, 20] (fun v i wr => ExR w u H v i wr) (fun _ i _ => 8 - (intOf i).toNat)
  case atStart => exact ⟨0, by omega, rfl, OM.out.1, OM.out.2⟩
  case round =>
    obtain ⟨k, hk, rfl, hown, hx⟩ := hrel
    have HO : Hid (Own wr w.heap.size _ (Im.exTo u H k)) := hown
    clear hown
    by_cases hlt8 : k < 8
    · have gw : wr.cell? ⟨q.L, k, none⟩ = some (.int .u64 (wd u H k)) := (cell_of (hx.heap HS.out.hL) k).trans (wordsC_get u H k hlt8)
      have hk0 : (k : Int) < 8 := by omega
      have hd : decide ((k : Int) < 8) = true := decide_eq_true hk0
      go_wp2_with fail
      refine (has_in wr q.b u k (HS.out.hb.ext hx) (by omega) (by omega)).mono ?_
      rintro e w2 ⟨rfl, x2⟩
      have O2 : Hid (Own w2 w.heap.size _ (Im.exTo u H k)) := HO.out.ext x2
      replace x2 := hx.trans x2
      cases hb : u.testBit k
      · have HT : Hid (Im.exTo u H (k + 1) = Im.exTo u H k) := by show _ = _; simp [Im.exTo, hb]
        clear hb
        go_wp2
        go_roundw
        case rel => exact ⟨k + 1, by omega, by go_num, by rw [HT.out]; exact O2.out, x2⟩
        case measure => simp [intOf]; omega
      · have HT : Hid (Im.exTo u H (k + 1) = Im.exTo u H k ++ Im.recB k (wd u H k).toNat) := by show _ = _; simp [Im.exTo, hb, Im.wordN, wd]
        have hr := wd_range u H k
        have hl := Im.exTo_len u H k
        have hsz := x2.size
        clear hb
        go_wp2_with (at_builtin; refine append_bytes rfl _ _ rfl w.heap.size _ (Im.exTo u H k) rfl (O2.out.ext ((Ext.refl _).alloc _)) ⟨w2.heap.size, 0, none⟩ 8 8 (Im.recB k (wd u H k).toNat) rfl rfl (news_list _ _ _ ?c1) ?c2 ?c3 ?_)
        case c1 => exact rec_eq k hlt8 _ hr.1 hr.2
        case c2 => simp [Im.recB]; omega
        case c3 => first | omega | (simp; omega)
        intro v' w3 hown' hgr hext
        have X : Hid (Own w3 w.heap.size v' (Im.exTo u H k ++ Im.recB k (wd u H k).toNat) ∧ Ext w w3) := ⟨hown', hext w (x2.alloc _) (Nat.le_refl _)⟩
        clear hown' hgr hext
        go_wp2
        go_roundw
        case rel => exact ⟨k + 1, by omega, by go_num, by rw [HT.out]; exact X.out.1, X.out.2⟩
        case measure => simp [intOf]; omega
    · have hk8 : k = 8 := by omega
      subst hk8
      have hcv := conv_own wr _ _ _ HO.out
      go_wp2
      go_ret
      exact ⟨rfl, hx⟩
end Go.Proofs.Qxb6500342a
