/-
  A region that draws its order and holds a call that turns memory: the quiet operations (one value in every world of a family C, the world untouched) are taken first; what is left is walked in each of its few orders, in exact worlds that stay in C; behind the head a forced tail (the stores).
-/
import Derived.Test.Qxb6500342aHp
namespace Go.Proofs.Qxb6500342a
namespace Peel
section
variable {P : Program} {ops : Array Oper} {md : Region.Mode} {C : World → Prop}

def upx (P : Program) (K : Value → World → Prop) : Result Next → Prop
  | .ok (.value u) w' => K u w'
  | .ok .skip w' => K undef w'
  | .ok (.enter f args) w' => Calls P f args w' (fun e w'' => ∃ v, e = .returned v ∧ K v w'')
  | _ => False
theorem upx_mono {K K' : Value → World → Prop} (h : ∀ v w, K v w → K' v w) : ∀ {r : Result Next}, upx P K r → upx P K' r := by
  intro r hr
  cases r with
  | ok n w' =>
    cases n <;> simp only [upx] at hr ⊢
    case value u => exact h _ _ hr
    case skip => exact h _ _ hr
    case enter f args => exact hr.mono fun e w'' ⟨v, he, hk⟩ => ⟨v, he, h _ _ hk⟩
  | halt x w' => simp only [upx] at hr
def xOp (P : Program) (ops : Array Oper) (C : World → Prop) (i : Nat) (K : Act → World → Prop) (a : Act) (w : World) : Prop :=
  match ops[i]? with
  | none => K a w
  | some o => if Region.wanted o (yielded ops a.tmps) then upx P (fun v w' => C w' ∧ K (a.put o.dst v) w') ((execOp a.eval o).run P w) else K (a.put o.dst undef) w
def anyX (P : Program) (md : Region.Mode) (ops : Array Oper) (C : World → Prop) (n : Nat) (T : Array Bool → Act → World → Prop) : Nat → Array Bool → Act → World → Prop
  | 0, listed, a, w => (∀ j, j < n → listed.getD j false = true) ∧ T listed a w
  | fuel + 1, listed, a, w => Region.ready md ops listed ≠ [] ∧ ∀ i ∈ Region.ready md ops listed, xOp P ops C i (anyX P md ops C n T fuel (listed.setIfInBounds i true)) a w
theorem wpOp_of_xOp {i : Nat} {a : Act} {w : World} {K K' : Act → World → Prop} {Q' : Exit → Act → World → Prop} (h : ∀ a w, K a w → K' a w) (hh : xOp P ops C i K a w) : wpOp P ops Q' i K' a w := by
  unfold xOp at hh
  unfold wpOp
  split
  · rename_i ho; simp only [ho] at hh; exact h _ _ hh
  · rename_i o ho
    simp only [ho] at hh
    split
    · rename_i hw
      rw [if_pos hw] at hh
      refine .inl ?_
      unfold Oper.wp
      generalize (execOp a.eval o).run P w = r at *
      cases r with
      | ok n w' =>
        cases n <;> simp only [upx] at hh <;> simp only [Oper.upon]
        case value u => exact h _ _ hh.2
        case skip => exact h _ _ hh.2
        case enter f args => exact hh.mono fun e w'' ⟨v, he, hc, hk⟩ => by subst he; exact h _ _ hk
      | halt x w' => simp only [upx] at hh
    · rename_i hw
      rw [if_neg hw] at hh
      exact h _ _ hh
theorem wpAny_of {n t : Nat} {Q' : Exit → Act → World → Prop} :
    ∀ (fuel : Nat) (listed : Array Bool) (a : Act) (w : World), anyX P md ops C n (fun listed a w => wpAny P md ops Q' t listed a w) fuel listed a w → wpAny P md ops Q' (fuel + t) listed a w
  | 0, listed, a, w, h => by rw [Nat.zero_add]; exact h.2
  | fuel + 1, listed, a, w, h => by
    rw [show fuel + 1 + t = (fuel + t) + 1 from by omega]
    exact ⟨fun h0 => absurd h0 h.1, fun i hi => wpOp_of_xOp (fun a' w' => wpAny_of fuel _ a' w') (h.2 i hi)⟩
/-- One value in every world of the family. -/
def QY (P : Program) (ops : Array Oper) (C : World → Prop) (o : Oper) (v : Value) (a : Act) : Prop :=
  (Region.wanted o (yielded ops a.tmps) = true ∧ ∀ w, C w → (execOp a.eval o).run P w = .ok (.value v) w) ∨ (Region.wanted o (yielded ops a.tmps) = false ∧ v = undef)
theorem QY.xOp {i : Nat} {o : Oper} {v : Value} {a : Act} {w : World} {K : Act → World → Prop} (hi : ops[i]? = some o) (hy : QY P ops C o v a) (hw : C w) (h : K (a.put o.dst v) w) : xOp P ops C i K a w := by
  unfold Peel.xOp
  simp only [hi]
  rcases hy with ⟨h1, h2⟩ | ⟨h1, rfl⟩
  · rw [if_pos h1, h2 w hw]; exact ⟨hw, h⟩
  · rw [if_neg (by simp [h1])]; exact h
theorem QY.put {o oj : Oper} {v : Value} {a : Act} (hs : ∀ cs b, o.op ≠ .select cs b) (h3 : ∀ d, oj.dst = some d → d ∉ o.looksAt ops) (u : Value) (hy : QY P ops C o v a) : QY P ops C o v (a.put oj.dst u) := by
  unfold QY at *
  rw [execOp_put o hs a oj.dst u h3, wanted_put o a oj.dst u h3]
  exact hy
/-- What is listed is listed with all that it waits for. -/
def Closed (md : Region.Mode) (ops : Array Oper) (listed : Array Bool) : Prop :=
  ∀ j oj, ops[j]? = some oj → listed.getD j false = true → ∀ e ∈ oj.after, Region.binds md e = true → listed.getD e.on false = true
theorem Closed.set {listed : Array Bool} {j : Nat} (h : Closed md ops listed) (hj : j ∈ Region.ready md ops listed) : Closed md ops (listed.setIfInBounds j true) := by
  intro k ok hk hl e he hb
  by_cases hjk : j = k
  · subst hjk
    obtain ⟨_, o, ho, hall⟩ := mem_ready.1 hj
    rw [ho, Option.some.injEq] at hk
    subst hk
    exact getD_set_true (hall e he hb)
  · rw [getD_set_ne false hjk] at hl
    exact getD_set_true (h k ok hk hl e he hb)
def ancB (md : Region.Mode) (ops : Array Oper) : Nat → Nat → Nat → Bool
  | 0, _, _ => false
  | f + 1, j, k => match ops[j]? with
    | none => false
    | some oj => oj.after.any fun e => Region.binds md e && (e.on == k || ancB md ops f e.on k)
theorem anc_listed {listed : Array Bool} (h : Closed md ops listed) : ∀ (f j k : Nat) (oj : Oper), ops[j]? = some oj → (∀ e ∈ oj.after, Region.binds md e = true → listed.getD e.on false = true) → ancB md ops f j k = true → listed.getD k false = true
  | 0, _, _, _, _, _, ha => by simp [ancB] at ha
  | f + 1, j, k, oj, hj, hl, ha => by
    simp only [ancB, hj] at ha
    obtain ⟨e, he, hb⟩ := Array.any_eq_true'.1 ha
    simp only [Bool.and_eq_true, Bool.or_eq_true, beq_iff_eq] at hb
    have h1 := hl e he hb.1
    rcases hb.2 with h2 | h2
    · rw [← h2]; exact h1
    · cases ho : ops[e.on]? with
      | none => cases f <;> simp [ancB, ho] at h2
      | some oe => exact anc_listed h f e.on k oe ho (h e.on oe ho h1) h2
def tailA (md : Region.Mode) (ops : Array Oper) (n : Nat) : Bool :=
  (List.range ops.size).all fun j => decide (j < n) || (List.range n).all fun k => ancB md ops ops.size j k
theorem tailA_spec {n : Nat} (h : tailA md ops n = true) (j : Nat) (oj : Oper) (hj : ops[j]? = some oj) (hn : n ≤ j) (k : Nat) (hk : k < n) : ancB md ops ops.size j k = true := by
  simp only [tailA, List.all_eq_true, List.mem_range] at h
  have h1 := h j (Array.getElem?_eq_some_iff.1 hj).1
  simp only [Bool.or_eq_true, decide_eq_true_eq, List.all_eq_true, List.mem_range] at h1
  rcases h1 with h1 | h1
  · omega
  · exact h1 k hk
theorem quiet_first {n : Nat} {T : Array Bool → Act → World → Prop} {i : Nat} {oi : Oper} {v : Value} (hi : ops[i]? = some oi) (hin : i < n)
    (hsel : ∀ (j : Nat) (o : Oper) cs b, ops[j]? = some o → o.op ≠ .select cs b)
    (htail : ∀ j oj, ops[j]? = some oj → n ≤ j → ∀ k, k < n → ancB md ops ops.size j k = true) :
    ∀ (fuel : Nat) (listed : Array Bool) (a : Act) (w : World), C w → Closed md ops listed →
      (∀ j oj, ops[j]? = some oj → j ≠ i → listed.getD j true = false → (∀ e ∈ oj.after, Region.binds md e = true → e.on ≠ i) → oi.apart ops oj = true) →
      i ∈ Region.ready md ops listed → QY P ops C oi v a →
      anyX P md ops C n T fuel (listed.setIfInBounds i true) (a.put oi.dst v) w → anyX P md ops C n T (fuel + 1) listed a w := by
  intro fuel
  induction fuel with
  | zero =>
    intro listed a w hw hcl _ hr hy H
    refine ⟨List.ne_nil_of_mem hr, fun j hj => ?_⟩
    by_cases hji : j = i
    · subst hji; exact hy.xOp hi hw H
    · exfalso
      have hall := H.1
      obtain ⟨hjun, oj, hoj, hdeps⟩ := mem_ready.1 hj
      have hiun := (mem_ready.1 hr).1
      rcases Nat.lt_or_ge j n with hjn | hjn
      · have h1 := hall j hjn
        rw [getD_set_ne false (Ne.symm hji)] at h1
        rcases Nat.lt_or_ge j listed.size with h' | h'
        · simp [h'] at hjun h1; rw [hjun] at h1; cases h1
        · simp [Array.getElem?_eq_none h'] at h1
      · have h1 := anc_listed hcl _ j i oj hoj hdeps (htail j oj hoj hjn i hin)
        rcases Nat.lt_or_ge i listed.size with h' | h'
        · simp [h'] at hiun h1; rw [hiun] at h1; cases h1
        · simp [Array.getElem?_eq_none h'] at h1
  | succ fuel ih =>
    intro listed a w hw hcl hfree hr hy H
    refine ⟨List.ne_nil_of_mem hr, fun j hj => ?_⟩
    by_cases hji : j = i
    · subst hji; exact hy.xOp hi hw H
    · have h1 := H.2 j (ready_mono hj hji)
      obtain ⟨hjun, oj, hoj, hall⟩ := mem_ready.1 hj
      have hnot : ∀ e ∈ oj.after, Region.binds md e = true → e.on ≠ i := fun e he hb heq => by
        have h1 := hall e he hb
        have h0 := (mem_ready.1 hr).1
        rw [heq] at h1
        rcases Nat.lt_or_ge i listed.size with h' | h'
        · simp [h'] at h0 h1; rw [h0] at h1; cases h1
        · simp [Array.getElem?_eq_none h'] at h1
      have hap := hfree j oj hoj hji hjun hnot
      obtain ⟨a1, a2, a3⟩ := Oper.apart_spec hap
      have hsi := fun cs b => hsel i oi cs b hi
      have hsj := fun cs b => hsel j oj cs b hoj
      have hfree' : ∀ k ok, ops[k]? = some ok → k ≠ i → (listed.setIfInBounds j true).getD k true = false →
          (∀ e ∈ ok.after, Region.binds md e = true → e.on ≠ i) → oi.apart ops ok = true := fun k ok hk hki hun hno => by
        refine hfree k ok hk hki ?_ hno
        by_cases hjk : j = k
        · subst hjk; exact hjun
        · rw [getD_set_ne true hjk] at hun; exact hun
      unfold xOp at h1 ⊢
      simp only [hoj] at h1 ⊢
      rw [wanted_put oj a oi.dst v a1, execOp_put oj hsj a oi.dst v a1, Array.setIfInBounds_comm _ _ (Ne.symm hji)] at h1
      split
      · rename_i hwt
        rw [if_pos hwt] at h1
        refine upx_mono (fun u w' hk => ⟨hk.1, ?_⟩) h1
        refine ih _ _ w' hk.1 (hcl.set hj) hfree' (ready_mono hr (Ne.symm hji)) (hy.put hsi a3 u) ?_
        have := hk.2
        rwa [Act.put_comm a v u a2] at this
      · rename_i hwt
        rw [if_neg hwt] at h1
        refine ih _ _ w hw (hcl.set hj) hfree' (ready_mono hr (Ne.symm hji)) (hy.put hsi a3 undef) ?_
        rwa [Act.put_comm a v undef a2] at h1
def apartQ (md : Region.Mode) (ops : Array Oper) (listed : Array Bool) (i : Nat) : Bool :=
  match ops[i]? with
  | none => false
  | some oi => (List.range ops.size).all fun j => j == i || listed.getD j true || match ops[j]? with
      | some oj => oj.after.any (fun e => Region.binds md e && e.on == i) || oi.apart ops oj
      | none => true
theorem apartQ_spec {i : Nat} {oi : Oper} {listed : Array Bool} (hi : ops[i]? = some oi) (h : apartQ md ops listed i = true) (j : Nat) (oj : Oper)
    (hj : ops[j]? = some oj) (hne : j ≠ i) (hun : listed.getD j true = false) (hno : ∀ e ∈ oj.after, Region.binds md e = true → e.on ≠ i) :
    oi.apart ops oj = true := by
  simp only [apartQ, hi, List.all_eq_true, List.mem_range] at h
  have h1 := h j (Array.getElem?_eq_some_iff.1 hj).1
  simp only [hj, Bool.or_eq_true, beq_iff_eq, hne, false_or, hun, Bool.false_eq_true] at h1
  rcases h1 with h1 | h1
  · obtain ⟨e, he, hb⟩ := Array.any_eq_true'.1 h1
    simp only [Bool.and_eq_true, beq_iff_eq] at hb
    exact absurd hb.2 (hno e he hb.1)
  · exact h1
/-- The list of the quiet ones, in an order in which each is ready. -/
def quietB (md : Region.Mode) (ops : Array Oper) (n : Nat) : List Nat → Array Bool → Bool
  | [], _ => true
  | i :: is, listed => decide (i < n) && (Region.ready md ops listed).contains i && apartQ md ops listed i && quietB md ops n is (listed.setIfInBounds i true)
def after (is : List Nat) (listed : Array Bool) : Array Bool := is.foldl (fun l i => l.setIfInBounds i true) listed
/-- The walk over the quiet ones. -/
def walkQ (P : Program) (ops : Array Oper) (C : World → Prop) (Q : Act → Prop) : List Oper → Act → Prop
  | [], a => Q a
  | o :: os, a => ∃ v, QY P ops C o v a ∧ walkQ P ops C Q os (a.put o.dst v)
theorem any_peel {n : Nat} {T : Array Bool → Act → World → Prop} (hs : Region.noSelect ops = true) (htail : tailA md ops n = true) :
    ∀ (is : List Nat) (os : List Oper) (fuel : Nat) (listed : Array Bool) (a : Act) (w : World), C w → Closed md ops listed → is.map (fun i => ops[i]?) = os.map some → quietB md ops n is listed = true →
      walkQ P ops C (fun a' => anyX P md ops C n T fuel (after is listed) a' w) os a → anyX P md ops C n T (is.length + fuel) listed a w
  | [], [], fuel, listed, a, w, hw, _, _, _, h => by rw [List.length_nil, Nat.zero_add]; exact h
  | [], _ :: _, _, _, _, _, _, _, he, _, _ => by simp at he
  | _ :: _, [], _, _, _, _, _, _, he, _, _ => by simp at he
  | i :: is, o :: os, fuel, listed, a, w, hw, hcl, he, hB, h => by
    simp only [List.map_cons, List.cons.injEq] at he
    simp only [quietB, Bool.and_eq_true, decide_eq_true_eq] at hB
    obtain ⟨v, hy, hh⟩ := h
    rw [show (i :: is).length + fuel = (is.length + fuel) + 1 from by simp; omega]
    refine quiet_first he.1 hB.1.1.1 (Region.noSelect_spec hs) (tailA_spec htail) _ listed a w hw hcl (apartQ_spec he.1 hB.1.2) (by simpa using hB.1.1.2) hy ?_
    exact any_peel hs htail is os fuel _ _ w hw (hcl.set (by simpa using hB.1.1.2)) he.2 hB.2 hh
def pick (l : List Oper) (is : List Nat) : List Oper := is.filterMap fun i => l[i]?
theorem pick_map (l : List Oper) : ∀ is : List Nat, is.all (fun i => decide (i < l.length)) = true → is.map (fun i => l.toArray[i]?) = (pick l is).map some
  | [], _ => rfl
  | i :: is, h => by
    simp only [List.all_cons, Bool.and_eq_true, decide_eq_true_eq] at h
    have ih := pick_map l is h.2
    have e : l[i]? = some l[i] := List.getElem?_eq_getElem h.1
    simp only [pick, List.filterMap_cons, e, List.map_cons] at ih ⊢
    rw [← ih]
    simp [e]
/-- **THE REGION.** n operations in the head, of them 'is' quiet; the rest of the head is left. -/
theorem region {id : Nat} {Q : Exit → Act → World → Prop} {a : Act} {w : World} {l : List Oper} (n m t : Nat) (is : List Nat) (C : World → Prop) (hm : P.follows .mixedOrders = true)
    (hB : (Region.noSelect l.toArray && tailA .any l.toArray n && quietB .any l.toArray n is (Array.replicate l.length false) && is.all (fun i => decide (i < l.length)) && (is.length + m + t == l.length)) = true) (hC : C { w with drawn := w.drawn + 1 })
    (h : walkQ P l.toArray C (fun a' => anyX P .any l.toArray C n (fun listed a w => wpAny P .any l.toArray Q t listed a w) m (after is (Array.replicate l.length false)) a' { w with drawn := w.drawn + 1 }) (pick l is) a) : (Code.region id l.toArray true).wp P Q a w := by
  simp only [Bool.and_eq_true, beq_iff_eq] at hB
  obtain ⟨⟨⟨⟨h1, h2⟩, h3⟩, h5⟩, h4⟩ := hB
  refine wp_region_any hm ?_
  have e : l.toArray.size = l.length := by simp
  rw [e]
  have := any_peel h1 h2 is (pick l is) m _ a _ hC (fun j oj _ hj => by simp [Array.getD] at hj) (pick_map l is h5) h3 h
  have := wpAny_of _ _ _ _ this
  rw [h4] at this
  exact this
theorem any_end {n t : Nat} {Q : Exit → Act → World → Prop} {l : List Oper} {listed : Array Bool} {a : Act} {w : World} (hn : ((List.range n).all fun j => listed.getD j false) = true) (ht : t = (l.drop n).length) (hch : Calm.chainB md l.toArray t n listed = true)
    (h : wpList P l.toArray Q (l.drop n) a w) : anyX P md l.toArray C n (fun listed a w => wpAny P md l.toArray Q t listed a w) 0 listed a w := by
  refine ⟨fun j hj => by simp only [List.all_eq_true, List.mem_range] at hn; exact hn j hj, ?_⟩
  rw [ht] at hch ⊢
  exact Calm.any_chain (l.drop n) n listed (fun j => by simp) hch a w h
theorem any_one {n fuel i : Nat} {T : Array Bool → Act → World → Prop} {listed : Array Bool} {a : Act} {w : World} (hr : Region.ready md ops listed = [i])
    (h : xOp P ops C i (anyX P md ops C n T fuel (listed.setIfInBounds i true)) a w) : anyX P md ops C n T (fuel + 1) listed a w :=
  ⟨by rw [hr]; simp, by rw [hr]; intro j hj; simp only [List.mem_singleton] at hj; subst hj; exact h⟩
theorem any_two {n fuel i j : Nat} {T : Array Bool → Act → World → Prop} {listed : Array Bool} {a : Act} {w : World} (hr : Region.ready md ops listed = [i, j])
    (h1 : xOp P ops C i (anyX P md ops C n T fuel (listed.setIfInBounds i true)) a w) (h2 : xOp P ops C j (anyX P md ops C n T fuel (listed.setIfInBounds j true)) a w) : anyX P md ops C n T (fuel + 1) listed a w :=
  ⟨by rw [hr]; simp, by rw [hr]; intro k hk; simp only [List.mem_cons, List.not_mem_nil, or_false] at hk; rcases hk with rfl | rfl; exact h1; exact h2⟩
theorem x_call {i : Nat} {o : Oper} {K : Act → World → Prop} {a : Act} {w : World} (ho : ops[i]? = some o) {f : FuncId} {args : Array Value} (hg : Region.wanted o (yielded ops a.tmps) = true) (hr : (execOp a.eval o).run P w = .ok (.enter f args) w)
    (hc : Calls P f args w fun e w' => ∃ v, e = .returned v ∧ C w' ∧ K (a.put o.dst v) w') : xOp P ops C i K a w := by
  unfold xOp
  simp only [ho]
  rw [if_pos hg, hr]
  exact hc
theorem x_value {i : Nat} {o : Oper} {K : Act → World → Prop} {a : Act} {w w' : World} {v : Value} (ho : ops[i]? = some o) (hg : Region.wanted o (yielded ops a.tmps) = true) (hr : (execOp a.eval o).run P w = .ok (.value v) w') (hC : C w')
    (h : K (a.put o.dst v) w') : xOp P ops C i K a w := by
  unfold xOp
  simp only [ho]
  rw [if_pos hg, hr]
  exact ⟨hC, h⟩
theorem x_skip {i : Nat} {o : Oper} {K : Act → World → Prop} {a : Act} {w : World} (ho : ops[i]? = some o) (hg : Region.wanted o (yielded ops a.tmps) = false) (h : K (a.put o.dst undef) w) : xOp P ops C i K a w := by
  unfold xOp
  simp only [ho]
  rw [if_neg (by simp [hg])]
  exact h
theorem q_value {Q : Act → Prop} {o : Oper} {os : List Oper} {a : Act} {v : Value} (hg : Region.wanted o (yielded ops a.tmps) = true) (hr : ∀ w, C w → (execOp a.eval o).run P w = .ok (.value v) w) (h : walkQ P ops C Q os (a.put o.dst v)) : walkQ P ops C Q (o :: os) a :=
  ⟨v, .inl ⟨hg, hr⟩, h⟩
theorem q_skip {Q : Act → Prop} {o : Oper} {os : List Oper} {a : Act} (hg : Region.wanted o (yielded ops a.tmps) = false) (h : walkQ P ops C Q os (a.put o.dst undef)) : walkQ P ops C Q (o :: os) a :=
  ⟨undef, .inr ⟨hg, rfl⟩, h⟩
theorem q_move {Q : Act → Prop} {o : Oper} {os : List Oper} {a : Act} (x : Operand) (hx : o.op = .move x ∨ o.op = .assign x) (hg : o.guard = none) (h : walkQ P ops C Q os (a.put o.dst (a.eval x))) : walkQ P ops C Q (o :: os) a := by
  refine q_value (v := a.eval x) (by simp [Region.wanted, hg]) (fun w _ => ?_) h
  obtain ⟨dst, op, type, pos, after, guard⟩ := o
  rcases hx with hx | hx <;> (subst hx; rfl)
end
end Peel
end Go.Proofs.Qxb6500342a
