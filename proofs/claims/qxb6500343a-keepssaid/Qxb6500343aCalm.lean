/-
  A region that draws its order, walked once, in the text's order, where what is read may not be the same at every draw (a NaN's bits; a callee that lays blocks): a family C of worlds that every operation of the head keeps; at most one operation in sight of another ('loud') whose value is not one and the same; and behind the head a tail whose order is forced (the stores).
-/
import Derived.Still
import Derived.Tactics2
import Derived.KernelRfl
namespace Go.Proofs.Qxb6500343a
namespace Calm
section
variable {P : Program} {ops : Array Oper} {md : Region.Mode} {C : World → Prop} {ld : Oper → Bool}

def upon (P : Program) (C : World → Prop) (U : Value → Prop) : Result Next → Prop
  | .ok (.value u) w' => C w' ∧ U u
  | .ok .skip w' => C w' ∧ U undef
  | .ok (.enter f args) w' => C w' ∧ Calls P f args w' (fun e w'' => ∃ v, e = .returned v ∧ C w'' ∧ U v)
  | _ => False
def still (C : World → Prop) (v : Value) : Result Next → Prop
  | .ok (.value u) w' => C w' ∧ u = v
  | .ok .skip w' => C w' ∧ v = undef
  | _ => False
/-- One operation: loud: a set of values; else one value. -/
def op (P : Program) (ld : Oper → Bool) (o : Oper) (a : Act) (C : World → Prop) (K : Act → Prop) : Prop :=
  if ld o then ∃ U : Value → Prop, (∀ w, C w → upon P C U ((execOp a.eval o).run P w)) ∧ ∀ v, U v → K (a.put o.dst v)
  else ∃ v, (∀ w, C w → still C v ((execOp a.eval o).run P w)) ∧ K (a.put o.dst v)
def cOp (P : Program) (ops : Array Oper) (ld : Oper → Bool) (C : World → Prop) (i : Nat) (K : Act → Prop) (a : Act) : Prop :=
  match ops[i]? with
  | none => K a
  | some o => if Region.wanted o (yielded ops a.tmps) then op P ld o a C K else K (a.put o.dst undef)
/-- The text's order. -/
def walk (P : Program) (ops : Array Oper) (ld : Oper → Bool) (C : World → Prop) (Q : Act → Prop) : List Oper → Act → Prop
  | [], a => Q a
  | o :: rest, a => if Region.wanted o (yielded ops a.tmps) then op P ld o a C (walk P ops ld C Q rest) else walk P ops ld C Q rest (a.put o.dst undef)
def anyC (P : Program) (md : Region.Mode) (ops : Array Oper) (ld : Oper → Bool) (C : World → Prop) (n : Nat) (T : Array Bool → Act → Prop) : Nat → Array Bool → Act → Prop
  | 0, listed, a => (∀ j, j < n → listed.getD j false = true) ∧ T listed a
  | fuel + 1, listed, a => Region.ready md ops listed ≠ [] ∧ ∀ i ∈ Region.ready md ops listed, cOp P ops ld C i (anyC P md ops ld C n T fuel (listed.setIfInBounds i true)) a

theorem op_mono {o : Oper} {a : Act} {K K' : Act → Prop} (h : ∀ a, K a → K' a) (hh : op P ld o a C K) : op P ld o a C K' := by
  unfold op at *
  split
  · rename_i hl; rw [if_pos hl] at hh; obtain ⟨U, h1, h2⟩ := hh; exact ⟨U, h1, fun v hv => h _ (h2 v hv)⟩
  · rename_i hl; rw [if_neg hl] at hh; obtain ⟨v, h1, h2⟩ := hh; exact ⟨v, h1, h _ h2⟩
theorem cOp_mono {i : Nat} {a : Act} {K K' : Act → Prop} (h : ∀ a, K a → K' a) (hh : cOp P ops ld C i K a) : cOp P ops ld C i K' a := by
  unfold cOp at *
  split
  · rename_i ho; simp only [ho] at hh; exact h _ hh
  · rename_i o ho
    simp only [ho] at hh
    split
    · rename_i hw; simp only [hw, if_true] at hh; exact op_mono h hh
    · rename_i hw; simp only [hw] at hh; exact h _ hh
theorem wp_of_op {o : Oper} {a : Act} {K : Act → Prop} {K' : Act → World → Prop} {Q' : Exit → Act → World → Prop} {w : World} (hw : C w) (h : ∀ a w', C w' → K a → K' a w') (hh : op P ld o a C K) : o.wp P a w K' Q' := by
  unfold op at hh
  unfold Oper.wp
  by_cases hl : ld o = true
  · rw [if_pos hl] at hh
    obtain ⟨U, h1, h2⟩ := hh
    have h3 := h1 w hw
    generalize (execOp a.eval o).run P w = r at *
    cases r with
    | ok n w' =>
      cases n <;> simp only [upon] at h3 <;> simp only [Oper.upon]
      case value u => exact h _ _ h3.1 (h2 _ h3.2)
      case skip => exact h _ _ h3.1 (h2 _ h3.2)
      case enter f args =>
        exact h3.2.mono fun e w'' ⟨v, he, hc, hu⟩ => by subst he; exact h _ _ hc (h2 _ hu)
    | halt x w' => simp only [upon] at h3
  · rw [if_neg hl] at hh
    obtain ⟨v, h1, h2⟩ := hh
    have h3 := h1 w hw
    generalize (execOp a.eval o).run P w = r at *
    cases r with
    | ok n w' =>
      cases n <;> simp only [still] at h3 <;> simp only [Oper.upon]
      case value u => obtain ⟨h4, h5⟩ := h3; subst h5; exact h _ _ h4 h2
      case skip => obtain ⟨h4, h5⟩ := h3; subst h5; exact h _ _ h4 h2
    | halt x w' => simp only [still] at h3
theorem wpOp_of_cOp {i : Nat} {a : Act} {K : Act → Prop} {K' : Act → World → Prop} {Q' : Exit → Act → World → Prop} {w : World} (hC : C w) (h : ∀ a w', C w' → K a → K' a w') (hh : cOp P ops ld C i K a) : wpOp P ops Q' i K' a w := by
  unfold cOp at hh
  unfold wpOp
  split
  · rename_i ho; simp only [ho] at hh; exact h _ _ hC hh
  · rename_i o ho
    simp only [ho] at hh
    split
    · rename_i hw; simp only [hw, if_true] at hh; exact .inl (wp_of_op hC h hh)
    · rename_i hw; simp only [hw] at hh; exact h _ _ hC hh
theorem wpAny_of {n t : Nat} {T : Array Bool → Act → Prop} {Q' : Exit → Act → World → Prop} (hT : ∀ listed a, T listed a → ∀ w, C w → wpAny P md ops Q' t listed a w) :
    ∀ (fuel : Nat) (listed : Array Bool) (a : Act) (w : World), C w → anyC P md ops ld C n T fuel listed a → wpAny P md ops Q' (fuel + t) listed a w
  | 0, listed, a, w, hw, h => by rw [Nat.zero_add]; exact hT _ _ h.2 w hw
  | fuel + 1, listed, a, w, hw, h => by
    rw [show fuel + 1 + t = (fuel + t) + 1 from by omega]
    exact ⟨fun h0 => absurd h0 h.1, fun i hi => wpOp_of_cOp hw (fun a' w' hw' => wpAny_of hT fuel _ a' w' hw') (h.2 i hi)⟩

/-- What operation 'o' leaves, in state 'a', whatever the world of the family. -/
def Yields (P : Program) (ops : Array Oper) (ld : Oper → Bool) (C : World → Prop) (o : Oper) (U : Value → Prop) (a : Act) : Prop :=
  (Region.wanted o (yielded ops a.tmps) = true ∧ if ld o then ∀ w, C w → upon P C U ((execOp a.eval o).run P w) else ∃ v, U = (· = v) ∧ ∀ w, C w → still C v ((execOp a.eval o).run P w)) ∨
  (Region.wanted o (yielded ops a.tmps) = false ∧ U = (· = undef))
theorem Yields.cOp {i : Nat} {o : Oper} {U : Value → Prop} {a : Act} (hi : ops[i]? = some o) (hy : Yields P ops ld C o U a) {K : Act → Prop} (h : ∀ v, U v → K (a.put o.dst v)) : cOp P ops ld C i K a := by
  unfold Calm.cOp
  simp only [hi]
  rcases hy with ⟨hw, hv⟩ | ⟨hw, rfl⟩
  · simp only [hw, if_true]
    unfold op
    split
    · rename_i hl; rw [if_pos hl] at hv; exact ⟨U, hv, h⟩
    · rename_i hl; rw [if_neg hl] at hv; obtain ⟨v, rfl, h2⟩ := hv; exact ⟨v, h2, h _ rfl⟩
  · simp only [hw, Bool.false_eq_true, if_false]; exact h _ rfl
theorem Yields.of_same {o : Oper} {U : Value → Prop} {a a' : Act} (hy : Yields P ops ld C o U a) (he : execOp a'.eval o = execOp a.eval o)
    (hw : Region.wanted o (yielded ops a'.tmps) = Region.wanted o (yielded ops a.tmps)) : Yields P ops ld C o U a' := by
  unfold Yields at *
  rw [he, hw]
  exact hy
theorem yields_of_cOp {i : Nat} {o : Oper} {a : Act} {K : Act → Prop} (hi : ops[i]? = some o) (h : Calm.cOp P ops ld C i K a) : ∃ U, Yields P ops ld C o U a ∧ ∀ v, U v → K (a.put o.dst v) := by
  unfold Calm.cOp at h
  simp only [hi] at h
  by_cases hw : Region.wanted o (yielded ops a.tmps) = true
  · simp only [hw, if_true] at h
    unfold op at h
    by_cases hl : ld o = true
    · rw [if_pos hl] at h
      obtain ⟨U, h1, h2⟩ := h
      exact ⟨U, .inl ⟨hw, by rw [if_pos hl]; exact h1⟩, h2⟩
    · rw [if_neg hl] at h
      obtain ⟨v, h1, h2⟩ := h
      exact ⟨(· = v), .inl ⟨hw, by rw [if_neg hl]; exact ⟨v, rfl, h1⟩⟩, fun u hu => by subst hu; exact h2⟩
  · simp only [hw] at h
    exact ⟨(· = undef), .inr ⟨by simpa using hw, rfl⟩, fun u hu => by subst hu; exact h⟩
theorem upon_ex {U : Value → Prop} {r : Result Next} (h : upon P C U r) : ∃ v, U v := by
  cases r with
  | ok n w' =>
    cases n <;> simp only [upon] at h
    case value u => exact ⟨_, h.2⟩
    case skip => exact ⟨_, h.2⟩
    case enter f args =>
      obtain ⟨e, w2, fr, ⟨v, _, _, hu⟩, _⟩ := h.2 []
      exact ⟨v, hu⟩
  | halt x w' => simp only [upon] at h
theorem Yields.ex {o : Oper} {U : Value → Prop} {a : Act} {w : World} (hw : C w) (hy : Yields P ops ld C o U a) : ∃ v, U v := by
  rcases hy with ⟨_, h⟩ | ⟨_, rfl⟩
  · split at h
    · exact upon_ex (h w hw)
    · obtain ⟨v, rfl, _⟩ := h; exact ⟨v, rfl⟩
  · exact ⟨_, rfl⟩
theorem still_one {u v : Value} {r : Result Next} (h : still C u r) (h' : still C v r) : u = v := by
  cases r with
  | ok n w' =>
    cases n <;> simp only [still] at h h'
    case value x => exact h.2.symm.trans h'.2
    case skip => exact h.2.trans h'.2.symm
  | halt x w' => simp only [still] at h
/-- An operation 'oj' ahead of 'oi', from which it is apart. -/
theorem cOp_put {j : Nat} {oi oj : Oper} {U : Value → Prop} (hj : ops[j]? = some oj) (hap : oi.apart ops oj = true) (hld : (ld oi && ld oj) = false)
    (hsi : ∀ cs b, oi.op ≠ .select cs b) (hsj : ∀ cs b, oj.op ≠ .select cs b) {K : Act → Prop} {a : Act} {w₀ : World} (hw₀ : C w₀)
    (hy : Yields P ops ld C oi U a) (h : ∀ v, U v → Calm.cOp P ops ld C j K (a.put oi.dst v)) :
    Calm.cOp P ops ld C j (fun a' => Yields P ops ld C oi U a' ∧ ∀ v, U v → K (a'.put oi.dst v)) a := by
  obtain ⟨h1, h2, h3⟩ := Oper.apart_spec hap
  have keep : ∀ (a : Act), Yields P ops ld C oi U a → ∀ u, Yields P ops ld C oi U (a.put oj.dst u) := fun a hy u =>
    hy.of_same (execOp_put oi hsi a oj.dst u h3) (wanted_put oi a oj.dst u h3)
  obtain ⟨v₀, hv₀⟩ := hy.ex hw₀
  unfold Calm.cOp at *
  simp only [hj] at *
  have hwa : ∀ v, Region.wanted oj (yielded ops (a.put oi.dst v).tmps) = Region.wanted oj (yielded ops a.tmps) := fun v => wanted_put oj a oi.dst v h1
  have hex : ∀ v, execOp (a.put oi.dst v).eval oj = execOp a.eval oj := fun v => execOp_put oj hsj a oi.dst v h1
  by_cases hw : Region.wanted oj (yielded ops a.tmps) = true
  · rw [if_pos hw]
    have hh : ∀ v, U v → op P ld oj (a.put oi.dst v) C K := fun v hv => by have := h v hv; rw [hwa v, if_pos hw] at this; exact this
    unfold op at hh ⊢
    by_cases hl : ld oj = true
    · -- 'oi' is not loud: one value
      have hli : ld oi = false := by simpa [hl] using hld
      have hone : ∀ v, U v → v = v₀ := by
        rcases hy with ⟨_, hq⟩ | ⟨_, rfl⟩
        · rw [hli] at hq
          simp only [Bool.false_eq_true, if_false] at hq
          obtain ⟨u, rfl, _⟩ := hq
          intro v hv; exact hv.trans hv₀.symm
        · intro v hv; exact hv.trans hv₀.symm
      rw [if_pos hl]
      have h4 := hh v₀ hv₀
      rw [if_pos hl] at h4
      obtain ⟨Uj, h5, h6⟩ := h4
      refine ⟨Uj, fun w hw => by have := h5 w hw; rwa [hex] at this, fun u hu => ⟨keep a hy u, fun v hv => ?_⟩⟩
      rw [hone v hv, ← Act.put_comm a v₀ u h2]
      exact h6 u hu
    · rw [if_neg hl]
      have h4 := hh v₀ hv₀
      rw [if_neg hl] at h4
      obtain ⟨u, h5, h6⟩ := h4
      refine ⟨u, fun w hw => by have := h5 w hw; rwa [hex] at this, keep a hy u, fun v hv => ?_⟩
      have h7 := hh v hv
      rw [if_neg hl] at h7
      obtain ⟨u', h8, h9⟩ := h7
      have e : u' = u := by
        have a1 := h8 w₀ hw₀
        have a2 := h5 w₀ hw₀
        rw [hex] at a1 a2
        exact still_one a1 a2
      subst e
      rw [← Act.put_comm a v _ h2]
      exact h9
  · rw [if_neg hw]
    refine ⟨keep a hy _, fun v hv => ?_⟩
    have := h v hv
    rw [hwa v, if_neg hw] at this
    rw [← Act.put_comm a v _ h2]
    exact this

theorem any_first {n : Nat} {T : Array Bool → Act → Prop} {i : Nat} {oi : Oper} {U : Value → Prop} {w₀ : World} (hw₀ : C w₀) (hi : ops[i]? = some oi) (hin : i < n)
    (hsel : ∀ (j : Nat) (o : Oper) cs b, ops[j]? = some o → o.op ≠ .select cs b)
    (htail : ∀ j oj, ops[j]? = some oj → n ≤ j → ∀ k, k < n → ∃ e ∈ oj.after, Region.binds md e = true ∧ e.on = k) :
    ∀ (fuel : Nat) (listed : Array Bool) (a : Act),
      (∀ j oj, ops[j]? = some oj → j ≠ i → listed.getD j true = false → (∀ e ∈ oj.after, Region.binds md e = true → e.on ≠ i) → oi.apart ops oj = true ∧ (ld oi && ld oj) = false) →
      i ∈ Region.ready md ops listed → Yields P ops ld C oi U a →
      (∀ v, U v → anyC P md ops ld C n T fuel (listed.setIfInBounds i true) (a.put oi.dst v)) → anyC P md ops ld C n T (fuel + 1) listed a := by
  intro fuel
  induction fuel with
  | zero =>
    intro listed a _ hr hy H
    refine ⟨List.ne_nil_of_mem hr, fun j hj => ?_⟩
    by_cases hji : j = i
    · subst hji; exact hy.cOp hi H
    · exfalso
      obtain ⟨v, hv⟩ := hy.ex hw₀
      have hall := (H v hv).1
      obtain ⟨hjun, oj, hoj, hdeps⟩ := mem_ready.1 hj
      have hiun := (mem_ready.1 hr).1
      rcases Nat.lt_or_ge j n with hjn | hjn
      · have h1 := hall j hjn
        rw [getD_set_ne false (Ne.symm hji)] at h1
        rcases Nat.lt_or_ge j listed.size with h' | h'
        · simp [h'] at hjun h1; rw [hjun] at h1; cases h1
        · simp [Array.getElem?_eq_none h'] at h1
      · obtain ⟨e, he, hb, hon⟩ := htail j oj hoj hjn i hin
        have h1 := hdeps e he hb
        rw [hon] at h1
        rcases Nat.lt_or_ge i listed.size with h' | h'
        · simp [h'] at hiun h1; rw [hiun] at h1; cases h1
        · simp [Array.getElem?_eq_none h'] at h1
  | succ fuel ih =>
    intro listed a hfree hr hy H
    refine ⟨List.ne_nil_of_mem hr, fun j hj => ?_⟩
    by_cases hji : j = i
    · subst hji; exact hy.cOp hi H
    · have h1 : ∀ v, U v → Calm.cOp P ops ld C j (anyC P md ops ld C n T fuel ((listed.setIfInBounds i true).setIfInBounds j true)) (a.put oi.dst v) :=
        fun v hv => (H v hv).2 j (ready_mono hj hji)
      obtain ⟨hjun, oj, hoj, hall⟩ := mem_ready.1 hj
      have hnot : ∀ e ∈ oj.after, Region.binds md e = true → e.on ≠ i := fun e he hb heq => by
        have h1 := hall e he hb
        have h0 := (mem_ready.1 hr).1
        rw [heq] at h1
        rcases Nat.lt_or_ge i listed.size with h' | h'
        · simp [h'] at h0 h1; rw [h0] at h1; cases h1
        · simp [Array.getElem?_eq_none h'] at h1
      have hap := hfree j oj hoj hji hjun hnot
      have h2 := cOp_put hoj hap.1 hap.2 (fun cs b => hsel i oi cs b hi) (fun cs b => hsel j oj cs b hoj) hw₀ hy h1
      have hfree' : ∀ k ok, ops[k]? = some ok → k ≠ i → (listed.setIfInBounds j true).getD k true = false →
          (∀ e ∈ ok.after, Region.binds md e = true → e.on ≠ i) → oi.apart ops ok = true ∧ (ld oi && ld ok) = false := fun k ok hk hki hun hno => by
        refine hfree k ok hk hki ?_ hno
        by_cases hjk : j = k
        · subst hjk; exact hjun
        · rw [getD_set_ne true hjk] at hun; exact hun
      refine cOp_mono (fun a' h3 => ih (listed.setIfInBounds j true) a' hfree' (ready_mono hr (Ne.symm hji)) h3.1 ?_) h2
      intro v hv
      rw [Array.setIfInBounds_comm _ _ hji]
      exact h3.2 v hv

/-- No two loud operations in sight of each other. -/
def apartB (md : Region.Mode) (ops : Array Oper) (ld : Oper → Bool) (listed : Array Bool) (i : Nat) : Bool :=
  match ops[i]? with
  | none => false
  | some oi => (List.range ops.size).all fun j => j == i || listed.getD j true || match ops[j]? with
      | some oj => oj.after.any (fun e => Region.binds md e && e.on == i) || (oi.apart ops oj && !(ld oi && ld oj))
      | none => true
def chainB (md : Region.Mode) (ops : Array Oper) : Nat → Nat → Array Bool → Bool
  | 0, _, listed => (Region.ready md ops listed).isEmpty
  | fuel + 1, k, listed => Region.ready md ops listed == [k] && chainB md ops fuel (k + 1) (listed.setIfInBounds k true)
def headB (md : Region.Mode) (ops : Array Oper) (ld : Oper → Bool) (t : Nat) : Nat → Nat → Array Bool → Bool
  | 0, k, listed => (List.range k).all (fun j => listed.getD j false) && chainB md ops t k listed
  | fuel + 1, k, listed => (Region.ready md ops listed).contains k && apartB md ops ld listed k && headB md ops ld t fuel (k + 1) (listed.setIfInBounds k true)
def tailB (md : Region.Mode) (ops : Array Oper) (n : Nat) : Bool :=
  (List.range ops.size).all fun j => decide (j < n) || match ops[j]? with
    | some oj => (List.range n).all fun k => oj.after.any fun e => Region.binds md e && e.on == k
    | none => true
/-- THE BOOL OVER A REGION: n operations in the head, t in the tail. -/
def calmB (md : Region.Mode) (ops : Array Oper) (ld : Oper → Bool) (n t : Nat) : Bool :=
  Region.noSelect ops && tailB md ops n && headB md ops ld t n 0 (Array.replicate ops.size false) && (n + t == ops.size)

theorem apartB_spec {i : Nat} {oi : Oper} {listed : Array Bool} (hi : ops[i]? = some oi) (h : apartB md ops ld listed i = true) (j : Nat) (oj : Oper)
    (hj : ops[j]? = some oj) (hne : j ≠ i) (hun : listed.getD j true = false) (hno : ∀ e ∈ oj.after, Region.binds md e = true → e.on ≠ i) :
    oi.apart ops oj = true ∧ (ld oi && ld oj) = false := by
  simp only [apartB, hi, List.all_eq_true, List.mem_range] at h
  have h1 := h j (Array.getElem?_eq_some_iff.1 hj).1
  simp only [hj, Bool.or_eq_true, beq_iff_eq, hne, false_or, hun, Bool.false_eq_true] at h1
  rcases h1 with h1 | h1
  · obtain ⟨e, he, hb⟩ := Array.any_eq_true'.1 h1
    simp only [Bool.and_eq_true, beq_iff_eq] at hb
    exact absurd hb.2 (hno e he hb.1)
  · simp only [Bool.and_eq_true, Bool.not_eq_true'] at h1; exact h1
theorem tailB_spec {n : Nat} (h : tailB md ops n = true) (j : Nat) (oj : Oper) (hj : ops[j]? = some oj) (hn : n ≤ j) (k : Nat) (hk : k < n) : ∃ e ∈ oj.after, Region.binds md e = true ∧ e.on = k := by
  simp only [tailB, List.all_eq_true, List.mem_range] at h
  have h1 := h j (Array.getElem?_eq_some_iff.1 hj).1
  simp only [hj, Bool.or_eq_true, decide_eq_true_eq, List.all_eq_true, List.mem_range] at h1
  rcases h1 with h1 | h1
  · omega
  · obtain ⟨e, he, hb⟩ := Array.any_eq_true'.1 (h1 k hk)
    simp only [Bool.and_eq_true, beq_iff_eq] at hb
    exact ⟨e, he, hb.1, hb.2⟩

/-- The forced tail. -/
theorem any_chain {Q : Exit → Act → World → Prop} : ∀ (l : List Oper) (k : Nat) (listed : Array Bool), (∀ j, l[j]? = ops[k + j]?) → chainB md ops l.length k listed = true →
    ∀ a w, wpList P ops Q l a w → wpAny P md ops Q l.length listed a w
  | [], _, _, _, hB, _, _, h => ⟨by simpa [chainB] using hB, h⟩
  | o :: l, k, listed, hl, hB, a, w, h => by
    simp only [List.length_cons, chainB, Bool.and_eq_true, beq_iff_eq] at hB
    have h0 : ops[k]? = some o := by simpa using (hl 0).symm
    refine ⟨fun h1 => (by rw [hB.1] at h1; cases h1), fun i hi => ?_⟩
    rw [hB.1, List.mem_singleton] at hi
    subst hi
    have ih := any_chain (Q := Q) l (i + 1) (listed.setIfInBounds i true) (fun j => by have := hl (j + 1); simpa [Nat.add_assoc, Nat.add_comm 1 j] using this) hB.2
    refine wpOp_mono (K := wpList P ops Q l) (fun a w => ih a w) ?_
    unfold wpOp
    simp only [h0]
    exact h

theorem any_lex {n t : Nat} {T : Array Bool → Act → Prop} {Qn : Act → Prop} {w₀ : World} (hw₀ : C w₀) (hs : Region.noSelect ops = true) (htail : tailB md ops n = true) :
    ∀ (l : List Oper) (k : Nat) (listed : Array Bool) (a : Act), (∀ j, j < l.length → l[j]? = ops[k + j]?) → k + l.length = n →
    (∀ listed a, (∀ j, j < n → listed.getD j false = true) → chainB md ops t n listed = true → Qn a → T listed a) →
    headB md ops ld t l.length k listed = true → walk P ops ld C Qn l a → anyC P md ops ld C n T l.length listed a
  | [], k, listed, a, _, hk, hT, hB, h => by
    simp only [List.length_nil, Nat.add_zero] at hk
    subst hk
    simp only [List.length_nil, headB, Bool.and_eq_true, List.all_eq_true, List.mem_range] at hB
    exact ⟨hB.1, hT _ _ hB.1 hB.2 h⟩
  | o :: l, k, listed, a, hl, hk, hT, hB, h => by
    have h0 : ops[k]? = some o := by simpa using (hl 0 (by simp)).symm
    simp only [List.length_cons, headB, Bool.and_eq_true] at hB
    obtain ⟨⟨hr, hf⟩, hB'⟩ := hB
    have hst : Calm.cOp P ops ld C k (walk P ops ld C Qn l) a := by unfold Calm.cOp; simp only [h0]; exact h
    obtain ⟨U, hy, hK⟩ := yields_of_cOp h0 hst
    have hk' : k < n := by simp only [List.length_cons] at hk; omega
    exact any_first hw₀ h0 hk' (Region.noSelect_spec hs) (tailB_spec htail) l.length listed a (apartB_spec h0 hf) (by simpa using hr) hy
      (fun v hv => any_lex hw₀ hs htail l (k + 1) _ _ (fun j hj => by have := hl (j + 1) (by simp; omega); simpa [Nat.add_assoc, Nat.add_comm 1 j] using this) (by simp only [List.length_cons] at hk; omega) hT hB' (hK v hv))

/-- **THE REGION.** -/
theorem region {id : Nat} {Q : Exit → Act → World → Prop} {a : Act} {w : World} {l : List Oper} (n t : Nat) (ld : Oper → Bool) (C : World → Prop) (hm : P.follows .mixedOrders = true)
    (hB : calmB .any l.toArray ld n t = true) (hC : C { w with drawn := w.drawn + 1 })
    (h : walk P l.toArray ld C (fun a' => ∀ w', C w' → wpList P l.toArray Q (l.drop n) a' w') (l.take n) a) : (Code.region id l.toArray true).wp P Q a w := by
  simp only [calmB, Bool.and_eq_true, beq_iff_eq] at hB
  obtain ⟨⟨⟨h1, h2⟩, h3⟩, h4⟩ := hB
  have h4' : n + t = l.length := by simpa using h4
  refine wp_region_any hm ?_
  have e : l.toArray.size = n + t := by simp [h4']
  rw [show l.toArray.size = n + t from e]
  rw [e] at h3
  have hlen : (l.take n).length = n := by rw [List.length_take]; omega
  have key : anyC P .any l.toArray ld C n (fun listed a => ∀ w, C w → wpAny P .any l.toArray Q t listed a w) (l.take n).length (Array.replicate (n + t) false) a := by
    refine any_lex (t := t) (Qn := fun a' => ∀ w', C w' → wpList P l.toArray Q (l.drop n) a' w') hC h1 h2 (l.take n) 0 _ a (fun j hj => ?_) (by omega) ?_ (by rw [hlen]; exact h3) h
    · rw [hlen] at hj; simp [hj]
    · intro listed a _ hch hq w hw
      have hl2 : (l.drop n).length = t := by simp; omega
      rw [← hl2] at hch ⊢
      exact any_chain (l.drop n) n listed (fun j => by simp) hch a w (hq w hw)
  rw [hlen] at key
  exact wpAny_of (n := n) (T := fun listed a => ∀ w, C w → wpAny P .any l.toArray Q t listed a w) (fun _ _ h => h) n _ a _ hC key
end
end Calm
end Go.Proofs.Qxb6500343a
