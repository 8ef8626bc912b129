/- Regions that draw their order and whose operations yield one of some values: walked once, in the order of the text. Conditions: none beside the theorem's own. -/
import Derived.Test.YtbaokmapgdnhlaaFp
import Derived.BigQuiet
set_option linter.unusedVariables false
set_option linter.unusedSimpArgs false
namespace Go.Proofs.Ytbaokmapgdnhlaa
open Go
namespace Loose
section
variable {P : Program} {ops : Array Oper} {md : Region.Mode} {C : World → Prop} {R : World → World → Prop} {qs : Nat → Option (Value → World → Prop)}
/-- What is asked once an operation has yielded this: a value of those, and a world of the class, not far from the world before. -/
def upon (P : Program) (C : World → Prop) (R : World → World → Prop) (p : Value → World → Prop) (w : World) : Result Next → Prop
  | .ok (.value u) w' => C w' ∧ R w w' ∧ p u w'
  | .ok .skip w' => C w' ∧ R w w' ∧ p undef w'
  | .ok (.enter f args) w' => Calls P f args w' (fun e w'' => ∃ v, e = .returned v ∧ C w'' ∧ R w w'' ∧ p v w'')
  | _ => False
structure at_ (P : Program) (o : Oper) (a : Act) (C : World → Prop) (R : World → World → Prop) (w : World) (p : Value → World → Prop) : Prop where
  out : upon P C R p w ((execOp a.eval o).run P w)
def Stable (R : World → World → Prop) (F : World → Prop) : Prop := ∀ w w', R w w' → F w → F w'
/-- What an operation may yield: one of those that are named; or the one value that it yields in each world of the class. -/
def pr (P : Program) (C : World → Prop) (q : Option (Value → World → Prop)) (o : Oper) (a : Act) : Value → World → Prop :=
  match q with
  | some p => p
  | none => fun u _ => ∀ w, C w → (execOp a.eval o).run P w = .ok (.value u) w
theorem pr_same {q : Option (Value → World → Prop)} {o : Oper} {a a' : Act} (he : execOp a'.eval o = execOp a.eval o) : pr P C q o a' = pr P C q o a := by
  unfold pr; rw [he]
/-- Operation number 'i' comes up in state 'a', with the facts F. -/
def op (P : Program) (ops : Array Oper) (C : World → Prop) (R : World → World → Prop) (qs : Nat → Option (Value → World → Prop)) (i : Nat) (K : Act → (World → Prop) → Prop) (a : Act) (F : World → Prop) : Prop :=
  match ops[i]? with
  | none => K a F
  | some o => if Region.wanted o (yielded ops a.tmps) = true then (∀ v, Stable R (pr P C (qs i) o a v)) ∧ (∀ w, C w → at_ P o a C R w (pr P C (qs i) o a)) ∧ ∀ v, (∃ w, C w ∧ pr P C (qs i) o a v w) → K (a.put o.dst v) (fun w => F w ∧ pr P C (qs i) o a v w) else K (a.put o.dst undef) F
theorem op_mono {i : Nat} {a : Act} {F : World → Prop} {K K' : Act → (World → Prop) → Prop} (h : ∀ a F, K a F → K' a F) (hh : op P ops C R qs i K a F) : op P ops C R qs i K' a F := by
  unfold op at *
  split
  · exact h _ _ (by simpa [*] using hh)
  · rename_i o ho
    simp only [ho] at hh
    split
    · rename_i hw; simp only [hw, if_true] at hh; exact ⟨hh.1, hh.2.1, fun v hv => h _ _ (hh.2.2 v hv)⟩
    · rename_i hw; simp only [hw] at hh; exact h _ _ hh
/-- Whatever order is picked from here on. -/
def any (P : Program) (md : Region.Mode) (ops : Array Oper) (C : World → Prop) (R : World → World → Prop) (qs : Nat → Option (Value → World → Prop)) (Q : Act → (World → Prop) → Prop) : Nat → Array Bool → Act → (World → Prop) → Prop
  | 0, listed, a, F => Region.ready md ops listed = [] ∧ Q a F
  | fuel + 1, listed, a, F =>
    (Region.ready md ops listed = [] → Q a F) ∧
    ∀ i ∈ Region.ready md ops listed, op P ops C R qs i (any P md ops C R qs Q fuel (listed.setIfInBounds i true)) a F
theorem wp_of {o : Oper} {a : Act} {p : Value → World → Prop} {F : World → Prop} {K : Act → (World → Prop) → Prop} {K' : Act → World → Prop} {Q' : Exit → Act → World → Prop} {w : World} (hF : F w) (hs : Stable R F) (hp : ∀ v, Stable R (p v))
    (h : ∀ a F w', C w' → F w' → Stable R F → K a F → K' a w') (h3 : at_ P o a C R w p) (h2 : ∀ v, (∃ w, C w ∧ p v w) → K (a.put o.dst v) (fun w => F w ∧ p v w)) : o.wp P a w K' Q' := by
  have h3 := h3.out
  unfold Oper.wp
  have hsp : ∀ v, Stable R (fun w => F w ∧ p v w) := fun v x y hr ⟨h1, h2⟩ => ⟨hs _ _ hr h1, hp v _ _ hr h2⟩
  generalize (execOp a.eval o).run P w = r at *
  cases r with
  | ok n w' =>
    cases n <;> simp only [upon] at h3 <;> simp only [Oper.upon]
    case value u => exact h _ _ _ h3.1 ⟨hs _ _ h3.2.1 hF, h3.2.2⟩ (hsp _) (h2 _ ⟨_, h3.1, h3.2.2⟩)
    case skip => exact h _ _ _ h3.1 ⟨hs _ _ h3.2.1 hF, h3.2.2⟩ (hsp _) (h2 _ ⟨_, h3.1, h3.2.2⟩)
    case enter f args =>
      exact h3.mono fun e w'' ⟨v, he, hC, hr, hpv⟩ => by subst he; exact h _ _ _ hC ⟨hs _ _ hr hF, hpv⟩ (hsp _) (h2 _ ⟨_, hC, hpv⟩)
  | halt x w' => simp only [upon] at h3
theorem wpOp_of {i : Nat} {a : Act} {F : World → Prop} {K : Act → (World → Prop) → Prop} {K' : Act → World → Prop} {Q' : Exit → Act → World → Prop} {w : World} (hC : C w) (hF : F w) (hs : Stable R F) (h : ∀ a F w', C w' → F w' → Stable R F → K a F → K' a w') (hh : op P ops C R qs i K a F) : wpOp P ops Q' i K' a w := by
  unfold op at hh
  unfold wpOp
  split
  · rename_i ho; simp only [ho] at hh; exact h _ _ _ hC hF hs hh
  · rename_i o ho
    simp only [ho] at hh
    split
    · rename_i hw; simp only [hw, if_true] at hh; exact .inl (wp_of hF hs hh.1 h (hh.2.1 w hC) hh.2.2)
    · rename_i hw; simp only [hw] at hh; exact h _ _ _ hC hF hs hh
theorem wpAny_of {Q : Act → (World → Prop) → Prop} {Q' : Exit → Act → World → Prop} (hQ : ∀ a F w, C w → F w → Q a F → Q' .normal a w) : ∀ (fuel : Nat) (listed : Array Bool) (a : Act) (F : World → Prop) (w : World), C w → F w → Stable R F →
    any P md ops C R qs Q fuel listed a F → wpAny P md ops Q' fuel listed a w
  | 0, _, _, _, _, hw, hF, _, h => ⟨h.1, hQ _ _ _ hw hF h.2⟩
  | fuel + 1, _, _, _, _, hw, hF, hs, h => ⟨fun h0 => hQ _ _ _ hw hF (h.1 h0), fun i hi => wpOp_of hw hF hs (fun a' F' w' hw' hF' hs' => wpAny_of hQ fuel _ a' F' w' hw' hF' hs') (h.2 i hi)⟩
/-- In state 'a', in every world of the class, operation 'o' leaves one of its values in its temporary, and a world of the class. -/
def Yields (P : Program) (ops : Array Oper) (C : World → Prop) (R : World → World → Prop) (p : Value → World → Prop) (o : Oper) (a : Act) : Prop :=
  Region.wanted o (yielded ops a.tmps) = true → (∀ v, Stable R (p v)) ∧ ∀ w, C w → at_ P o a C R w p
/-- What may stand in its temporary. -/
def May (ops : Array Oper) (C : World → Prop) (p : Value → World → Prop) (o : Oper) (a : Act) (v : Value) : Prop := if Region.wanted o (yielded ops a.tmps) = true then ∃ w, C w ∧ p v w else v = undef
def add (ops : Array Oper) (p : Value → World → Prop) (o : Oper) (a : Act) (F : World → Prop) (v : Value) : World → Prop := if Region.wanted o (yielded ops a.tmps) = true then (fun w => F w ∧ p v w) else F
theorem add_and {p : Value → World → Prop} {o : Oper} {a : Act} {F G : World → Prop} {v : Value} : (fun w => add ops p o a F v w ∧ G w) = add ops p o a (fun w => F w ∧ G w) v := by
  unfold add
  split
  · exact funext fun w => propext ⟨fun ⟨⟨h1, h2⟩, h3⟩ => ⟨⟨h1, h3⟩, h2⟩, fun ⟨⟨h1, h3⟩, h2⟩ => ⟨⟨h1, h2⟩, h3⟩⟩
  · rfl
theorem Yields.op {i : Nat} {o : Oper} {a : Act} {F : World → Prop} (hi : ops[i]? = some o) (hy : Yields P ops C R (pr P C (qs i) o a) o a) {K : Act → (World → Prop) → Prop} (h : ∀ v, May ops C (pr P C (qs i) o a) o a v → K (a.put o.dst v) (add ops (pr P C (qs i) o a) o a F v)) : op P ops C R qs i K a F := by
  unfold Loose.op
  simp only [hi]
  unfold May add at h
  split
  · rename_i hw
    simp only [hw, if_true] at h
    exact ⟨(hy hw).1, (hy hw).2, h⟩
  · rename_i hw
    simp only [hw] at h
    exact h _ rfl
theorem Yields.of_same {p : Value → World → Prop} {o : Oper} {a a' : Act} (hy : Yields P ops C R p o a) (he : execOp a'.eval o = execOp a.eval o)
    (hw : Region.wanted o (yielded ops a'.tmps) = Region.wanted o (yielded ops a.tmps)) : Yields P ops C R p o a' := by
  unfold Yields at *
  rw [hw]
  exact fun h => ⟨(hy h).1, fun w hc => ⟨by rw [he]; exact ((hy h).2 w hc).out⟩⟩
theorem May.same {p : Value → World → Prop} {o : Oper} {a a' : Act} {v : Value} (hw : Region.wanted o (yielded ops a'.tmps) = Region.wanted o (yielded ops a.tmps)) (h : May ops C p o a' v) : May ops C p o a v := by
  unfold May at *; rwa [hw] at h
theorem yields_of_op {i : Nat} {o : Oper} {a : Act} {F : World → Prop} {K : Act → (World → Prop) → Prop} (hi : ops[i]? = some o) (h : Loose.op P ops C R qs i K a F) : Yields P ops C R (pr P C (qs i) o a) o a ∧ ∀ v, May ops C (pr P C (qs i) o a) o a v → K (a.put o.dst v) (add ops (pr P C (qs i) o a) o a F v) := by
  unfold Loose.op at h
  simp only [hi] at h
  unfold Yields May add
  by_cases hw : Region.wanted o (yielded ops a.tmps) = true
  · simp only [hw, if_true] at h ⊢
    exact ⟨fun _ => ⟨h.1, h.2.1⟩, h.2.2⟩
  · simp only [hw] at h ⊢
    exact ⟨fun h' => by simp at h', fun v hv => by simp at hv; subst hv; simpa using h⟩
theorem may_some {p : Value → World → Prop} {o : Oper} {a : Act} (hC : ∃ w, C w) (hy : Yields P ops C R p o a) : ∃ v, May ops C p o a v := by
  unfold May
  by_cases hw : Region.wanted o (yielded ops a.tmps) = true
  · obtain ⟨w, hc⟩ := hC
    have h := (hy hw).2 w hc
    simp only [hw, if_true]
    have h := h.out
    generalize (execOp a.eval o).run P w = r at *
    cases r with
    | ok n w' =>
      cases n <;> simp only [upon] at h
      case value u => exact ⟨_, _, h.1, h.2.2⟩
      case skip => exact ⟨_, _, h.1, h.2.2⟩
      case enter f args =>
        obtain ⟨e, w'', _, ⟨v, _, h1, _, h2⟩, _⟩ := h []
        exact ⟨_, _, h1, h2⟩
    | halt x w' => simp only [upon] at h
  · exact ⟨undef, by rw [if_neg hw]⟩
theorem op_put {j : Nat} {oi oj : Oper} (hC : ∃ w, C w) (hj : ops[j]? = some oj) (hap : oi.apart ops oj = true)
    (hsi : ∀ cs b, oi.op ≠ .select cs b) (hsj : ∀ cs b, oj.op ≠ .select cs b) {K : Act → (World → Prop) → Prop} {a : Act} {F : World → Prop} {p : Value → World → Prop}
    (hy : Yields P ops C R p oi a) (h : ∀ v, May ops C p oi a v → Loose.op P ops C R qs j K (a.put oi.dst v) (add ops p oi a F v)) :
    Loose.op P ops C R qs j (fun a' F' => (execOp a'.eval oi = execOp a.eval oi) ∧ Yields P ops C R p oi a' ∧ ∀ v, May ops C p oi a' v → K (a'.put oi.dst v) (add ops p oi a' F' v)) a F := by
  obtain ⟨h1, h2, h3⟩ := Oper.apart_spec hap
  have keep : ∀ u, Yields P ops C R p oi (a.put oj.dst u) := fun u => hy.of_same (execOp_put oi hsi a oj.dst u h3) (wanted_put oi a oj.dst u h3)
  have back : ∀ u v, May ops C p oi (a.put oj.dst u) v → May ops C p oi a v := fun u v => May.same (wanted_put oi a oj.dst u h3)
  have hadd : ∀ u F v, add ops p oi (a.put oj.dst u) F v = add ops p oi a F v := fun u F v => by unfold add; rw [wanted_put oi a oj.dst u h3]
  have hpr : ∀ v, pr P C (qs j) oj (a.put oi.dst v) = pr P C (qs j) oj a := fun v => pr_same (execOp_put oj hsj a oi.dst v h1)
  obtain ⟨v0, hv0⟩ := may_some hC hy
  unfold Loose.op at *
  simp only [hj] at *
  split
  · rename_i hw
    have hh : ∀ v, May ops C p oi a v → (∀ u, Stable R (pr P C (qs j) oj a u)) ∧ (∀ w, C w → at_ P oj (a.put oi.dst v) C R w (pr P C (qs j) oj a)) ∧ ∀ u, (∃ w, C w ∧ pr P C (qs j) oj a u w) → K ((a.put oi.dst v).put oj.dst u) (fun w => add ops p oi a F v w ∧ pr P C (qs j) oj a u w) := by
      intro v hv
      have := h v hv
      rwa [wanted_put oj a oi.dst v h1, if_pos hw, hpr] at this
    refine ⟨(hh v0 hv0).1, fun w hw' => ?_, fun u hu => ⟨execOp_put oi hsi a oj.dst u h3, keep u, fun v hv => by rw [hadd, ← Act.put_comm a v u h2, ← add_and]; exact (hh v (back u v hv)).2.2 u hu⟩⟩
    have := (hh v0 hv0).2.1 w hw'
    have := this.out
    rw [execOp_put oj hsj a oi.dst v0 h1] at this
    exact ⟨this⟩
  · rename_i hw
    refine ⟨execOp_put oi hsi a oj.dst undef h3, keep _, fun v hv => ?_⟩
    have := h v (back _ v hv)
    rw [wanted_put oj a oi.dst v h1, if_neg hw] at this
    rw [hadd, ← Act.put_comm a v undef h2]; exact this
theorem any_first {Q : Act → (World → Prop) → Prop} {i : Nat} {oi : Oper} (hC : ∃ w, C w) (hi : ops[i]? = some oi) (hsel : ∀ (j : Nat) (o : Oper) cs b, ops[j]? = some o → o.op ≠ .select cs b) :
    ∀ (fuel : Nat) (listed : Array Bool) (a : Act) (F : World → Prop),
      (∀ j oj, ops[j]? = some oj → j ≠ i → listed.getD j true = false → (∀ e ∈ oj.after, Region.binds md e = true → e.on ≠ i) → oi.apart ops oj = true) →
      i ∈ Region.ready md ops listed → Yields P ops C R (pr P C (qs i) oi a) oi a →
      (∀ v, May ops C (pr P C (qs i) oi a) oi a v → any P md ops C R qs Q fuel (listed.setIfInBounds i true) (a.put oi.dst v) (add ops (pr P C (qs i) oi a) oi a F v)) → any P md ops C R qs Q (fuel + 1) listed a F := by
  intro fuel
  induction fuel with
  | zero =>
    intro listed a F _ hr hy H
    refine ⟨fun h => (by rw [h] at hr; cases hr), fun j hj => ?_⟩
    by_cases hji : j = i
    · subst hji; exact hy.op hi H
    · have := ready_mono hj hji
      obtain ⟨v0, hv0⟩ := may_some hC hy
      rw [(H v0 hv0).1] at this
      cases this
  | succ fuel ih =>
    intro listed a F hfree hr hy H
    refine ⟨fun h => (by rw [h] at hr; cases hr), fun j hj => ?_⟩
    by_cases hji : j = i
    · subst hji; exact hy.op hi H
    · have h1 := fun v hv => (H v hv).2 j (ready_mono hj hji)
      obtain ⟨hjun, oj, hoj, hall⟩ := mem_ready.1 hj
      have hnot : ∀ e ∈ oj.after, Region.binds md e = true → e.on ≠ i := fun e he hb heq => by
        have h1 := hall e he hb
        have h0 := (mem_ready.1 hr).1
        rw [heq] at h1
        rcases Nat.lt_or_ge i listed.size with h' | h'
        · simp [h'] at h0 h1; rw [h0] at h1; cases h1
        · simp [Array.getElem?_eq_none h'] at h1
      have h2 := op_put hC hoj (hfree j oj hoj hji hjun hnot) (fun cs b => hsel i oi cs b hi) (fun cs b => hsel j oj cs b hoj) hy h1
      have hfree' : ∀ k ok, ops[k]? = some ok → k ≠ i → (listed.setIfInBounds j true).getD k true = false →
          (∀ e ∈ ok.after, Region.binds md e = true → e.on ≠ i) → oi.apart ops ok = true := fun k ok hk hki hun hno => by
        refine hfree k ok hk hki ?_ hno
        by_cases hjk : j = k
        · subst hjk; exact hjun
        · rw [getD_set_ne true hjk] at hun; exact hun
      refine op_mono (fun a' F' h3 => ih (listed.setIfInBounds j true) a' F' hfree' (ready_mono hr (Ne.symm hji)) (by rw [pr_same h3.1]; exact h3.2.1) ?_) h2
      rw [Array.setIfInBounds_comm _ _ hji, pr_same h3.1]
      exact h3.2.2
/-- The lexical walk: the operations themselves, in index order, and what each may yield. -/
def walk (P : Program) (ops : Array Oper) (C : World → Prop) (R : World → World → Prop) (Q : Act → (World → Prop) → Prop) : List Oper → List (Option (Value → World → Prop)) → Act → (World → Prop) → Prop
  | [], _, a, F => Q a F
  | o :: rest, [], a, F => False
  | o :: rest, q :: ql, a, F => if Region.wanted o (yielded ops a.tmps) = true then (∀ v, Stable R (pr P C q o a v)) ∧ (∀ w, C w → at_ P o a C R w (pr P C q o a)) ∧ ∀ v, (∃ w, C w ∧ pr P C q o a v w) → walk P ops C R Q rest ql (a.put o.dst v) (fun w => F w ∧ pr P C q o a v w) else walk P ops C R Q rest ql (a.put o.dst undef) F
theorem any_lex {Q : Act → (World → Prop) → Prop} (hC : ∃ w, C w) (hs : Region.noSelect ops = true) : ∀ (l : List Oper) (ql : List (Option (Value → World → Prop))) (k : Nat) (listed : Array Bool) (a : Act) (F : World → Prop), (∀ j, l[j]? = ops[k + j]?) → (∀ j q, ql[j]? = some q → qs (k + j) = q) →
    Region.lexFrom md ops l.length k listed = true → walk P ops C R Q l ql a F → any P md ops C R qs Q l.length listed a F
  | [], _, _, _, _, _, _, _, hB, h => ⟨by simpa [Region.lexFrom] using hB, h⟩
  | o :: l, [], _, _, _, _, _, _, _, h => by simp [walk] at h
  | o :: l, q :: ql, k, listed, a, F, hl, hq, hB, h => by
    have h0 : ops[k]? = some o := by simpa using (hl 0).symm
    have hq0 : qs k = q := by simpa using hq 0 q rfl
    simp only [List.length_cons, Region.lexFrom, Bool.and_eq_true] at hB
    obtain ⟨⟨hr, hf⟩, hB'⟩ := hB
    have hst : Loose.op P ops C R qs k (walk P ops C R Q l ql) a F := by unfold Loose.op; simp only [h0, hq0]; exact h
    obtain ⟨hy, hK⟩ := yields_of_op h0 hst
    exact any_first hC h0 (Region.noSelect_spec hs) l.length listed a F (Region.free_spec h0 hf) (by simpa using hr) hy
      (fun v hv => any_lex hC hs l ql (k + 1) _ _ _ (fun j => by have := hl (j + 1); simpa [Nat.add_assoc, Nat.add_comm 1 j] using this) (fun j q' hj => by have := hq (j + 1) q' (by simpa using hj); simpa [Nat.add_assoc, Nat.add_comm 1 j] using this) hB' (hK v hv))
/-- A region that draws its order: each operation yields one of its values in every world of a class, and leaves one of the class. -/
theorem wp_region (R : World → World → Prop) {id : Nat} {Q : Exit → Act → World → Prop} {a : Act} {w : World} {l : List Oper} (ql : List (Option (Value → World → Prop))) (hm : P.follows .mixedOrders = true) (hB : Region.lexB .any l.toArray = true) (hC : C { w with drawn := w.drawn + 1 })
    (h : walk P l.toArray C R (fun a' F => ∀ w', C w' → F w' → Q .normal a' w') l ql a (fun _ => True)) : (Code.region id l.toArray true).wp P Q a w := by
  simp only [Region.lexB, Bool.and_eq_true] at hB
  refine wp_region_any hm (wpAny_of (R := R) (qs := fun k => ql.getD k none) (Q := fun a' F => ∀ w', C w' → F w' → Q .normal a' w') (fun _ _ w' hw' hF h => h w' hw' hF) _ _ _ (fun _ => True) _ hC trivial (fun _ _ _ _ => trivial) ?_)
  have := any_lex (C := C) (R := R) (qs := fun k => ql.getD k none) (md := .any) ⟨_, hC⟩ hB.1 l ql 0 (Array.replicate l.toArray.size false) a (fun _ => True) (by simp) (fun j q hj => by simp [hj]) (by simpa using hB.2) h
  simpa using this
abbrev fin (C : World → Prop) (Q : Exit → Act → World → Prop) : Act → (World → Prop) → Prop := fun a' F => ∀ w', C w' → F w' → Q .normal a' w'
theorem region (R : World → World → Prop) {id : Nat} {Q : Exit → Act → World → Prop} {a : Act} {w : World} {l : List Oper} (hm : P.follows .mixedOrders = true) (hB : Region.lexB .any l.toArray = true) (hC : C { w with drawn := w.drawn + 1 })
    (h : ∃ ql, walk P l.toArray C R (fin C Q) l ql a (fun _ => True)) : (Code.region id l.toArray true).wp P Q a w :=
  let ⟨ql, h⟩ := h
  wp_region R ql hm hB hC h
/-- Fewer facts serve. -/
theorem walk_facts {Q : Act → (World → Prop) → Prop} (hQ : ∀ a F G, (∀ w, G w → F w) → Q a F → Q a G) : ∀ (l : List Oper) (ql : List (Option (Value → World → Prop))) (a : Act) (F G : World → Prop), (∀ w, G w → F w) → walk P ops C R Q l ql a F → walk P ops C R Q l ql a G
  | [], _, _, _, _, hFG, h => hQ _ _ _ hFG h
  | _ :: _, [], _, _, _, _, h => h
  | o :: l, q :: ql, a, F, G, hFG, h => by
    unfold walk at *
    split
    · rename_i hw
      simp only [hw, if_true] at h
      exact ⟨h.1, h.2.1, fun v hv => walk_facts hQ l ql _ _ _ (fun w ⟨h1, h2⟩ => ⟨hFG w h1, h2⟩) (h.2.2 v hv)⟩
    · rename_i hw
      simp only [hw] at h
      exact walk_facts hQ l ql _ _ _ hFG h
/-- No call, nothing that waits. -/
def calm : Op → Bool
  | .move _ | .assign _ | .pick .. | .load .. | .binOp .. | .unOp .. | .convert .. | .fieldAddr .. | .field .. | .indexAddr .. | .index .. | .extract .. | .makeInterface .. | .slice .. => true
  | _ => false
theorem val_no {s : Sem Value} {g : Value → Value} {w w' : World} {n : Next} (h : Sem.run P (do let x ← s; pure (Next.value (g x))) w = .ok n w') : ∃ v, n = .value v := by
  rw [Sem.run_bind] at h
  cases hs : Sem.run P s w <;> rw [hs] at h <;> simp [Sem.run_pure] at h
  exact ⟨_, h.1.symm⟩
theorem calm_spec {o : Oper} {a : Act} {w : World} (h : calm o.op = true) (n : Next) (w' : World) (hr : (execOp a.eval o).run P w = .ok n w') : ∃ v, n = .value v := by
  unfold execOp at hr
  generalize o.op = x at *
  cases x <;> simp [calm] at h <;> dsimp only at hr
  case move => simp [Sem.run_pure] at hr; exact ⟨_, hr.1.symm⟩
  case assign => simp [Sem.run_pure] at hr; exact ⟨_, hr.1.symm⟩
  case pick c x y =>
    rw [Sem.run_bind] at hr
    cases hs : Sem.run P (asBool (a.eval c)) w <;> rw [hs] at hr <;> simp [Sem.run_pure] at hr
    exact ⟨_, hr.1.symm⟩
  all_goals exact val_no (g := fun x => x) hr
section
variable {Q : Exit → Act → World → Prop} {o : Oper} {rest : List Oper} {p : Value → World → Prop} {ql : List (Option (Value → World → Prop))} {a : Act} {F : World → Prop}
theorem walk_skip (hw : Region.wanted o (yielded ops a.tmps) = false) (h : walk P ops C R (fin C Q) rest ql (a.put o.dst undef) F) : walk P ops C R (fin C Q) (o :: rest) (none :: ql) a F := by
  unfold walk; rw [if_neg (by rw [hw]; exact Bool.false_ne_true)]; exact h
theorem walk_loose (hw : Region.wanted o (yielded ops a.tmps) = true) (hs : ∀ v, Stable R (p v)) (ho : ∀ w, C w → at_ P o a C R w p) (h : ∀ v, (∃ w, C w ∧ p v w) → walk P ops C R (fin C Q) rest ql (a.put o.dst v) (fun w => F w ∧ p v w)) : walk P ops C R (fin C Q) (o :: rest) (some p :: ql) a F := by
  unfold walk; rw [if_pos hw]; exact ⟨hs, ho, h⟩
theorem walk_exact {v : Value} (hR : ∀ w, R w w) (hC : ∃ w, C w) (hw : Region.wanted o (yielded ops a.tmps) = true) (hc : calm o.op = true) (ho : ∀ w, C w → o.quietAt P a C w v) (h : walk P ops C R (fin C Q) rest ql (a.put o.dst v) F) : walk P ops C R (fin C Q) (o :: rest) (none :: ql) a F := by
  have hv : ∀ w, C w → (execOp a.eval o).run P w = .ok (.value v) w := fun w hcw => by
    have h1 := ho w hcw
    have h2 := calm_spec (P := P) (a := a) (w := w) hc
    unfold Oper.quietAt at h1
    generalize (execOp a.eval o).run P w = r at *
    cases r with
    | ok n w' =>
      obtain ⟨u, rfl⟩ := h2 _ _ rfl
      simp only [Oper.quietUpon] at h1
      obtain ⟨rfl, rfl⟩ := h1
      rfl
    | halt x w' => simp only [Oper.quietUpon] at h1
  unfold walk; rw [if_pos hw]
  refine ⟨fun _ _ _ _ h => h, fun w hcw => ?_, fun u ⟨w, hcw, hu⟩ => ?_⟩
  · constructor; rw [hv w hcw]; exact ⟨hcw, hR _, hv⟩
  · have := (hv w hcw).symm.trans (hu w hcw)
    injection this with h1 h2
    injection h1 with h1
    subst h1
    exact walk_facts (fun a F G hFG h w' hc hG => h w' hc (hFG _ hG)) _ _ _ _ _ (fun w h => h.1) h
/-- The same, for the kit's step. -/
theorem walk_quiet (hR : ∀ w, R w w) (hC : ∃ w, C w) (hw : Region.wanted o (yielded ops a.tmps) = true) (hc : calm o.op = true)
    (h : ∀ K : Act → Prop, (∀ a', walk P ops C R (fin C Q) rest ql a' F → K a') → o.quiet P a C K) : walk P ops C R (fin C Q) (o :: rest) (none :: ql) a F :=
  let ⟨_, h1, h2⟩ := h _ (fun _ h => h)
  walk_exact hR hC hw hc h1 h2
/-- What may stand there does not hang on the world. -/
theorem walk_free {g : Value → Prop} (hw : Region.wanted o (yielded ops a.tmps) = true) (ho : ∀ w, C w → at_ P o a C R w (fun v _ => g v)) (h : ∀ v, g v → walk P ops C R (fin C Q) rest ql (a.put o.dst v) F) : walk P ops C R (fin C Q) (o :: rest) (some (fun v _ => g v) :: ql) a F :=
  walk_loose hw (fun _ _ _ _ h => h) ho (fun v ⟨_, _, hv⟩ => walk_facts (fun a F G hFG h w' hc hG => h w' hc (hFG _ hG)) _ _ _ _ _ (fun w h => h.1) (h v hv))
theorem walk_nil (h : ∀ w', C w' → F w' → Q .normal a w') : walk P ops C R (fin C Q) [] [] a F := h
theorem at_val {v : Value} {w w' : World} (h : (execOp a.eval o).run P w = .ok (.value v) w') (hc : C w') (hr : R w w') (hp : p v w') : at_ P o a C R w p := by
  constructor; rw [h]; exact ⟨hc, hr, hp⟩
theorem at_enter {f : FuncId} {args : Array Value} {w w' : World} (h : (execOp a.eval o).run P w = .ok (.enter f args) w') (hc : Calls P f args w' (fun e w'' => ∃ v, e = .returned v ∧ C w'' ∧ R w w'' ∧ p v w'')) : at_ P o a C R w p := by
  constructor; rw [h]; exact hc
end
end
end Loose
end Go.Proofs.Ytbaokmapgdnhlaa
