/- Regions that draw their order, whose last operations write: the others yield one of some values, and are walked once, in the order of the text. Conditions: none beside the theorem's own. -/
import Derived.Test.YtbaokmapgdnhlaaZ2
import Derived.StillTail
set_option linter.unusedVariables false
set_option linter.unusedSimpArgs false
namespace Go.Proofs.Ytbaokmapgdnhlaa
open Go Go.RowKit
namespace Loose
section
variable {P : Program} {ops : Array Oper} {md : Region.Mode} {C : World → Prop} {R : World → World → Prop} {qs : Nat → Option (Value → World → Prop)}
/-- Whatever order is picked among the first n; then L. -/
def anyL (P : Program) (md : Region.Mode) (ops : Array Oper) (C : World → Prop) (R : World → World → Prop) (qs : Nat → Option (Value → World → Prop)) (n : Nat) (L : Array Bool → Act → (World → Prop) → Prop) : Nat → Array Bool → Act → (World → Prop) → Prop
  | 0, listed, a, F => L listed a F
  | f + 1, listed, a, F => Region.ready md ops listed ≠ [] ∧ ∀ i ∈ Region.ready md ops listed, i < n ∧ op P ops C R qs i (anyL P md ops C R qs n L f (listed.setIfInBounds i true)) a F
theorem wpAny_of_anyL {n g : Nat} {L : Array Bool → Act → (World → Prop) → Prop} {Q' : Exit → Act → World → Prop} (hL : ∀ listed a F w, C w → F w → L listed a F → wpAny P md ops Q' g listed a w) :
    ∀ (f : Nat) (listed : Array Bool) (a : Act) (F : World → Prop) (w : World), C w → F w → Stable R F → anyL P md ops C R qs n L f listed a F → wpAny P md ops Q' (f + g) listed a w
  | 0, _, _, _, _, hw, hF, _, h => by rw [Nat.zero_add]; exact hL _ _ _ _ hw hF h
  | f + 1, listed, a, F, w, hw, hF, hs, h => by
    rw [show f + 1 + g = (f + g) + 1 by omega]
    exact ⟨fun h0 => absurd h0 h.1, fun i hi => wpOp_of hw hF hs (fun a' F' w' hw' hF' hs' h' => wpAny_of_anyL hL f _ a' F' w' hw' hF' hs' h') (h.2 i hi).2⟩
theorem anyL_first {n i : Nat} {oi : Oper} {L : Array Bool → Act → (World → Prop) → Prop} (hC : ∃ w, C w) (hi : ops[i]? = some oi) (hsel : ∀ (j : Nat) (o : Oper) cs b, ops[j]? = some o → o.op ≠ .select cs b)
    (hs : Region.sinkB md ops n = true) (hc : Region.chainB md ops n = true) (hn : n < ops.size) (hin : i < n)
    (hdone : ∀ listed a F, L listed a F → ∀ j ∈ Region.ready md ops listed, n ≤ j) :
    ∀ (f : Nat) (listed : Array Bool) (a : Act) (F : World → Prop), HeadInv md ops n listed →
      (∀ j oj, ops[j]? = some oj → j ≠ i → listed.getD j true = false → (∀ e ∈ oj.after, Region.binds md e = true → e.on ≠ i) → oi.apart ops oj = true) →
      i ∈ Region.ready md ops listed → Yields P ops C R (pr P C (qs i) oi a) oi a →
      (∀ v, May ops C (pr P C (qs i) oi a) oi a v → anyL P md ops C R qs n L f (listed.setIfInBounds i true) (a.put oi.dst v) (add ops (pr P C (qs i) oi a) oi a F v)) → anyL P md ops C R qs n L (f + 1) listed a F := by
  intro f
  induction f with
  | zero =>
    intro listed a F inv _ hr hy H
    have hun := (mem_ready.1 hr).1
    refine ⟨fun h => (by rw [h] at hr; cases hr), fun j hj => ?_⟩
    have hjn : j < n := by
      rcases Nat.lt_or_ge j n with h | h
      · exact h
      · exact absurd hj (tail_waits hs hc hn inv _ i rfl hin hun j h)
    refine ⟨hjn, ?_⟩
    by_cases hji : j = i
    · subst hji; exact hy.op hi H
    · obtain ⟨v0, hv0⟩ := may_some hC hy
      have := hdone _ _ _ (H v0 hv0) j (ready_mono hj hji)
      omega
  | succ f ih =>
    intro listed a F inv hfree hr hy H
    have hun := (mem_ready.1 hr).1
    refine ⟨fun h => (by rw [h] at hr; cases hr), fun j hj => ?_⟩
    have hjn : j < n := by
      rcases Nat.lt_or_ge j n with h | h
      · exact h
      · exact absurd hj (tail_waits hs hc hn inv _ i rfl hin hun j h)
    refine ⟨hjn, ?_⟩
    by_cases hji : j = i
    · subst hji; exact hy.op hi H
    · have h1 := fun v hv => ((H v hv).2 j (ready_mono hj hji)).2
      obtain ⟨hjun, oj, hoj, hall⟩ := mem_ready.1 hj
      have hnot : ∀ e ∈ oj.after, Region.binds md e = true → e.on ≠ i := fun e he hb heq => by
        have h1 := hall e he hb
        rw [heq, getD_both hun] at h1
        cases h1
      have h2 := op_put hC hoj (hfree j oj hoj hji hjun hnot) (fun cs b => hsel i oi cs b hi) (fun cs b => hsel j oj cs b hoj) hy h1
      have hfree' : ∀ k ok, ops[k]? = some ok → k ≠ i → (listed.setIfInBounds j true).getD k true = false →
          (∀ e ∈ ok.after, Region.binds md e = true → e.on ≠ i) → oi.apart ops ok = true := fun k ok hk hki hun hno => by
        refine hfree k ok hk hki ?_ hno
        by_cases hjk : j = k
        · subst hjk; exact hjun
        · rw [getD_set_ne true hjk] at hun; exact hun
      refine op_mono (fun a' F' h3 => ih (listed.setIfInBounds j true) a' F' (inv.set hj hjn) hfree' (ready_mono hr (Ne.symm hji)) (by rw [pr_same h3.1]; exact h3.2.1) ?_) h2
      rw [Array.setIfInBounds_comm _ _ hji, pr_same h3.1]
      exact h3.2.2
theorem anyL_lex {n g : Nat} {Lq : Act → (World → Prop) → Prop} (hC : ∃ w, C w) (hsel : Region.noSelect ops = true) (hs : Region.sinkB md ops n = true) (hc : Region.chainB md ops n = true) (hn : n < ops.size) :
    ∀ (l : List Oper) (ql : List (Option (Value → World → Prop))) (k : Nat) (listed : Array Bool) (a : Act) (F : World → Prop), (∀ j, j < l.length → l[j]? = ops[k + j]?) → (∀ j q, ql[j]? = some q → qs (k + j) = q) → k + l.length = n → HeadInv md ops n listed →
    Region.lexHead md ops g l.length k listed = true → walk P ops C R Lq l ql a F →
    anyL P md ops C R qs n (fun listed' a' F' => Region.seqB md ops g n listed' = true ∧ Lq a' F') l.length listed a F
  | [], _, k, listed, a, F, _, _, hk, _, hB, h => by
    have : k = n := by simpa using hk
    subst this
    exact ⟨by simpa [Region.lexHead] using hB, h⟩
  | o :: l, [], _, _, _, _, _, _, _, _, _, h => by simp [walk] at h
  | o :: l, q :: ql, k, listed, a, F, hl, hq, hk, inv, hB, h => by
    have h0 : ops[k]? = some o := by simpa using (hl 0 (by simp)).symm
    have hq0 : qs k = q := by simpa using hq 0 q rfl
    simp only [List.length_cons, Region.lexHead, Bool.and_eq_true] at hB
    obtain ⟨⟨hr, hf⟩, hB'⟩ := hB
    have hkn : k < n := by simp only [List.length_cons] at hk; omega
    have hr' : k ∈ Region.ready md ops listed := by simpa using hr
    have hst : Loose.op P ops C R qs k (walk P ops C R Lq l ql) a F := by unfold Loose.op; simp only [h0, hq0]; exact h
    obtain ⟨hy, hK⟩ := yields_of_op h0 hst
    exact anyL_first hC h0 (Region.noSelect_spec hsel) hs hc hn hkn (fun listed' a' F' hL => seqB_ready hL.1) l.length listed a F inv (Region.free_spec h0 hf) hr' hy
      (fun v hv => anyL_lex hC hsel hs hc hn l ql (k + 1) _ _ _ (fun j hj => by have := hl (j + 1) (by simp; omega); simpa [Nat.add_assoc, Nat.add_comm 1 j] using this) (fun j q' hj => by have := hq (j + 1) q' (by simpa using hj); simpa [Nat.add_assoc, Nat.add_comm 1 j] using this) (by simp only [List.length_cons] at hk; omega) (inv.set hr' hkn) hB' (hK v hv))
/-- A region that draws its order and whose operations from the n-th on come up last, in their order. -/
theorem wp_region_tail (R : World → World → Prop) {id : Nat} {Q : Exit → Act → World → Prop} {a : Act} {w : World} {l : List Oper} (n : Nat) (ql : List (Option (Value → World → Prop))) (hm : P.follows .mixedOrders = true) (hB : Region.lexTailB .any l.toArray n = true) (hC : C { w with drawn := w.drawn + 1 })
    (h : walk P l.toArray C R (fun a' F => ∀ w', C w' → F w' → wpList P l.toArray Q (l.drop n) a' w') (l.take n) ql a (fun _ => True)) : (Code.region id l.toArray true).wp P Q a w := by
  simp only [Region.lexTailB, Bool.and_eq_true, decide_eq_true_eq] at hB
  obtain ⟨⟨⟨⟨hsel, hn⟩, hs⟩, hc⟩, hlex⟩ := hB
  have hn' : n < l.length := by simpa using hn
  have htl : (l.take n).length = n := by simp; omega
  have hdl : (l.drop n).length = l.toArray.size - n := by simp
  have inv0 : HeadInv .any l.toArray n (Array.replicate l.toArray.size false) :=
    ⟨by simp, fun j oj _ hl => (by rw [getD_replicate_false] at hl; cases hl), fun t _ ht => getD_in (by simpa using ht) (getD_replicate_false _ _)⟩
  have H := anyL_lex (md := .any) (C := C) (R := R) (qs := fun k => ql.getD k none) (g := l.toArray.size - n) ⟨_, hC⟩ hsel hs hc hn (l.take n) ql 0 _ a (fun _ => True) (fun j hj => by
    have hj' : j < n := by rw [htl] at hj; exact hj
    simp [hj']) (fun j q hj => by simp [hj]) (by simpa using htl) inv0 (by rw [htl]; exact hlex) h
  refine wp_region_any hm ?_
  have := wpAny_of_anyL (Q' := Q) (g := l.toArray.size - n) (fun listed a' F' w' hw' hF' hL => by
    have := wpAny_of_seq (md := .any) (Q' := Q) (l.drop n) n listed a' w' (fun j => by simp [List.getElem?_drop]) (by rw [hdl]; exact hL.1) (hL.2 w' hw' hF')
    rwa [hdl] at this) _ _ _ _ _ hC trivial (fun _ _ _ _ => trivial) H
  rw [htl, show n + (l.toArray.size - n) = l.toArray.size by omega] at this
  exact this
/-- What stands at the end of a walk. -/
abbrev finT (P : Program) (ops : Array Oper) (C : World → Prop) (Q : Exit → Act → World → Prop) (tl : List Oper) : Act → (World → Prop) → Prop := fun a' F => ∀ w', C w' → F w' → wpList P ops Q tl a' w'
end
section
variable {P : Program} {ops : Array Oper} {W : World} {cs : List (Addr × Value)} {Q : Exit → Act → World → Prop} {o : Oper} {rest tl : List Oper} {p : Value → World → Prop} {ql : List (Option (Value → World → Prop))} {a : Act} {F : World → Prop}
theorem regionT {id : Nat} {l : List Oper} (n : Nat) (cs : List (Addr × Value)) (hm : P.follows .mixedOrders = true) (hB : Region.lexTailB .any l.toArray n = true) (h0 : All cs W)
    (h : ∃ ql, walk P l.toArray (Cls W cs) Rb (finT P l.toArray (Cls W cs) Q (l.drop n)) (l.take n) ql a (fun _ => True)) : (Code.region id l.toArray true).wp P Q a W :=
  let ⟨ql, h⟩ := h
  wp_region_tail Rb n ql hm hB (Cls.drew (k := 1) ⟨h0, Below.refl _ _⟩) h
theorem fin_facts (a : Act) (F G : World → Prop) (h : ∀ w, G w → F w) (hQ : finT P ops (Cls W cs) Q tl a F) : finT P ops (Cls W cs) Q tl a G := fun w' hc hG => hQ w' hc (h _ hG)
theorem skipT (hw : Region.wanted o (yielded ops a.tmps) = false) (h : walk P ops (Cls W cs) Rb (finT P ops (Cls W cs) Q tl) rest ql (a.put o.dst undef) F) : walk P ops (Cls W cs) Rb (finT P ops (Cls W cs) Q tl) (o :: rest) (none :: ql) a F := by
  unfold walk; rw [if_neg (by rw [hw]; exact Bool.false_ne_true)]; exact h
theorem looseT (hw : Region.wanted o (yielded ops a.tmps) = true) (hs : ∀ v w w', Below w.heap.size w w' → p v w → p v w') (ho : ∀ w, Cls W cs w → at_ P o a (Cls W cs) Rb w p) (h : ∀ v, (∃ w, Cls W cs w ∧ p v w) → walk P ops (Cls W cs) Rb (finT P ops (Cls W cs) Q tl) rest ql (a.put o.dst v) (fun w => F w ∧ p v w)) : walk P ops (Cls W cs) Rb (finT P ops (Cls W cs) Q tl) (o :: rest) (some p :: ql) a F := by
  unfold walk; rw [if_pos hw]; exact ⟨fun v w w' hr h => hs v w w' hr h, ho, h⟩
theorem freeT {g : Value → Prop} (hw : Region.wanted o (yielded ops a.tmps) = true) (ho : ∀ w, Cls W cs w → at_ P o a (Cls W cs) Rb w (fun v _ => g v)) (h : ∀ v, g v → walk P ops (Cls W cs) Rb (finT P ops (Cls W cs) Q tl) rest ql (a.put o.dst v) F) : walk P ops (Cls W cs) Rb (finT P ops (Cls W cs) Q tl) (o :: rest) (some (fun v _ => g v) :: ql) a F :=
  looseT hw (fun _ _ _ _ h => h) ho (fun v ⟨_, _, hv⟩ => walk_facts fin_facts _ _ _ _ _ (fun w h => h.1) (h v hv))
theorem exactT {v : Value} (h0 : All cs W) (hw : Region.wanted o (yielded ops a.tmps) = true) (ho : ∀ w, Cls W cs w → (execOp a.eval o).run P w = .ok (.value v) w) (h : walk P ops (Cls W cs) Rb (finT P ops (Cls W cs) Q tl) rest ql (a.put o.dst v) F) : walk P ops (Cls W cs) Rb (finT P ops (Cls W cs) Q tl) (o :: rest) (none :: ql) a F := by
  unfold walk; rw [if_pos hw]
  refine ⟨fun _ _ _ _ h => h, fun w hcw => ?_, fun u ⟨w, hcw, hu⟩ => ?_⟩
  · constructor; rw [ho w hcw]; exact ⟨hcw, Rb.refl _, ho⟩
  · have := (ho w hcw).symm.trans (hu w hcw)
    injection this with h1 h2
    injection h1 with h1
    subst h1
    exact walk_facts fin_facts _ _ _ _ _ (fun w h => h.1) h
theorem quietT (h0 : All cs W) (hw : Region.wanted o (yielded ops a.tmps) = true) (hc : calm o.op = true)
    (h : ∀ K : Act → Prop, (∀ a', walk P ops (Cls W cs) Rb (finT P ops (Cls W cs) Q tl) rest ql a' F → K a') → o.quiet P a (Cls W cs) K) : walk P ops (Cls W cs) Rb (finT P ops (Cls W cs) Q tl) (o :: rest) (none :: ql) a F := by
  obtain ⟨v, h1, h2⟩ := h _ (fun _ h => h)
  refine exactT h0 hw (fun w hcw => ?_) h2
  have h3 := h1 w hcw
  have h4 := calm_spec (P := P) (a := a) (w := w) hc
  unfold Oper.quietAt at h3
  generalize (execOp a.eval o).run P w = r at *
  cases r with
  | ok n w' =>
    obtain ⟨u, rfl⟩ := h4 _ _ rfl
    simp only [Oper.quietUpon] at h3
    obtain ⟨rfl, rfl⟩ := h3
    rfl
  | halt x w' => simp only [Oper.quietUpon] at h3
theorem doneT (h : ∀ w', All cs w' → Below W.heap.size W w' → F w' → wpList P ops Q tl a w') : walk P ops (Cls W cs) Rb (finT P ops (Cls W cs) Q tl) [] [] a F :=
  fun w' hc hF => h w' hc.all hc.bel hF
/-- The same for regions without such a tail. -/
theorem exact_ {v : Value} (h0 : All cs W) (hw : Region.wanted o (yielded ops a.tmps) = true) (ho : ∀ w, Cls W cs w → (execOp a.eval o).run P w = .ok (.value v) w) (h : walk P ops (Cls W cs) Rb (fin (Cls W cs) Q) rest ql (a.put o.dst v) F) : walk P ops (Cls W cs) Rb (fin (Cls W cs) Q) (o :: rest) (none :: ql) a F := by
  unfold walk; rw [if_pos hw]
  refine ⟨fun _ _ _ _ h => h, fun w hcw => ?_, fun u ⟨w, hcw, hu⟩ => ?_⟩
  · constructor; rw [ho w hcw]; exact ⟨hcw, Rb.refl _, ho⟩
  · have := (ho w hcw).symm.trans (hu w hcw)
    injection this with h1 h2
    injection h1 with h1
    subst h1
    exact walk_facts (fun a F G hFG h w' hc hG => h w' hc (hFG _ hG)) _ _ _ _ _ (fun w h => h.1) h
/-- A float operation. -/
theorem fl32 {X : Option Nat} (hw : Region.wanted o (yielded ops a.tmps) = true) (ho : ∀ w, Cls W cs w → ∃ r k, (execOp a.eval o).run P w = .ok (.value (.float .f32 r)) (w.drewN k) ∧ Fl .f32 r X)
    (h : ∀ r, Fl .f32 r X → walk P ops (Cls W cs) Rb (fin (Cls W cs) Q) rest ql (a.put o.dst (.float .f32 r)) F) : walk P ops (Cls W cs) Rb (fin (Cls W cs) Q) (o :: rest) (some (fun v _ => ∃ r, v = .float .f32 r ∧ Fl .f32 r X) :: ql) a F :=
  free (g := fun v => ∃ r, v = .float .f32 r ∧ Fl .f32 r X) hw (fun w hc => by obtain ⟨r, k, h1, h2⟩ := ho w hc; exact val hc h1 ⟨k, rfl⟩ ⟨r, rfl, h2⟩) (by rintro v ⟨r, rfl, hr⟩; exact h r hr)
theorem fl32T {X : Option Nat} (hw : Region.wanted o (yielded ops a.tmps) = true) (ho : ∀ w, Cls W cs w → ∃ r k, (execOp a.eval o).run P w = .ok (.value (.float .f32 r)) (w.drewN k) ∧ Fl .f32 r X)
    (h : ∀ r, Fl .f32 r X → walk P ops (Cls W cs) Rb (finT P ops (Cls W cs) Q tl) rest ql (a.put o.dst (.float .f32 r)) F) : walk P ops (Cls W cs) Rb (finT P ops (Cls W cs) Q tl) (o :: rest) (some (fun v _ => ∃ r, v = .float .f32 r ∧ Fl .f32 r X) :: ql) a F :=
  freeT (g := fun v => ∃ r, v = .float .f32 r ∧ Fl .f32 r X) hw (fun w hc => by obtain ⟨r, k, h1, h2⟩ := ho w hc; exact val hc h1 ⟨k, rfl⟩ ⟨r, rfl, h2⟩) (by rintro v ⟨r, rfl, hr⟩; exact h r hr)
/-- A call that yields a sample, and no more than draws. -/
theorem flcall {X : Option Nat} {f : FuncId} {args : Array Value} (hw : Region.wanted o (yielded ops a.tmps) = true) (ho : ∀ w, Cls W cs w → (execOp a.eval o).run P w = .ok (.enter f args) w) (hk : ∀ w, Cls W cs w → Calls P f args w (RF .f32 X w))
    (h : ∀ r, Fl .f32 r X → walk P ops (Cls W cs) Rb (fin (Cls W cs) Q) rest ql (a.put o.dst (.float .f32 r)) F) : walk P ops (Cls W cs) Rb (fin (Cls W cs) Q) (o :: rest) (some (fun v _ => ∃ r, v = .float .f32 r ∧ Fl .f32 r X) :: ql) a F :=
  free (g := fun v => ∃ r, v = .float .f32 r ∧ Fl .f32 r X) hw (fun w hc => by exact call hc (ho w hc) rfl ((hk w hc).mono fun e w'' ⟨r, k, he, hr, hd⟩ => ⟨_, he, by rw [hd]; exact below_draws _ _, r, rfl, hr⟩)) (by rintro v ⟨r, rfl, hr⟩; exact h r hr)
theorem flcallT {X : Option Nat} {f : FuncId} {args : Array Value} (hw : Region.wanted o (yielded ops a.tmps) = true) (ho : ∀ w, Cls W cs w → (execOp a.eval o).run P w = .ok (.enter f args) w) (hk : ∀ w, Cls W cs w → Calls P f args w (RF .f32 X w))
    (h : ∀ r, Fl .f32 r X → walk P ops (Cls W cs) Rb (finT P ops (Cls W cs) Q tl) rest ql (a.put o.dst (.float .f32 r)) F) : walk P ops (Cls W cs) Rb (finT P ops (Cls W cs) Q tl) (o :: rest) (some (fun v _ => ∃ r, v = .float .f32 r ∧ Fl .f32 r X) :: ql) a F :=
  freeT (g := fun v => ∃ r, v = .float .f32 r ∧ Fl .f32 r X) hw (fun w hc => by exact call hc (ho w hc) rfl ((hk w hc).mono fun e w'' ⟨r, k, he, hr, hd⟩ => ⟨_, he, by rw [hd]; exact below_draws _ _, r, rfl, hr⟩)) (by rintro v ⟨r, rfl, hr⟩; exact h r hr)
/-- The beginning, at any world with a property. -/
theorem regionT_of {id : Nat} {l : List Oper} (K : World → Prop) (n : Nat) (hm : P.follows .mixedOrders = true) (hB : Region.lexTailB .any l.toArray n = true) (hK : K W)
    (h : ∀ W, K W → ∃ cs, All cs W ∧ ∃ ql, walk P l.toArray (Cls W cs) Rb (finT P l.toArray (Cls W cs) Q (l.drop n)) (l.take n) ql a (fun _ => True)) : (Code.region id l.toArray true).wp P Q a W :=
  let ⟨cs, h0, h⟩ := h W hK
  regionT n cs hm hB h0 h
theorem regionC_of {id : Nat} {l : List Oper} (K : World → Prop) (hm : P.follows .mixedOrders = true) (hB : Region.lexB .any l.toArray = true) (hK : K W)
    (h : ∀ W, K W → ∃ cs, All cs W ∧ ∃ ql, walk P l.toArray (Cls W cs) Rb (fin (Cls W cs) Q) l ql a (fun _ => True)) : (Code.region id l.toArray true).wp P Q a W :=
  let ⟨cs, h0, h⟩ := h W hK
  regionC cs hm hB h0 h
end
end Loose
end Go.Proofs.Ytbaokmapgdnhlaa
