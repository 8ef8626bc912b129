/- Regions that draw their order, whose last operations write, and where one part of a tuple may be taken late. Conditions: none beside the theorem's own. -/
import Derived.Test.YtlenpecnfilkjaaZ4
set_option linter.unusedVariables false
set_option linter.unusedSimpArgs false
namespace Go.Proofs.Ytlenpecnfilkjaa
open Go Go.RowKit
namespace Loose
section
variable {P : Program} {ops : Array Oper} {md : Region.Mode} {Q : Exit → Act → World → Prop}
/-- Operation s, told to wait for operation d too. -/
def tell (os : Oper) (d : Nat) : Oper := { os with after := os.after.push ⟨d, .data⟩ }
def lateOps (ops : Array Oper) (s d : Nat) : Array Oper := match ops[s]? with | some os => ops.setIfInBounds s (tell os d) | none => ops
theorem late_ne {s d j : Nat} (h : j ≠ s) : (lateOps ops s d)[j]? = ops[j]? := by
  unfold lateOps
  split
  · exact Array.getElem?_setIfInBounds_ne (Ne.symm h)
  · rfl
theorem late_eq {s d : Nat} {os : Oper} (h : ops[s]? = some os) : (lateOps ops s d)[s]? = some (tell os d) := by
  have hs := (Array.getElem?_eq_some_iff.1 h).1
  unfold lateOps
  simp only [h]
  exact Array.getElem?_setIfInBounds_self_of_lt hs
theorem late_yielded {s d : Nat} (tmps : Array Value) : yielded (lateOps ops s d) tmps = yielded ops tmps := by
  funext j
  unfold yielded
  by_cases hj : j = s
  · subst hj
    cases h : ops[j]? with
    | none => unfold lateOps; simp only [h]
    | some os => rw [late_eq h]; rfl
  · rw [late_ne hj]
theorem late_wpOp {s d i : Nat} {K : Act → World → Prop} {a : Act} {w : World} : wpOp P (lateOps ops s d) Q i K a w = wpOp P ops Q i K a w := by
  unfold wpOp
  by_cases hi : i = s
  · subst hi
    cases h : ops[i]? with
    | none => have : (lateOps ops i d)[i]? = none := by unfold lateOps; simp only [h]
              simp only [this]
    | some os => rw [late_eq h, late_yielded]; rfl
  · rw [late_ne hi, late_yielded]
def lateB (md : Region.Mode) (ops : Array Oper) (s d : Nat) : Bool :=
  Region.noSelect ops && decide (d ≠ s) && (match ops[d]? with
    | none => false
    | some od => (match od.op with | .extract .. => true | _ => false) && od.guard.isNone && od.after.all (fun e => !Region.binds md e || Region.waitsFor md ops s e.on) &&
      (List.range ops.size).all fun j => j == d || Region.waitsFor md ops j d || Region.waitsFor md ops d j || match ops[j]? with | some oj => od.apart ops oj | none => true)
theorem extract_ok {o : Oper} {x : Operand} {ix : Nat} (ho : o.op = .extract x ix) (a : Act) : (∃ v, (∀ w, (execOp a.eval o).run P w = .ok (.value v) w) ∧ ∀ w, ¬ o.asks P a w) ∨ ∀ (K : Act → World → Prop) w, ¬ (o.wp P a w K Q ∨ (o.asks P a w ∧ LetsOut Q)) := by
  have he : execOp a.eval o = (do let y ← Instr.extract (a.eval x) ix; pure (Next.value y)) := by unfold execOp; rw [ho]
  cases hv : a.eval x with
  | tuple vs =>
    cases hx : vs[ix]? with
    | some v =>
      have e2 : execOp a.eval o = pure (Next.value v) := by rw [he, hv]; simp [Instr.extract, hx]
      refine .inl ⟨v, fun w => by rw [e2]; rfl, fun w h => ?_⟩
      unfold Oper.asks at h; rw [e2] at h; obtain ⟨h, _⟩ := h; change noRoomEvent ∈ (#[] : Array Event) at h; simp at h
    | none =>
      refine .inr fun K w => ?_
      have e2 : execOp a.eval o = stuck "Extract: no such component" := by rw [he, hv]; simp [Instr.extract, hx]; rfl
      rintro (h | ⟨h, _⟩)
      · unfold Oper.wp at h; rw [e2] at h; exact h
      · unfold Oper.asks at h; rw [e2] at h; obtain ⟨h, _⟩ := h; change noRoomEvent ∈ (#[] : Array Event) at h; simp at h
  | _ =>
    refine .inr fun K w => ?_
    have e2 : execOp a.eval o = stuck "Extract: tuple expected" := by rw [he, hv]; rfl
    rintro (h | ⟨h, _⟩)
    · unfold Oper.wp at h; rw [e2] at h; exact h
    · unfold Oper.asks at h; rw [e2] at h; obtain ⟨h, _⟩ := h; change noRoomEvent ∈ (#[] : Array Event) at h; simp at h
theorem late_of {s d : Nat} (hB : lateB md ops s d = true) (hQ : ∀ (od : Oper) v c a w, ops[d]? = some od → Q (.panic c) (a.put od.dst v) w → Q (.panic c) a w) :
    ∀ (f : Nat) (listed : Array Bool) (a : Act) (w : World), listed.size = ops.size → wpAny P md (lateOps ops s d) Q f listed a w → wpAny P md ops Q f listed a w := by
  unfold lateB at hB
  cases hd : ops[d]? with
  | none => simp [hd] at hB
  | some od =>
  simp only [hd, Bool.and_eq_true, decide_eq_true_eq] at hB
  obtain ⟨⟨hsel, hds⟩, ⟨⟨hex, hgd⟩, hsub⟩, hfree⟩ := hB
  obtain ⟨x, ix, ho⟩ : ∃ x ix, od.op = .extract x ix := by
    cases h : od.op <;> simp [h] at hex
    exact ⟨_, _, rfl⟩
  have hwd : ∀ y, Region.wanted od y = true := fun y => by unfold Region.wanted; cases hg : od.guard with
    | none => rfl
    | some g => simp [hg] at hgd
  have sub : ∀ (listed : Array Bool) i, listed.size = ops.size → i ∈ Region.ready md ops listed → d ∉ Region.ready md ops listed → i ∈ Region.ready md (lateOps ops s d) listed := by
    intro listed i hsz hi hdr
    obtain ⟨h0, oi, hoi, hall⟩ := mem_ready.1 hi
    by_cases his : i = s
    · subst his
      refine mem_ready.2 ⟨h0, _, late_eq hoi, fun e he hb => ?_⟩
      have he' : e ∈ oi.after.push ⟨d, .data⟩ := he
      rcases Array.mem_push.1 he' with h | h
      · exact hall e h hb
      · subst h
        cases hl : listed.getD d false with
        | true => rfl
        | false =>
          refine absurd (mem_ready.2 ⟨getD_in (by rw [hsz]; exact (Array.getElem?_eq_some_iff.1 hd).1) hl, od, hd, fun e he hb => ?_⟩) hdr
          have h1 := Array.all_eq_true_iff_forall_mem.1 hsub e he
          simp only [hb, Bool.not_true, Bool.false_or] at h1
          obtain ⟨os', hos', e', he2, hb2, hon⟩ := Region.waitsFor_spec h1
          have : os' = oi := Option.some.inj (hos'.symm.trans hoi)
          subst this
          have := hall e' he2 hb2
          rwa [hon] at this
    · exact mem_ready.2 ⟨h0, oi, by rw [late_ne his]; exact hoi, hall⟩
  have sup : ∀ listed i, i ∈ Region.ready md (lateOps ops s d) listed → i ∈ Region.ready md ops listed := by
    intro listed i hi
    obtain ⟨h0, oi, hoi, hall⟩ := mem_ready.1 hi
    by_cases his : i = s
    · subst his
      cases h : ops[i]? with
      | none => have : (lateOps ops i d)[i]? = none := by unfold lateOps; simp only [h]
                rw [this] at hoi; cases hoi
      | some os =>
        rw [late_eq h] at hoi
        obtain rfl := Option.some.inj hoi
        exact mem_ready.2 ⟨h0, os, h, fun e he hb => hall e (Array.mem_push.2 (.inl he)) hb⟩
    · rw [late_ne his] at hoi
      exact mem_ready.2 ⟨h0, oi, hoi, hall⟩
  intro f
  induction f with
  | zero =>
    intro listed a w hsz h
    refine ⟨List.eq_nil_iff_forall_not_mem.2 fun i hi => ?_, h.2⟩
    by_cases hdr : d ∈ Region.ready md ops listed
    · have hdr' : d ∈ Region.ready md (lateOps ops s d) listed := by
        obtain ⟨h0, od', hod, hall⟩ := mem_ready.1 hdr
        exact mem_ready.2 ⟨h0, od', by rw [late_ne hds]; exact hod, hall⟩
      rw [h.1] at hdr'; cases hdr'
    · have := sub listed i hsz hi hdr
      rw [h.1] at this; cases this
  | succ f ih =>
    intro listed a w hsz h
    by_cases hdr : d ∈ Region.ready md ops listed
    · have hdr' : d ∈ Region.ready md (lateOps ops s d) listed := by
        obtain ⟨h0, od', hod, hall⟩ := mem_ready.1 hdr
        exact mem_ready.2 ⟨h0, od', by rw [late_ne hds]; exact hod, hall⟩
      have h1 := h.2 d hdr'
      rw [late_wpOp] at h1
      unfold wpOp at h1
      simp only [hd, hwd, if_true] at h1
      rcases extract_ok (P := P) (Q := Q) ho a with ⟨v, hv, hna⟩ | hno
      · have h2 : wpAny P md (lateOps ops s d) Q f (listed.setIfInBounds d true) (a.put od.dst v) w := by
          rcases h1 with h1 | ⟨h1, _⟩
          · unfold Oper.wp at h1; rw [hv w] at h1; exact h1
          · exact absurd h1 (hna w)
        have h3 := ih _ _ _ (by simpa using hsz) h2
        refine wpAny_first hd (Region.noSelect_spec hsel) (fun c a w => hQ od v c a w hd) f listed a w (fun j oj hoj hne hun hno => ?_) hdr (.inl ⟨hwd _, hv⟩) h3
        have h4 := List.all_eq_true.1 hfree j (List.mem_range.2 (Array.getElem?_eq_some_iff.1 hoj).1)
        simp only [hoj, Bool.or_eq_true, beq_iff_eq, hne, false_or] at h4
        rcases h4 with (h4 | h4) | h4
        · obtain ⟨o', ho', e, he, hb, hon⟩ := Region.waitsFor_spec h4
          have : o' = oj := Option.some.inj (ho'.symm.trans hoj)
          subst this
          exact absurd hon (hno e he hb)
        · obtain ⟨o', ho', e, he, hb, hon⟩ := Region.waitsFor_spec h4
          have : o' = od := Option.some.inj (ho'.symm.trans hd)
          subst this
          obtain ⟨_, o2, ho2, hall⟩ := mem_ready.1 hdr
          have : o2 = o' := Option.some.inj (ho2.symm.trans hd)
          subst this
          have h5 := hall e he hb
          rw [hon, getD_both hun] at h5
          cases h5
        · exact h4
      · exact absurd h1 (hno _ _)
    · refine ⟨fun h0 => h.1 (List.eq_nil_iff_forall_not_mem.2 fun i hi => ?_), fun i hi => ?_⟩
      · have := sup listed i hi
        rw [h0] at this; cases this
      · have h1 := h.2 i (sub listed i hsz hi hdr)
        rw [late_wpOp] at h1
        exact wpOp_mono (fun a' w' h' => ih _ a' w' (by simpa using hsz) h') h1
theorem walk_ops {o1 o2 : Array Oper} (h : ∀ t, yielded o1 t = yielded o2 t) {C : World → Prop} {R : World → World → Prop} {Qf : Act → (World → Prop) → Prop} : ∀ (l : List Oper) (ql : List (Option (Value → World → Prop))) (a : Act) (F : World → Prop), walk P o1 C R Qf l ql a F → walk P o2 C R Qf l ql a F
  | [], _, _, _, hh => hh
  | _ :: _, [], _, _, hh => hh
  | o :: l, q :: ql, a, F, hh => by
    unfold walk at *
    rw [h] at hh
    split
    · rename_i hw
      simp only [hw, if_true] at hh
      exact ⟨hh.1, hh.2.1, fun v hv => walk_ops h l ql _ _ (hh.2.2 v hv)⟩
    · rename_i hw
      simp only [hw] at hh
      exact walk_ops h l ql _ _ hh
theorem wpList_ops {o1 o2 : Array Oper} (h : ∀ t, yielded o1 t = yielded o2 t) : ∀ l : List Oper, wpList P o1 Q l = wpList P o2 Q l
  | [] => rfl
  | o :: l => by funext a w; unfold wpList; rw [h, wpList_ops h l]
theorem wpList_tell {o : Oper} {d : Nat} {l : List Oper} : wpList P ops Q (tell o d :: l) = wpList P ops Q (o :: l) := rfl
/-- The region's beginning: the operations from the n-th on write, and operation d, which takes a part of a tuple, may come up behind the n-th. -/
theorem regionL {W : World} {a : Act} {id : Nat} {l : List Oper} (n d : Nat) (dst : Option Tmp) (cs : List (Addr × Value)) (hm : P.follows .mixedOrders = true) (hB : Region.lexTailB .any (lateOps l.toArray n d) n = true) (hL : lateB .any l.toArray n d = true)
    (hdst : (l.toArray[d]?).map (·.dst) = some dst) (hQ : ∀ v c a w, Q (.panic c) (a.put dst v) w → Q (.panic c) a w) (h0 : All cs W)
    (h : ∃ ql, walk P l.toArray (Cls W cs) Rb (finT P l.toArray (Cls W cs) Q (l.drop n)) (l.take n) ql a (fun _ => True)) : (Code.region id l.toArray true).wp P Q a W := by
  obtain ⟨ql, h⟩ := h
  have hC : Cls W cs { W with drawn := W.drawn + 1 } := Cls.drew (k := 1) ⟨h0, Below.refl _ _⟩
  obtain ⟨l', hl'⟩ : ∃ l', l' = (lateOps l.toArray n d).toList := ⟨_, rfl⟩
  have ha' : lateOps l.toArray n d = l'.toArray := by rw [hl']
  have hy : ∀ t, yielded l.toArray t = yielded l'.toArray t := fun t => by rw [← ha', late_yielded]
  simp only [Region.lexTailB, Bool.and_eq_true, decide_eq_true_eq] at hB
  obtain ⟨⟨⟨⟨hsel, hn⟩, hs⟩, hc⟩, hlex⟩ := hB
  rw [ha'] at hsel hn hs hc hlex
  have hn' : n < l'.length := by simpa using hn
  have hsz : l'.length = l.length := by
    have : (lateOps l.toArray n d).size = l.toArray.size := by unfold lateOps; split <;> simp
    rw [ha'] at this; simpa using this
  obtain ⟨on, hon⟩ : ∃ o, l.toArray[n]? = some o := ⟨_, Array.getElem?_eq_getElem (by simp; omega)⟩
  have hget : ∀ j, l'[j]? = if j = n then some (tell on d) else l[j]? := fun j => by
    have e : l'[j]? = (lateOps l.toArray n d)[j]? := by rw [ha']; simp
    rw [e]
    split
    · rename_i hj; subst hj; exact late_eq hon
    · rename_i hj; rw [late_ne hj]; simp
  have htake : l'.take n = l.take n := by
    apply List.ext_getElem?
    intro j
    rw [List.getElem?_take, List.getElem?_take]
    split
    · rw [hget, if_neg (by omega)]
    · rfl
  have hdrop : ∀ a w, wpList P l.toArray Q (l.drop n) a w → wpList P l'.toArray Q (l'.drop n) a w := fun a w hh => by
    have e0 : l[n]? = some on := by simpa using hon
    have e1 : l.drop n = on :: l.drop (n + 1) := by
      apply List.ext_getElem?
      intro j
      rw [List.getElem?_drop]
      cases j with
      | zero => simp [e0]
      | succ j => rw [List.getElem?_cons_succ, List.getElem?_drop]; congr 1; omega
    have e2 : l'.drop n = tell on d :: l.drop (n + 1) := by
      apply List.ext_getElem?
      intro j
      rw [List.getElem?_drop, hget]
      cases j with
      | zero => simp
      | succ j => rw [if_neg (by omega), List.getElem?_cons_succ, List.getElem?_drop]; congr 1; omega
    rw [e2, wpList_tell, ← e1, ← wpList_ops hy]; exact hh
  have htl : (l'.take n).length = n := by simp; omega
  have hdl : (l'.drop n).length = l'.toArray.size - n := by simp
  have inv0 : HeadInv .any l'.toArray n (Array.replicate l'.toArray.size false) :=
    ⟨by simp, fun j oj _ hl => (by rw [getD_replicate_false] at hl; cases hl), fun t _ ht => getD_in (by simpa using ht) (getD_replicate_false _ _)⟩
  have hw := walk_ops hy _ _ _ _ h
  rw [← htake] at hw
  have H := anyL_lex (md := .any) (C := Cls W cs) (R := Rb) (qs := fun k => ql.getD k none) (g := l'.toArray.size - n) ⟨_, hC⟩ hsel hs hc hn (l'.take n) ql 0 _ a (fun _ => True) (fun j hj => by
    have hj' : j < n := by rw [htl] at hj; exact hj
    simp [hj']) (fun j q hj => by simp [hj]) (by simpa using htl) inv0 (by rw [htl]; exact hlex) hw
  have := wpAny_of_anyL (Q' := Q) (g := l'.toArray.size - n) (fun listed a' F' w' hw' hF' hL => by
    have := wpAny_of_seq (md := .any) (Q' := Q) (l'.drop n) n listed a' w' (fun j => by simp [List.getElem?_drop]) (by rw [hdl]; exact hL.1) (hdrop _ _ (hL.2 w' hw' hF'))
    rwa [hdl] at this) _ _ _ _ _ hC trivial (fun _ _ _ _ => trivial) H
  rw [htl, show n + (l'.toArray.size - n) = l'.toArray.size by omega] at this
  refine wp_region_any hm ?_
  have hs2 : l'.toArray.size = l.toArray.size := by simpa using hsz
  rw [hs2] at this
  exact late_of hL (fun od v c a w hod h => by
    have : od.dst = dst := by rw [hod] at hdst; exact Option.some.inj hdst
    rw [this] at h
    exact hQ v c a w h) _ _ _ _ (by simp) (by rw [ha']; exact this)
end
end Loose
end Go.Proofs.Ytlenpecnfilkjaa
