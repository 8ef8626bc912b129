/- How the arguments of a law lie in memory: numbers, structs of numbers, slices of numbers and of structs. Conditions: none. -/
import Derived.Test.YtajnncidkmafgaaDoorFl
import Derived.ProofKit
import Derived.Deep.Slices
import Derived.Laws.Cover2
set_option linter.unusedVariables false
set_option linter.unusedSimpArgs false
namespace Go.Proofs.YtajnncidkmafgaaDoor
open Go.ChangeShapes Go.WideShapes Go.ChangeAt Go.RowKit

/-- The kinds of one cell. -/
inductive Sc where
  | f32 | f64 | i64 | bool
def Sc.ok : Sc → Value → Prop
  | .f32, v => ∃ b, v = .float .f32 b ∧ b < 2 ^ FloatKind.f32.format.width
  | .f64, v => ∃ b, v = .float .f64 b ∧ b < 2 ^ FloatKind.f64.format.width
  | .i64, v => ∃ n, v = .int .i64 n ∧ (Lit.int .i64 n).wf = true
  | .bool, v => ∃ b, v = .bool b
def scOf (P : Program) (t : TypeId) : Option Sc := match P.underlying t with
  | some (.float .f32) => some .f32
  | some (.float .f64) => some .f64
  | some (.int .i64) => some .i64
  | some .bool => some .bool
  | _ => none
def flatFields {α : Type} (P : Program) (flat : TypeId → Option (List α)) : Nat → List Field → Option (List α)
  | _, [] => some []
  | o, f :: r => if f.offset = o then (flat f.type).bind fun l => if P.cellsOf f.type = l.length then (flatFields P flat (o + l.length) r).map (l ++ ·) else none else none
def flatOf (P : Program) : Nat → TypeId → Option (List Sc)
  | 0, t => (scOf P t).map fun s => [s]
  | d + 1, t => match P.underlying t with
    | some (.struct fs) => (flatFields P (flatOf P d) 0 fs.toList).bind fun l => if P.cellsOf t = l.length then some l else none
    | _ => (scOf P t).map fun s => [s]
/-- A slice that is read: the values of its cells, each of its kind. -/
structure Row (w : World) (es : List Sc) (A : Option Addr) (n : Nat) (vs : List Value) : Prop where
  len : vs.length = n * es.length
  most : n ≤ maxLen
  cell : ∀ j u, vs[j]? = some u → ∃ ad, A = some ad ∧ w.cell? (ad.add j) = some u
  kind : ∀ i k s, i < n → es[k]? = some s → ∃ u, vs[i * es.length + k]? = some u ∧ s.ok u
inductive LK where
  | sc (s : Sc) | row (es : List Sc)
def LK.ok (w : World) : LK → Value → Prop
  | .sc s, v => s.ok v
  | .row es, v => ∃ A n c vs, v = .slice A n c ∧ Row w es A n vs
def lkOf (P : Program) : Nat → TypeId → Option (List LK)
  | 0, t => match P.underlying t with
    | some (.slice e) => (flatOf P 2 e).bind fun es => if P.cellsOf e = es.length then some [.row es] else none
    | _ => (scOf P t).map fun s => [.sc s]
  | d + 1, t => match P.underlying t with
    | some (.struct fs) => (flatFields P (lkOf P d) 0 fs.toList).bind fun l => if P.cellsOf t = l.length then some l else none
    | some (.slice e) => (flatOf P 2 e).bind fun es => if P.cellsOf e = es.length then some [.row es] else none
    | _ => (scOf P t).map fun s => [.sc s]

inductive All2 {α β : Type} (R : α → β → Prop) : List α → List β → Prop
  | nil : All2 R [] []
  | cons {a b l m} : R a b → All2 R l m → All2 R (a :: l) (b :: m)
theorem All2.length {α β : Type} {R : α → β → Prop} {l : List α} {m : List β} (h : All2 R l m) : l.length = m.length := by
  induction h with
  | nil => rfl
  | cons _ _ ih => simp [ih]
theorem All2.append {α β : Type} {R : α → β → Prop} {l l' : List α} {m m' : List β} (h : All2 R l m) (h' : All2 R l' m') : All2 R (l ++ l') (m ++ m') := by
  induction h with
  | nil => exact h'
  | cons h1 _ ih => exact .cons h1 ih
theorem All2.cons_inv {α β : Type} {R : α → β → Prop} {a : α} {l : List α} {m : List β} (h : All2 R (a :: l) m) : ∃ b m', m = b :: m' ∧ R a b ∧ All2 R l m' := by
  cases h with
  | cons h1 h2 => exact ⟨_, _, rfl, h1, h2⟩
theorem All2.nil_inv {α β : Type} {R : α → β → Prop} {m : List β} (h : All2 R [] m) : m = [] := by cases h; rfl
theorem All2.at {α β : Type} {R : α → β → Prop} {l : List α} {m : List β} (h : All2 R l m) (k : Nat) (a : α) (hk : l[k]? = some a) : ∃ b, m[k]? = some b ∧ R a b := by
  induction h generalizing k with
  | nil => simp at hk
  | cons h1 _ ih =>
    cases k with
    | zero => simp at hk; subst hk; exact ⟨_, rfl, h1⟩
    | succ k => simpa using ih k (by simpa using hk)

section
variable {H : Type} {enc : TypeId × Value → H} {P : Program} {w : World} {base : Nat} {spare : Nat → Bool} {held : Bool}
theorem trod_float {t : TypeId} {k : FloatKind} {fuel : Nat} {cs : List Value} {x : DataW H × List MemPlace} (ht : P.underlying t = some (.float k)) (h : DataW.trod enc P w base spare held fuel t cs = some x) : ∃ b, cs = [.float k b] ∧ (Lit.float k b).wf = true := by
  cases fuel with
  | zero => simp [DataW.trod] at h
  | succ n =>
    unfold DataW.trod at h
    rw [ht] at h
    split at h <;> simp_all
theorem sc_ok {t : TypeId} {s : Sc} {fuel : Nat} {cs : List Value} {x : DataW H × List MemPlace} (hs : scOf P t = some s) (h : DataW.trod enc P w base spare held fuel t cs = some x) : ∃ v, cs = [v] ∧ s.ok v := by
  unfold scOf at hs
  split at hs <;> first | (injection hs with hs; subst hs) | cases hs
  · rename_i ht
    obtain ⟨b, rfl, hw⟩ := trod_float ht h
    exact ⟨_, rfl, b, rfl, wf_lt hw⟩
  · rename_i ht
    obtain ⟨b, rfl, hw⟩ := trod_float ht h
    exact ⟨_, rfl, b, rfl, wf_lt hw⟩
  · rename_i ht
    obtain ⟨n, rfl, _, hw⟩ := DataW.trod_int ht h
    exact ⟨_, rfl, n, rfl, hw⟩
  · rename_i ht
    obtain ⟨b, rfl, _⟩ := DataW.trod_bool ht h
    exact ⟨_, rfl, b, rfl⟩
theorem fields_ok {α : Type} {R : α → Value → Prop} {flat : TypeId → Option (List α)} {n : Nat}
    (hf : ∀ t l cs x, flat t = some l → DataW.trod enc P w base spare held n t cs = some x → All2 R l cs) :
    ∀ (fs : List Field) (o : Nat) (l : List α) (cs : List Value), flatFields P flat o fs = some l →
      (∀ f ∈ fs, ∃ x, DataW.trod enc P w base spare held n f.type ((cs.drop f.offset).take (P.cellsOf f.type)) = some x) → cs.length = o + l.length → All2 R l (cs.drop o)
  | [], o, l, cs, h, _, hl => by
    simp [flatFields] at h
    subst h
    have : cs.drop o = [] := by simp at hl; simp [hl]
    rw [this]; exact .nil
  | f :: r, o, l, cs, h, ht, hl => by
    unfold flatFields at h
    split at h
    · rename_i ho
      obtain ⟨l1, h1, h2⟩ := Option.bind_eq_some_iff.1 h
      split at h2
      · rename_i hc
        obtain ⟨l2, h3, rfl⟩ := Option.map_eq_some_iff.1 h2
        obtain ⟨x, hx⟩ := ht f (by simp)
        have a1 := hf _ _ _ _ h1 hx
        rw [ho, hc] at a1
        have a2 := fields_ok hf r (o + l1.length) l2 cs h3 (fun g hg => ht g (by simp [hg])) (by rw [hl, List.length_append]; omega)
        have := a1.append a2
        rwa [← List.drop_drop, List.take_append_drop] at this
      · cases h2
    · cases h
theorem struct_ok {α : Type} {R : α → Value → Prop} {flat : TypeId → Option (List α)} {t : TypeId} {fs : Array Field} {l : List α} {fuel : Nat} {cs : List Value} {x : DataW H × List MemPlace}
    (hu : P.underlying t = some (.struct fs)) (hC : P.cellsOf t = l.length)
    (hf0 : ∀ n t l cs x, flat t = some l → DataW.trod enc P w base spare held n t cs = some x → All2 R l cs) (h : flatFields P flat 0 fs.toList = some l) (hx : DataW.trod enc P w base spare held fuel t cs = some x) : All2 R l cs := by
  obtain ⟨xs, n, hn, _, hl, hxl, hf⟩ := DataW.trod_struct hu hx
  have := fields_ok (R := R) (flat := flat) (n := n) (hf0 n) fs.toList 0 l cs h (fun f hf' => by
    obtain ⟨i, hi, he⟩ := List.getElem_of_mem hf'
    have hi' : i < fs.size := by simpa using hi
    have h1 : fs[i]? = some f := by
      rw [Array.getElem?_eq_getElem hi']
      congr 1
    have h2 := hf i f h1
    rw [h2]
    exact ⟨_, List.getElem?_eq_getElem (by omega)⟩) (by omega)
  simpa using this
theorem flat_ok : ∀ (d : Nat) {t : TypeId} {l : List Sc} {fuel : Nat} {cs : List Value} {x : DataW H × List MemPlace}, flatOf P d t = some l → DataW.trod enc P w base spare held fuel t cs = some x → All2 Sc.ok l cs
  | 0, t, l, fuel, cs, x, h, hx => by
    obtain ⟨s, hs, rfl⟩ := Option.map_eq_some_iff.1 h
    obtain ⟨v, rfl, hv⟩ := sc_ok hs hx
    exact .cons hv .nil
  | d + 1, t, l, fuel, cs, x, h, hx => by
    unfold flatOf at h
    split at h
    · rename_i fs hu
      obtain ⟨l', h', hif⟩ := Option.bind_eq_some_iff.1 h
      split at hif
      · rename_i hC
        injection hif with hif
        subst hif
        exact struct_ok hu hC (fun n t l cs x h hx => flat_ok d h hx) h' hx
      · cases hif
    · obtain ⟨s, hs, rfl⟩ := Option.map_eq_some_iff.1 h
      obtain ⟨v, rfl, hv⟩ := sc_ok hs hx
      exact .cons hv .nil
theorem row_ok {t e : TypeId} {es : List Sc} {fuel : Nat} {cs : List Value} {x : DataW H × List MemPlace} (ht : P.underlying t = some (.slice e)) (he : flatOf P 2 e = some es) (hC : P.cellsOf e = es.length)
    (h : DataW.trod enc P w base spare held fuel t cs = some x) : ∃ v, cs = [v] ∧ (LK.row es).ok w v := by
  rcases Deep.open_slice ht h with ⟨rfl, _⟩ | ⟨a, len, cap, m, n, D, Pl, rfl, hb, hl, hm, hmm, _, hi⟩
  · exact ⟨_, rfl, none, 0, 0, [], rfl, ⟨by simp, Nat.zero_le _, fun j u h => by simp at h, fun i k s h => absurd h (Nat.not_lt_zero _)⟩⟩
  · have hlm : len ≤ m := by rw [hmm]; split <;> omega
    obtain ⟨C, hCs⟩ := Deep.choose_lt (α := List Value) (n := len) (p := fun i cs' => w.cells? base (a.add (i * P.cellsOf e)) (P.cellsOf e) = some cs' ∧ DataW.trod enc P w base spare held n e cs' = some (D i, Pl i)) (fun i h => hi i (by omega))
    rw [hC] at hCs
    have hlen : ∀ i, i < len → (C i).length = es.length := fun i h => by
      obtain ⟨_, h2, _⟩ := World.cells?_some (hCs i h).1
      exact h2
    have hat : ∀ k, k ≤ len → ((List.range k).flatMap C).length = k * es.length ∧ ∀ i j, i < k → j < es.length → ((List.range k).flatMap C)[i * es.length + j]? = (C i)[j]? := by
      intro k
      induction k with
      | zero => exact fun _ => ⟨by simp, fun i j h => absurd h (Nat.not_lt_zero _)⟩
      | succ k ih =>
        intro hk
        obtain ⟨h1, h2⟩ := ih (by omega)
        rw [List.range_succ, List.flatMap_append, List.flatMap_singleton]
        refine ⟨by rw [List.length_append, h1, hlen k (by omega), Nat.succ_mul], fun i j hi hj => ?_⟩
        rcases Nat.lt_succ_iff_lt_or_eq.1 hi with h3 | rfl
        · have : i * es.length + j < k * es.length := by
            have := Nat.mul_le_mul_right es.length (show i + 1 ≤ k by omega)
            rw [Nat.add_mul] at this; omega
          rw [List.getElem?_append_left (by omega)]
          exact h2 i j h3 hj
        · rw [List.getElem?_append_right (by omega), h1]
          congr 1; omega
    obtain ⟨h1, h2⟩ := hat len (Nat.le_refl _)
    refine ⟨_, rfl, some a, len, cap, (List.range len).flatMap C, rfl, ⟨h1, by omega, fun j u hj => ⟨a, rfl, ?_⟩, fun i k s hil hs => ?_⟩⟩
    · have hjl : j < len * es.length := by
        rcases Nat.lt_or_ge j (len * es.length) with h | h
        · exact h
        · rw [List.getElem?_eq_none (by omega)] at hj; cases hj
      have hpos : 0 < es.length := by
        rcases Nat.eq_zero_or_pos es.length with h0 | h0
        · rw [h0] at hjl; simp at hjl
        · exact h0
      have hq : j / es.length < len := (Nat.div_lt_iff_lt_mul hpos).2 hjl
      have hr : j % es.length < es.length := Nat.mod_lt _ hpos
      have hdm : j / es.length * es.length + j % es.length = j := by rw [Nat.mul_comm]; exact Nat.div_add_mod j es.length
      have h4 := h2 _ _ hq hr
      rw [hdm, hj] at h4
      obtain ⟨_, _, hcell⟩ := World.cells?_some (hCs _ hq).1
      have h5 := hcell _ hr
      rw [Deep.add_add, hdm] at h5
      rw [h5, ← h4]
    · have hk : k < es.length := (List.getElem?_eq_some_iff.1 hs).1
      have hA := flat_ok 2 he (hCs i hil).2
      obtain ⟨u, hu, hok⟩ := hA.at k s hs
      exact ⟨u, by rw [h2 i k hil hk]; exact hu, hok⟩
theorem lk_ok : ∀ (d : Nat) {t : TypeId} {l : List LK} {fuel : Nat} {cs : List Value} {x : DataW H × List MemPlace}, lkOf P d t = some l → DataW.trod enc P w base spare held fuel t cs = some x → All2 (LK.ok w) l cs
  | 0, t, l, fuel, cs, x, h, hx => by
    unfold lkOf at h
    split at h
    · rename_i e hu
      obtain ⟨es, h1, h2⟩ := Option.bind_eq_some_iff.1 h
      split at h2
      · rename_i hC
        injection h2 with h2
        subst h2
        obtain ⟨v, rfl, hv⟩ := row_ok hu h1 hC hx
        exact .cons hv .nil
      · cases h2
    · obtain ⟨s, hs, rfl⟩ := Option.map_eq_some_iff.1 h
      obtain ⟨v, rfl, hv⟩ := sc_ok hs hx
      exact .cons hv .nil
  | d + 1, t, l, fuel, cs, x, h, hx => by
    unfold lkOf at h
    split at h
    · rename_i fs hu
      obtain ⟨l', h', hif⟩ := Option.bind_eq_some_iff.1 h
      split at hif
      · rename_i hC
        injection hif with hif
        subst hif
        exact struct_ok hu hC (fun n t l cs x h hx => lk_ok d h hx) h' hx
      · cases hif
    · rename_i e hu
      obtain ⟨es, h1, h2⟩ := Option.bind_eq_some_iff.1 h
      split at h2
      · rename_i hC
        injection h2 with h2
        subst h2
        obtain ⟨v, rfl, hv⟩ := row_ok hu h1 hC hx
        exact .cons hv .nil
      · cases h2
    · obtain ⟨s, hs, rfl⟩ := Option.map_eq_some_iff.1 h
      obtain ⟨v, rfl, hv⟩ := sc_ok hs hx
      exact .cons hv .nil
/-- A struct by value, opened. -/
theorem open_agg {t : TypeId} {fs : Array Field} {l : List LK} {v : Value} {d : DataW H} {p : List MemPlace} {r : Reach} {b0 : Nat} (hu : P.underlying t = some (.struct fs)) (hl : lkOf P 3 t = some l) (hv : Value.okWide P w r b0 t v)
    (h : DataW.Trod enc P w base spare held t v d p) : ∃ cs, v = .agg ⟨cs⟩ ∧ All2 (LK.ok w) l cs := by
  obtain ⟨cs, rfl, _⟩ := okWide_struct hu hv
  obtain ⟨fuel, hf⟩ := h
  obtain ⟨l0⟩ := cs
  exact ⟨l0, rfl, lk_ok 3 hl (by simpa [Value.cells] using hf)⟩
/-- A slice, opened. -/
theorem open_sl {t e : TypeId} {es : List Sc} {v : Value} {d : DataW H} {p : List MemPlace} {r : Reach} {b0 : Nat} (hu : P.underlying t = some (.slice e)) (he : flatOf P 2 e = some es) (hC : P.cellsOf e = es.length) (hv : Value.okWide P w r b0 t v)
    (h : DataW.Trod enc P w base spare held t v d p) : ∃ A n c vs, v = .slice A n c ∧ Row w es A n vs := by
  obtain ⟨a, n, c, rfl⟩ := okWide_slice hu hv
  obtain ⟨fuel, hf⟩ := h
  obtain ⟨v, hv1, hv2⟩ := row_ok hu he hC (show DataW.trod enc P w base spare held fuel t [.slice a n c] = some _ by simpa [Value.cells] using hf)
  injection hv1 with hv1
  subst hv1
  exact hv2
end
end Go.Proofs.YtajnncidkmafgaaDoor
