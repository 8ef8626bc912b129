/- Rows of rows of samples, of the call's own. Conditions: none beside the contracts' own. -/
import Derived.Test.YtlenpecnfilkjaaJ4
set_option linter.unusedVariables false
set_option linter.unusedSimpArgs false
namespace Go.Proofs.Ytlenpecnfilkjaa
open Go.RowKit
section
variable {P : Program} {ops : Array Oper} {rest : List Oper} {o : Oper} {a : Act} {Q : Exit → Act → World → Prop}
/-- 'append(v, y)' of one value of one cell. -/
theorem ap_val {W : World} (base : Nat) (hgd : o.guard = none) (s x : Operand) (t e : TypeId) (z : Value) (bytes : Nat)
    (ho : o.op = .call { callee := .builtin .append, args := #[s, x], argTypes := #[t, t] })
    (ht : P.underlying t = some (.slice e)) (hinfo : (P.info? e).map (fun i => (i.zero, i.size, i.bytes)) = some (some z, 1, bytes)) (hz1 : z.cells.size = 1) (hby : bytes ≤ 64)
    (v : Value) (vs : List Value) (y : Value) (hy : y.oneCell' = true) (hs : a.eval s = v) (hx : a.eval x = .slice (some ⟨W.heap.size, 0, none⟩) 1 1)
    (HO : W.ownsRow base e 1 v vs.length vs) (hbase : base ≤ W.heap.size) (hl : vs.length ≤ 4194304)
    (h : ∀ v1 w1, w1.ownsRow base e 1 v1 (vs ++ [y]).length (vs ++ [y]) → W.grownBy w1 v.ownBlock → (v1.ownBlock = v.ownBlock ∨ ∃ b, v1.ownBlock = some b ∧ W.heap.size ≤ b) → wpList P ops Q rest (a.put o.dst v1) w1) :
    wpList P ops Q (o :: rest) a (W.alloc (.cells #[y] e)) := by
  obtain ⟨i0, hi, hzz⟩ := Option.map_eq_some_iff.1 hinfo
  simp only [Prod.mk.injEq] at hzz
  obtain ⟨hz0, hz1', hz2⟩ := hzz
  have hbb : (vs.length + 1) * bytes ≤ 140737488355328 := Nat.le_trans (Nat.mul_le_mul (show vs.length + 1 ≤ 4194305 by omega) hby) (by decide)
  refine wpList_append_own_at (W.alloc (.cells #[y] e)) hgd s x t ho base e i0 z 1 bytes ht hi hz0 hz1' hz2 hz1 (by omega) v vs.length vs hs (HO.alloc _) ⟨W.heap.size, 0, none⟩ 1 1 [y] hx rfl
    (World.news_of_block (cs := #[y]) (t := e) (fr := (0, 0)) (heap_alloc_new W _)) (fun u hu => by rw [List.mem_singleton.1 hu]; exact hy) (by simp only [maxLen]; omega) hbb (by simp; omega) ?_
  intro v1 w1 hown hg _ hat
  refine h v1 w1 (by simpa using hown) (World.grownBy.trans (World.grownBy_alloc W _ _) hg) ?_
  rcases hat with hat | hat
  · exact .inl hat
  · exact .inr ⟨_, hat, by simp⟩
end
abbrev OfJ (w : World) (B : Nat) (v : Value) (xs : List Nat) : Prop := Ow 22 w B v xs
/-- A row of rows: the outer slice v, its n rows F, what they hold. -/
structure OwSS (w : World) (B M : Nat) (v : Value) (n : Nat) (F : Nat → Value) (X : Nat → List Nat) : Prop where
  own : w.ownsRow B 126 1 v n ((List.range n).map F)
  each : ∀ i, i < n → OfJ w B (F i) (X i)
  inc : ∀ i j a b, i < j → j < n → (F i).ownBlock = some a → (F j).ownBlock = some b → a < b
  outer : ∀ i, i < n → v.ownBlock = none ∨ v.ownBlock ≠ (F i).ownBlock
  top : ∀ k, (v.ownBlock = some k ∨ ∃ i, i < n ∧ (F i).ownBlock = some k) → k < M
  low : ∀ k, v.ownBlock = some k → B ≤ k
theorem OwSS.step {w w' : World} {B M n : Nat} {v : Value} {F : Nat → Value} {X : Nat → List Nat} (h : OwSS w B M v n F X) {row : Option Nat} (hg : w.grownBy w' row) (hr : ∀ k, row = some k → k < B ∨ M ≤ k) : OwSS w' B M v n F X := by
  have key : ∀ u : Value, (∀ k, u.ownBlock = some k → B ≤ k ∧ k < M) → u.ownBlock = none ∨ u.ownBlock ≠ row := fun u hu => by
    cases hk : u.ownBlock with
    | none => exact .inl rfl
    | some k => exact .inr (fun e => by have h1 := hu k hk; rcases hr k e.symm with h2 | h2 <;> omega)
  exact ⟨h.own.kept hg (key v (fun k e => ⟨h.low k e, h.top k (.inl e)⟩)), fun i hi => (h.each i hi).other hg (key _ (fun k e => ⟨(h.each i hi).base k e, h.top k (.inr ⟨i, hi, e⟩)⟩)), h.inc, h.outer, h.top, h.low⟩
theorem OwSS.below {w w' : World} {B M n : Nat} {v : Value} {F : Nat → Value} {X : Nat → List Nat} (h : OwSS w B M v n F X) (hb : Below w.heap.size w w') : OwSS w' B M v n F X := h.step (row := none) (grown_of_below hb none) (fun k e => by cases e)
theorem OwSS.nil (w : World) (B M : Nat) (F : Nat → Value) (X : Nat → List Nat) : OwSS w B M (.slice none 0 0) 0 F X :=
  ⟨⟨rfl, .inl ⟨rfl, rfl⟩⟩, fun i hi => by omega, fun i j a b h1 h2 => by omega, fun i hi => by omega, fun k e => by
    rcases e with e | ⟨i, hi, _⟩
    · simp [Value.ownBlock] at e
    · omega, fun k e => by simp [Value.ownBlock] at e⟩
theorem OwSS.top_le {w : World} {B M M' n : Nat} {v : Value} {F : Nat → Value} {X : Nat → List Nat} (h : OwSS w B M v n F X) (hm : M ≤ M') : OwSS w B M' v n F X := ⟨h.own, h.each, h.inc, h.outer, fun k e => Nat.lt_of_lt_of_le (h.top k e) hm, h.low⟩
/-- One more row. -/
theorem OwSS.snoc {W w1 : World} {B M n : Nat} {v v1 u : Value} {F : Nat → Value} {X : Nat → List Nat} {xs : List Nat} (h : OwSS W B M v n F X) (hM : M ≤ W.heap.size) (hu : OfJ W B u xs) (hub : ∀ k, u.ownBlock = some k → M ≤ k)
    (hown : w1.ownsRow B 126 1 v1 ((List.range n).map F ++ [u]).length ((List.range n).map F ++ [u])) (hg : W.grownBy w1 v.ownBlock) (hat : v1.ownBlock = v.ownBlock ∨ ∃ b, v1.ownBlock = some b ∧ W.heap.size ≤ b) (hB : B ≤ W.heap.size) (hs : ∀ k, v1.ownBlock = some k → k < w1.heap.size) :
    OwSS w1 B w1.heap.size v1 (n + 1) (fun i => if i < n then F i else u) (fun i => if i < n then X i else xs) := by
  have hl : ((List.range n).map F ++ [u]) = (List.range (n + 1)).map (fun i => if i < n then F i else u) := by
    rw [List.range_succ, List.map_append]
    congr 1
    · exact List.map_congr_left (fun i hi => by rw [if_pos (List.mem_range.1 hi)])
    · simp
  rw [hl] at hown
  have hlen : ((List.range (n + 1)).map (fun i => if i < n then F i else u)).length = n + 1 := by simp
  rw [hlen] at hown
  have hvu : u.ownBlock = none ∨ u.ownBlock ≠ v.ownBlock := own_apart' (Bi := M) (m := M) hub (fun k e => h.top k (.inl e)) (Nat.le_refl _)
  refine ⟨hown, fun i hi => ?_, fun i j a b h1 h2 ha hb => ?_, fun i hi => ?_, fun k e => ?_, fun k e => ?_⟩
  · by_cases hin : i < n
    · simp only [if_pos hin]; exact (h.each i hin).other hg (ne_swap (h.outer i hin))
    · simp only [if_neg hin]; exact hu.other hg hvu
  · have hin : i < n := by omega
    simp only [if_pos hin] at ha
    by_cases hjn : j < n
    · simp only [if_pos hjn] at hb; exact h.inc i j a b h1 hjn ha hb
    · simp only [if_neg hjn] at hb
      have := h.top a (.inr ⟨i, hin, ha⟩)
      have := hub b hb
      omega
  · by_cases hin : i < n
    · simp only [if_pos hin]
      rcases hat with e | ⟨b, e, hb⟩
      · rw [e]; exact h.outer i hin
      · exact own_apart' (Bi := W.heap.size) (m := W.heap.size) (fun k e' => by rw [e] at e'; cases e'; exact hb) (h.each i hin).lt (Nat.le_refl _)
    · simp only [if_neg hin]
      rcases hat with e | ⟨b, e, hb⟩
      · rw [e]; exact ne_swap hvu
      · exact own_apart' (Bi := W.heap.size) (m := W.heap.size) (fun k e' => by rw [e] at e'; cases e'; exact hb) hu.lt (Nat.le_refl _)
  · have hsz := hg.size
    rcases e with e | ⟨i, hi, e⟩
    · exact hs k e
    · by_cases hin : i < n
      · simp only [if_pos hin] at e; have := (h.each i hin).lt k e; omega
      · simp only [if_neg hin] at e; have := hu.lt k e; omega
  · rcases hat with e' | ⟨b, e', hb⟩
    · rw [e'] at e; exact h.low k e
    · rw [e'] at e; cases e; omega
theorem ownsRow_lt {w : World} {B : Nat} {e : TypeId} {n : Nat} {v : Value} {l : List Value} (h : w.ownsRow B e 1 v n l) (k : Nat) (hk : v.ownBlock = some k) : k < w.heap.size := by
  rcases h.2 with ⟨rfl, _⟩ | ⟨g, cap, cur, rfl, hb, hh, _⟩
  · simp [Value.ownBlock] at hk
  · have : g = k := by simpa [Value.ownBlock] using hk
    subst this
    exact (Array.getElem?_eq_some_iff.1 hh).1
/-- The outer slice is read. -/
theorem OwSS.at_ {w : World} {B M n : Nat} {v : Value} {F : Nat → Value} {X : Nat → List Nat} (h : OwSS w B M v n F X) {i : Nat} (hi : i < n) : ∃ g c, v = .slice (some ⟨g, 0, none⟩) n c ∧ w.cell? ⟨g, i, none⟩ = some (F i) := by
  obtain ⟨g, cap, hv, _, _⟩ := h.own.form (by omega)
  refine ⟨g, cap, hv, ?_⟩
  have := h.own.cells (g := g) (by rw [hv]; rfl) i (F i) (by simp [hi])
  rwa [add_plain] at this
theorem OwSS.shape {w : World} {B M n : Nat} {v : Value} {F : Nat → Value} {X : Nat → List Nat} (h : OwSS w B M v n F X) : ∃ A c, v = .slice A n c := by
  rcases h.own.2 with ⟨rfl, rfl⟩ | ⟨g, cap, cur, rfl, _⟩
  · exact ⟨_, _, rfl⟩
  · exact ⟨_, _, rfl⟩
end Go.Proofs.Ytlenpecnfilkjaa
