/- Structs that are made field by field, structs that are compared: what is known of their blocks. Conditions: none beside the contracts' own. -/
import Derived.Test.YtlenpecnfilkjaaFl
import Derived.Laws.AppendOwn
set_option linter.unusedVariables false
set_option linter.unusedSimpArgs false
namespace Go.Proofs.Ytlenpecnfilkjaa
open Go.RowKit
theorem grown_set (w : World) (a : Addr) (u : Value) : w.grownBy (w.setCell a u) (some a.block) :=
  ⟨rfl, rfl, rfl, by simp, fun k _ hk => heap_setCell_other w a k u (fun e => hk (by rw [e]))⟩
/-- A struct that is made: the parameter's cells p, the result's r, the local's s. -/
structure ToK (w W : World) (p r s : List Value) : Prop where
  cp : ∀ i v, p[i]? = some v → W.cell? ⟨w.heap.size, i, none⟩ = some v
  cr : ∀ i v, r[i]? = some v → W.cell? ⟨w.heap.size + 1, i, none⟩ = some v
  cs : ∀ i v, s[i]? = some v → W.cell? ⟨w.heap.size + 2, i, none⟩ = some v
  fr : ∀ i, W.frozen? ⟨w.heap.size + 1, i, none⟩ = false
  fs : ∀ i, W.frozen? ⟨w.heap.size + 2, i, none⟩ = false
  bel : Below w.heap.size w W
  sz : w.heap.size + 3 ≤ W.heap.size
theorem ToK.next {w W W' : World} {p r s : List Value} (h : ToK w W p r s) (hb : Below W.heap.size W W') : ToK w W' p r s := by
  obtain ⟨hc, hf⟩ := bcell hb
  have hz := h.sz
  exact ⟨fun i v e => (hc _ _ (by omega)).trans (h.cp i v e), fun i v e => (hc _ _ (by omega)).trans (h.cr i v e), fun i v e => (hc _ _ (by omega)).trans (h.cs i v e), fun i => (hf _ _ (by omega)).trans (h.fr i), fun i => (hf _ _ (by omega)).trans (h.fs i), below_next h.bel (by omega) hb, Nat.le_trans hz hb.size⟩
theorem ToK.set {w W : World} {p r s : List Value} (h : ToK w W p r s) (i : Nat) (v : Value) (hi : i < s.length) : ToK w (W.setCell ⟨w.heap.size + 2, i, none⟩ v) p r (s.set i v) := by
  refine ⟨fun j u e => ?_, fun j u e => ?_, fun j u e => ?_, fun j => by simpa using h.fr j, fun j => by simpa using h.fs j, h.bel.setCell (by simp) _, by simpa using h.sz⟩
  · rw [World.cell?_setCell_other _ _ _ _ (by simp)]; exact h.cp j u e
  · rw [World.cell?_setCell_other _ _ _ _ (by simp)]; exact h.cr j u e
  · by_cases hj : i = j
    · subst hj
      rw [List.getElem?_set_self hi] at e
      cases e
      exact World.cell?_setCell_same _ _ _ (h.cs i _ (List.getElem?_eq_getElem hi))
    · rw [List.getElem?_set_ne hj] at e
      rw [World.cell?_setCell_other _ _ _ _ (by simp; try omega)]; exact h.cs j u e
theorem ToK.start (w : World) (p z : List Value) (e e' e'' : TypeId) : ToK w (((w.alloc (.cells p.toArray e)).alloc (.cells z.toArray e')).alloc (.cells z.toArray e'')) p z z := by
  refine ⟨fun i v h => ?_, fun i v h => ?_, fun i v h => ?_, fun i => ?_, fun i => ?_, (((Below.refl _ w).alloc (Nat.le_refl _) _).alloc (by simp) _).alloc (by simp <;> omega) _, by simp⟩ <;> simp [go_sem, *]
/-- Two structs that are compared. -/
structure EqK (w W : World) (p q : List Value) : Prop where
  cp : ∀ i v, p[i]? = some v → W.cell? ⟨w.heap.size, i, none⟩ = some v
  cq : ∀ i v, q[i]? = some v → W.cell? ⟨w.heap.size + 1, i, none⟩ = some v
  bel : Below w.heap.size w W
  sz : w.heap.size + 2 ≤ W.heap.size
theorem EqK.next {w W W' : World} {p q : List Value} (h : EqK w W p q) (hb : Below W.heap.size W W') : EqK w W' p q := by
  obtain ⟨hc, hf⟩ := bcell hb
  have hz := h.sz
  exact ⟨fun i v e => (hc _ _ (by omega)).trans (h.cp i v e), fun i v e => (hc _ _ (by omega)).trans (h.cq i v e), below_next h.bel (by omega) hb, Nat.le_trans hz hb.size⟩
theorem EqK.start (w : World) (p q : List Value) (e e' : TypeId) : EqK w ((w.alloc (.cells p.toArray e)).alloc (.cells q.toArray e')) p q := by
  refine ⟨fun i v h => ?_, fun i v h => ?_, ((Below.refl _ w).alloc (Nat.le_refl _) _).alloc (by simp) _, by simp⟩ <;> simp [go_sem, *]
end Go.Proofs.Ytlenpecnfilkjaa
