/- Limiters: what they come to. Conditions: none beside the contracts' own. -/
import Derived.Test.YtbaokmapgdnhlaaLa
import Derived.Test.YtbaokmapgdnhlaaL4
import Derived.Test.YtbaokmapgdnhlaaD4
import Derived.Test.YtbaokmapgdnhlaaZ5
import Derived.Test.YtbaokmapgdnhlaaU0
import Derived.Test.YtbaokmapgdnhlaaL8
import Derived.Deep.CutRange
set_option linter.unusedVariables false
set_option linter.unusedSimpArgs false
namespace Go.Proofs.Ytbaokmapgdnhlaa
open Go.RowKit
def limTC (L P : Option Nat) : Option Nat := if (ford .f32 P L == some .gt) = true then fop .quo .f32 L P else some 1065353216
def limGC (T G : Option Nat) : Option Nat := if (ford .f32 T G == some .lt) = true then T else if (ford .f32 G G != some .eq) = true then T else G
def limG1 (L R : Option Nat) (s : Option Nat × List (Option Nat) × List (Option Nat)) (X : Option Nat) : Option Nat := limGC (limTC L (peakT (s.2.1 ++ [X]))) (fadd s.1 R)
def limS (L R : Option Nat) (s : Option Nat × List (Option Nat) × List (Option Nat)) (X : Option Nat) : Option Nat × List (Option Nat) × List (Option Nat) :=
  (limG1 L R s X, (s.2.1 ++ [X]).drop 1, s.2.2 ++ [clipC L (fmul (((s.2.1 ++ [X])[0]?).getD none) (limG1 L R s X))])
def limT (L R G : Option Nat) (A l : List (Option Nat)) : Option Nat × List (Option Nat) × List (Option Nat) := l.foldl (limS L R) (G, A, [])
theorem limT_snoc (L R G : Option Nat) (A l : List (Option Nat)) (X : Option Nat) : limT L R G A (l ++ [X]) = limS L R (limT L R G A l) X := by simp [limT]
theorem lim_len (L R : Option Nat) (l : List (Option Nat)) : ∀ s : Option Nat × List (Option Nat) × List (Option Nat), (l.foldl (limS L R) s).2.2.length = s.2.2.length + l.length := by
  induction l with
  | nil => intro s; simp
  | cons X l ih => intro s; rw [List.foldl_cons, ih]; simp [limS]; omega
theorem limT_len (L R G : Option Nat) (A l : List (Option Nat)) : (limT L R G A l).2.2.length = l.length := by rw [limT, lim_len]; simp
def limRunOk (n m : Nat) (L : Option Nat) : Bool := (few m && limitC L) && decide (n ≤ 64)
def limRes (n m : Nat) (L R G : Option Nat) (A X : List (Option Nat)) : List (Option Nat) × (Option Nat × Option Nat × Option Nat) × List (Option Nat) :=
  if limRunOk n m L = true then ((limT L R G A X).2.2, (L, R, (limT L R G A X).1), (limT L R G A X).2.1) else ([], (some 0, some 0, some 0), [])
theorem limRes_no {n m : Nat} {L R G : Option Nat} {A X : List (Option Nat)} (h : limRunOk n m L = false) : limRes n m L R G A X = ([], (some 0, some 0, some 0), []) := by unfold limRes; rw [h]; rfl
theorem limRes_yes {n m : Nat} {L R G : Option Nat} {A X : List (Option Nat)} (h : limRunOk n m L = true) : limRes n m L R G A X = ((limT L R G A X).2.2, (L, R, (limT L R G A X).1), (limT L R G A X).2.1) := by unfold limRes; rw [if_pos h]
/-- A new slice, a limiter and a bool. -/
def RLim (s : List (Option Nat) × (Option Nat × Option Nat × Option Nat) × List (Option Nat)) (b : Bool) (w : World) (e : Ending) (w' : World) : Prop :=
  ∃ v zs l r g u us, e = .returned (.tuple #[v, .agg #[.float .f32 l, .float .f32 r, .float .f32 g, u], .bool b]) ∧ Of w' w.heap.size v zs ∧ clss zs = s.1 ∧ zs.length ≤ 1048576 ∧ Fl .f32 l s.2.1.1 ∧ Fl .f32 r s.2.1.2.1 ∧ Fl .f32 g s.2.1.2.2 ∧ Of w' w.heap.size u us ∧ clss us = s.2.2 ∧ us.length ≤ 1048576 ∧ (v.ownBlock = none ∨ v.ownBlock ≠ u.ownBlock) ∧ Below w.heap.size w w'
/-- The blocks of a run: the parameter's cells p, the result's r. -/
structure LmK (w W : World) (p r : List Value) : Prop where
  cp : ∀ i v, p[i]? = some v → W.cell? ⟨w.heap.size, i, none⟩ = some v
  cr : ∀ i v, r[i]? = some v → W.cell? ⟨w.heap.size + 1, i, none⟩ = some v
  fp : ∀ i, W.frozen? ⟨w.heap.size, i, none⟩ = false
  fr : ∀ i, W.frozen? ⟨w.heap.size + 1, i, none⟩ = false
  bel : Below w.heap.size w W
  sz : w.heap.size + 2 ≤ W.heap.size
theorem LmK.next {w W W' : World} {p r : List Value} (h : LmK w W p r) {B : Nat} (hB : w.heap.size + 2 ≤ B) (hb : Below B W W') : LmK w W' p r := by
  have hc : ∀ b o, b < B → W'.cell? ⟨b, o, none⟩ = W.cell? ⟨b, o, none⟩ := fun b o hlt => World.cell?_of_block (a := ⟨b, o, none⟩) (hb.block b hlt)
  have hf : ∀ b o, b < B → W'.frozen? ⟨b, o, none⟩ = W.frozen? ⟨b, o, none⟩ := fun b o hlt => World.frozen?_of_block (a := ⟨b, o, none⟩) (hb.block b hlt)
  exact ⟨fun i v e => (hc _ _ (by omega)).trans (h.cp i v e), fun i v e => (hc _ _ (by omega)).trans (h.cr i v e), fun i => (hf _ _ (by omega)).trans (h.fp i), fun i => (hf _ _ (by omega)).trans (h.fr i), h.bel.trans ⟨hb.os, hb.tape, hb.output, hb.size, fun i hi => hb.block i (by omega)⟩, Nat.le_trans h.sz hb.size⟩
theorem LmK.below {w W W' : World} {p r : List Value} (h : LmK w W p r) (hb : Below W.heap.size W W') : LmK w W' p r := h.next h.sz hb
theorem LmK.drewN {w W : World} {p r : List Value} (h : LmK w W p r) (k : Nat) : LmK w (W.drewN k) p r := h.below (below_draws W k)
theorem LmK.grown {w W W' : World} {p r : List Value} (h : LmK w W p r) {row : Option Nat} (hg : W.grownBy W' row) (hr : ∀ k, row = some k → w.heap.size + 2 ≤ k) : LmK w W' p r :=
  h.next (Nat.le_refl _) ((Below.refl _ W).grown hg h.sz hr)
theorem LmK.set {w W : World} {p r : List Value} (h : LmK w W p r) (i : Nat) (v : Value) (hi : i < p.length) : LmK w (W.setCell ⟨w.heap.size, i, none⟩ v) (p.set i v) r := by
  refine ⟨fun j u e => ?_, fun j u e => ?_, fun j => by simpa using h.fp j, fun j => by simpa using h.fr j, h.bel.setCell (by simp) _, by simpa using h.sz⟩
  · by_cases hj : i = j
    · subst hj
      rw [List.getElem?_set_self hi] at e
      cases e
      exact World.cell?_setCell_same _ _ _ (h.cp i _ (List.getElem?_eq_getElem hi))
    · rw [List.getElem?_set_ne hj] at e
      rw [World.cell?_setCell_other _ _ _ _ (by simp; try omega)]; exact h.cp j u e
  · rw [World.cell?_setCell_other _ _ _ _ (by simp)]; exact h.cr j u e
theorem LmK.start (w : World) (p z : List Value) (e e' : TypeId) : LmK w ((w.alloc (.cells p.toArray e)).alloc (.cells z.toArray e')) p z := by
  refine ⟨fun i v h => ?_, fun i v h => ?_, fun i => ?_, fun i => ?_, ((Below.refl _ w).alloc (Nat.le_refl _) _).alloc (by simp) _, by simp⟩ <;> simp [go_sem, *]
theorem Rd.zero (W : World) (A : Option Addr) : Rd W A 0 [] := ⟨rfl, Nat.zero_le _, fun x h => by simp at h, fun j x h => by simp at h⟩
end Go.Proofs.Ytbaokmapgdnhlaa
