/- Regions that draw their order: an operation that makes a list of one sample. Conditions: none beside the theorem's own. -/
import Derived.Test.YtbaokmapgdnhlaaZ4
import Derived.Test.YtbaokmapgdnhlaaD1
set_option linter.unusedVariables false
set_option linter.unusedSimpArgs false
namespace Go.Proofs.Ytbaokmapgdnhlaa
open Go Go.RowKit
namespace Loose
section
variable {P : Program} {ops : Array Oper} {W : World} {cs : List (Addr × Value)} {Q : Exit → Act → World → Prop} {o : Oper} {rest tl : List Oper} {ql : List (Option (Value → World → Prop))} {a : Act} {F : World → Prop}
theorem rd_one (w : World) (e : TypeId) {y : Nat} (hy : y < 2 ^ FloatKind.f32.format.width) : Rd (w.alloc (.cells #[.float .f32 y] e)) (some ⟨w.heap.size, 0, none⟩) 1 [y] :=
  ⟨rfl, by decide, fun x hx => by simp at hx; subst hx; exact hy, fun j x hx => by
    cases j with
    | zero => simp at hx; subst hx; exact ⟨_, rfl, by simp [Addr.add, go_sem]⟩
    | succ j => simp at hx⟩
theorem build1T {X : Option Nat} {e : TypeId} (hw : Region.wanted o (yielded ops a.tmps) = true) (ho : ∀ w, Cls W cs w → ∃ y, Fl .f32 y X ∧ (execOp a.eval o).run P w = .ok (.value (.slice (some ⟨w.heap.size, 0, none⟩) 1 1)) (w.alloc (.cells #[.float .f32 y] e)))
    (h : ∀ ad, walk P ops (Cls W cs) Rb (finT P ops (Cls W cs) Q tl) rest ql (a.put o.dst (.slice (some ad) 1 1)) (fun w => F w ∧ ∃ y, Fl .f32 y X ∧ Rd w (some ad) 1 [y])) : walk P ops (Cls W cs) Rb (finT P ops (Cls W cs) Q tl) (o :: rest) (some (fun v w => ∃ ad, v = .slice (some ad) 1 1 ∧ ∃ y, Fl .f32 y X ∧ Rd w (some ad) 1 [y]) :: ql) a F :=
  looseT hw (fun v w w' hb ⟨ad, he, y, hy, hr⟩ => ⟨ad, he, y, hy, hr.below hb⟩)
    (fun w hc => by obtain ⟨y, hy, h1⟩ := ho w hc; exact at_val h1 (hc.next ((Below.refl _ _).alloc (Nat.le_refl _) _)) ((Below.refl _ _).alloc (Nat.le_refl _) _) ⟨_, rfl, y, hy, rd_one w e hy.wf⟩)
    (by
      rintro v ⟨w, hc, ad, rfl, hr⟩
      exact walk_facts fin_facts _ _ _ _ _ (fun w' ⟨h1, ad', he, h2⟩ => ⟨h1, by injection he with he; cases he; exact h2⟩) (h ad))
end
end Loose
end Go.Proofs.Ytbaokmapgdnhlaa
