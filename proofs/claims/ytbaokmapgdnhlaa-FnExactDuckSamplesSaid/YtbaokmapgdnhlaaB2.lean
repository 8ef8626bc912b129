/- The walk of the gain of a level. Conditions: none. -/
import Derived.Test.YtbaokmapgdnhlaaS
set_option linter.unusedVariables false
set_option linter.unusedSimpArgs false
namespace Go.Proofs.Ytbaokmapgdnhlaa
open Go.RowKit
def gainC (L T R : Option Nat) : Option Nat := if (ford .f32 L T == some .gt) = true then fop .quo .f32 (fop .add .f32 T (fop .quo .f32 (fop .sub .f32 L T) R)) L else some 1065353216
set_option maxHeartbeats 400000 in
set_option maxRecDepth 20000 in
theorem spec_GainFor {l t r : Nat} {L T R : Option Nat} (hl : Fl .f32 l L) (ht : Fl .f32 t T) (hr : Fl .f32 r R) (w : World) :
    Calls Try.prog 104 #[.float .f32 l, .float .f32 t, .float .f32 r] w (RF .f32 ((gainC L T R)) w) := by
  unfold gainC
  have h1 := Fl.ord hl ht
  cases c1 : (ford .f32 L T == some .gt) <;> simp only [Bool.false_eq_true, if_true, if_false]
  all_goals
    go_enter Try.func104, Try.ntmps104
    go_wp2_with fail
    go_ret
    first | exact ⟨_, _, rfl, (by repeat (first | (with_reducible assumption) | exact Fl.of_lit (by decide) (by decide) | apply Fl.fr | apply Fl.cw | apply Fl.cn)), rfl⟩ | exact ⟨_, 0, rfl, (by repeat (first | (with_reducible assumption) | exact Fl.of_lit (by decide) (by decide) | apply Fl.fr | apply Fl.cw | apply Fl.cn)), rfl⟩
  skip
  skip
set_option maxHeartbeats 400000 in
set_option maxRecDepth 20000 in
theorem impl_GainFor {l t r : Nat} {L T R : Option Nat} (hl : Fl .f32 l L) (ht : Fl .f32 t T) (hr : Fl .f32 r R) (w : World) :
    Calls Try.prog 85 #[.float .f32 l, .float .f32 t, .float .f32 r] w (RF .f32 ((gainC L T R)) w) := by
  unfold gainC
  have h1 := Fl.ord hl ht
  cases c1 : (ford .f32 L T == some .gt) <;> simp only [Bool.false_eq_true, if_true, if_false]
  all_goals
    go_enter Try.func85, Try.ntmps85
    go_wp2_with fail
    go_ret
    first | exact ⟨_, _, rfl, (by repeat (first | (with_reducible assumption) | exact Fl.of_lit (by decide) (by decide) | apply Fl.fr | apply Fl.cw | apply Fl.cn)), rfl⟩ | exact ⟨_, 0, rfl, (by repeat (first | (with_reducible assumption) | exact Fl.of_lit (by decide) (by decide) | apply Fl.fr | apply Fl.cw | apply Fl.cn)), rfl⟩
  skip
  skip
end Go.Proofs.Ytbaokmapgdnhlaa
