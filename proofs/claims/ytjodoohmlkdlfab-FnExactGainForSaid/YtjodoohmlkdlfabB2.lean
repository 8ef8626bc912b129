/- The walk of the gain of a level. Conditions: none. -/
import Derived.Test.YtjodoohmlkdlfabS
set_option linter.unusedVariables false
set_option linter.unusedSimpArgs false
namespace Go.Proofs.Ytjodoohmlkdlfab
open Go.RowKit
def gainC (L T R : Option Nat) : Option Nat := if (ford .f32 L T == some .gt) = true then fop .quo .f32 (fop .add .f32 T (fop .quo .f32 (fop .sub .f32 L T) R)) L else some 1065353216
set_option maxHeartbeats 400000 in
set_option maxRecDepth 20000 in
theorem spec_GainFor {l t r : Nat} {L T R : Option Nat} (hl : Fl .f32 l L) (ht : Fl .f32 t T) (hr : Fl .f32 r R) (w : World) :
    Calls Try.prog 19 #[.float .f32 l, .float .f32 t, .float .f32 r] w (RF .f32 ((gainC L T R)) w) := by
  unfold gainC
  have h1 := Fl.ord hl ht
  cases c1 : (ford .f32 L T == some .gt) <;> simp only [Bool.false_eq_true, if_true, if_false]
  all_goals
    go_enter Try.func19, Try.ntmps19
    go_wp2_with fail
    go_ret
    first | exact ⟨_, _, rfl, (by repeat (first | (with_reducible assumption) | exact Fl.of_lit (by decide) (by decide) | apply Fl.fr | apply Fl.cw | apply Fl.cn)), rfl⟩ | exact ⟨_, 0, rfl, (by repeat (first | (with_reducible assumption) | exact Fl.of_lit (by decide) (by decide) | apply Fl.fr | apply Fl.cw | apply Fl.cn)), rfl⟩
  skip
  skip
set_option maxHeartbeats 400000 in
set_option maxRecDepth 20000 in
theorem impl_GainFor {l t r : Nat} {L T R : Option Nat} (hl : Fl .f32 l L) (ht : Fl .f32 t T) (hr : Fl .f32 r R) (w : World) :
    Calls Try.prog 20 #[.float .f32 l, .float .f32 t, .float .f32 r] w (RF .f32 ((gainC L T R)) w) := by
  unfold gainC
  have h1 := Fl.ord hl ht
  cases c1 : (ford .f32 L T == some .gt) <;> simp only [Bool.false_eq_true, if_true, if_false]
  all_goals
    go_enter Try.func20, Try.ntmps20
    go_wp2_with fail
    go_ret
    first | exact ⟨_, _, rfl, (by repeat (first | (with_reducible assumption) | exact Fl.of_lit (by decide) (by decide) | apply Fl.fr | apply Fl.cw | apply Fl.cn)), rfl⟩ | exact ⟨_, 0, rfl, (by repeat (first | (with_reducible assumption) | exact Fl.of_lit (by decide) (by decide) | apply Fl.fr | apply Fl.cw | apply Fl.cn)), rfl⟩
  skip
  skip
set_option maxHeartbeats 400000 in
theorem gainFor_walk (x y z : Nat) (w : World) (hx : x < 2 ^ FloatKind.f32.format.width) (hy : y < 2 ^ FloatKind.f32.format.width) (hz : z < 2 ^ FloatKind.f32.format.width) : Calls Try.prog 7 #[.float .f32 x, .float .f32 y, .float .f32 z] w fun e w' => e = .returned (.bool true) ∧ Below w.heap.size w w' := by
  go_enter Try.func7, Try.ntmps7
  go_wp2_with (first
    | (go_at_call 19; refine (spec_GainFor (Fl.self hx) (Fl.self hy) (Fl.self hz) _).mono ?_; rintro e w' ⟨r1, n1, rfl, hr1, rfl⟩)
    | (go_at_call 20; refine (impl_GainFor (Fl.self hx) (Fl.self hy) (Fl.self hz) _).mono ?_; rintro e w' ⟨r2, n2, rfl, hr2, rfl⟩)
    | (go_at_call 21; refine (laws_sameFloat (hr2.cw _) (hr1.cw _) _).mono ?_; rintro e w' ⟨rfl, n3, rfl⟩))
  go_ret
  exact ⟨rfl, below_draws _ _⟩
end Go.Proofs.Ytjodoohmlkdlfab
