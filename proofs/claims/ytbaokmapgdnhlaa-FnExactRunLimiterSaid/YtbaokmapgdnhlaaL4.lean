/- The walks of the laws on peaks and clips. Conditions: none beside the contracts' own. -/
import Derived.Test.YtbaokmapgdnhlaaL3
set_option linter.unusedVariables false
set_option linter.unusedSimpArgs false
namespace Go.Proofs.Ytbaokmapgdnhlaa
open Go.RowKit

def peakNC (n : Nat) (X : List (Option Nat)) : Option Nat := if few n = true then peakT X else some 0
/-! ### Clips -/
def clipC (L X : Option Nat) : Option Nat := if (ford .f32 (absC X) L == some .gt) = true then (if (ford .f32 X (some 0) == some .lt) = true then negC L else L) else X
set_option maxHeartbeats 400000 in
set_option maxRecDepth 20000 in
theorem spec_l04Clip {x y : Nat} {X Y : Option Nat} (hx : Fl .f32 x X) (hy : Fl .f32 y Y) (w : World) :
    Calls Try.prog 89 #[.float .f32 x, .float .f32 y] w (RF .f32 ((clipC Y X)) w) := by
  have h1 := Fl.ord hx (.of_lit (k := .f32) (b := 0) (by decide) (by decide))
  have hn := hy.negf
  unfold clipC
  cases c1 : (ford .f32 (absC X) Y == some .gt) <;> cases c2 : (ford .f32 X (some 0) == some .lt) <;> simp only [Bool.false_eq_true, if_true, if_false]
  all_goals
    go_enter Try.func89, Try.ntmps89
    go_wp2_with fail
    refine (spec_l04Size hx _).mono ?_
    rintro e w' ⟨z, q, rfl, hz, rfl⟩
    have h2 := Fl.ord hz hy
    go_wp2_with fail
    go_ret
    exact ⟨_, _, rfl, by assumption, rfl⟩
  skip
  skip
set_option maxHeartbeats 400000 in
set_option maxRecDepth 20000 in
theorem impl_clipped {x y : Nat} {X Y : Option Nat} (hx : Fl .f32 x X) (hy : Fl .f32 y Y) (w : World) :
    Calls Try.prog 92 #[.float .f32 x, .float .f32 y] w (RF .f32 ((clipC Y X)) w) := by
  have h1 := Fl.ord hx (.of_lit (k := .f32) (b := 0) (by decide) (by decide))
  have hn := hy.negf
  unfold clipC
  cases c1 : (ford .f32 (absC X) Y == some .gt) <;> cases c2 : (ford .f32 X (some 0) == some .lt) <;> simp only [Bool.false_eq_true, if_true, if_false]
  all_goals
    go_enter Try.func92, Try.ntmps92
    go_wp2_with fail
    refine (impl_absolute hx _).mono ?_
    rintro e w' ⟨z, q, rfl, hz, rfl⟩
    have h2 := Fl.ord hz hy
    go_wp2_with fail
    go_ret
    exact ⟨_, _, rfl, by assumption, rfl⟩
  skip
  skip
def clipNC (n : Nat) (X : List (Option Nat)) (Y : Option Nat) : List (Option Nat) := if few n = true then X.map (clipC Y) else []
end Go.Proofs.Ytbaokmapgdnhlaa
