/- The walks of followers of levels. Conditions: none beside the contracts' own. -/
import Derived.Test.YtbaokmapgdnhlaaD4
set_option linter.unusedVariables false
set_option linter.unusedSimpArgs false
namespace Go.Proofs.Ytbaokmapgdnhlaa
open Go.RowKit
def folK (A R L X : Option Nat) : Option Nat := if (ford .f32 (absC X) L == some .gt) = true then A else R
def folC (A R L X : Option Nat) : Option Nat := flushC (fadd L (fmul (folK A R L X) (fsub (absC X) L)))
theorem frozen_grown {w w' : World} {row : Option Nat} {b o : Nat} (g : w.grownBy w' row) (hb : b < w.heap.size) (hr : row ≠ some b) : w'.frozen? ⟨b, o, none⟩ = w.frozen? ⟨b, o, none⟩ := by
  have h := g.block b hb (fun e => hr e.symm)
  simp [World.frozen?, h]
set_option maxHeartbeats 800000 in
theorem spec_l04Follow {b a r l x : Nat} {A R L X : Option Nat} (w : World) (ha : Fl .f32 a A) (hr : Fl .f32 r R) (hl : Fl .f32 l L) (hx : Fl .f32 x X)
    (hc0 : w.cell? ⟨b, 0, none⟩ = some (.float .f32 a)) (hc1 : w.cell? ⟨b, 1, none⟩ = some (.float .f32 r)) :
    Calls Try.prog 82 #[.pointer (some ⟨b, 0, none⟩), .float .f32 l, .float .f32 x] w (RF .f32 (folC A R L X) w) := by
  unfold folC folK
  cases c : (ford .f32 (absC X) L == some .gt) <;> simp only [Bool.false_eq_true, if_true, if_false]
  all_goals
    go_enter Try.func82, Try.ntmps82
    go_wp2_with fail
    refine (spec_l04Size hx _).mono ?_
    rintro e w1 ⟨z, q, rfl, hz, rfl⟩
    have ho := Fl.ord hz hl
  · have HV := Lib.hid (fun w1 w2 w3 => hl.fr (hr.fr (hz.fr hl .sub w1) .mul w2) .add w3)
    clear ha hr hl hx hz
    go_wp2_with fail
    with_reducible refine (spec_l01Flush (HV.out _ _ _) _).mono ?_
    rintro e w2 ⟨y, k, rfl, hy, rfl⟩
    go_wp2_with fail
    go_ret
    exact ⟨_, _, rfl, hy, rfl⟩
  · have HV := Lib.hid (fun w1 w2 w3 => hl.fr (ha.fr (hz.fr hl .sub w1) .mul w2) .add w3)
    clear ha hr hl hx hz
    go_wp2_with fail
    with_reducible refine (spec_l01Flush (HV.out _ _ _) _).mono ?_
    rintro e w2 ⟨y, k, rfl, hy, rfl⟩
    go_wp2_with fail
    go_ret
    exact ⟨_, _, rfl, hy, rfl⟩
set_option maxHeartbeats 800000 in
theorem impl_Follower_step {b a r l x : Nat} {A R L X : Option Nat} (w : World) (ha : Fl .f32 a A) (hr : Fl .f32 r R) (hl : Fl .f32 l L) (hx : Fl .f32 x X)
    (hc0 : w.cell? ⟨b, 0, none⟩ = some (.float .f32 a)) (hc1 : w.cell? ⟨b, 1, none⟩ = some (.float .f32 r)) (hc2 : w.cell? ⟨b, 2, none⟩ = some (.float .f32 l)) (hfr : w.frozen? ⟨b, 2, none⟩ = false) :
    Calls Try.prog 83 #[.pointer (some ⟨b, 0, none⟩), .float .f32 x] w fun e w' => e = .returned (.tuple #[]) ∧ ∃ y q, Fl .f32 y (folC A R L X) ∧ w' = (w.setCell ⟨b, 2, none⟩ (.float .f32 y)).drewN q := by
  unfold folC folK
  cases c : (ford .f32 (absC X) L == some .gt) <;> simp only [Bool.false_eq_true, if_true, if_false]
  all_goals
    go_enter Try.func83, Try.ntmps83
    go_wp2_with fail
    refine (impl_absolute hx _).mono ?_
    rintro e w1 ⟨z, q, rfl, hz, rfl⟩
    have ho := Fl.ord hz hl
  · have HV := Lib.hid (fun w1 w2 w3 => hl.fr (hr.fr (hz.fr hl .sub w1) .mul w2) .add w3)
    clear ha hr hl hx hz
    have CF : ∀ v W, Fl .f32 v (fadd L (fmul R (fsub (absC X) L))) → Calls Try.prog 103 #[.float .f32 v] W (RF .f32 (flushC (fadd L (fmul R (fsub (absC X) L)))) W) := fun v W h => impl_FlushNumber h W
    go_wp2_with fail
    go_region_with (go_at_call 103; (with_reducible refine (CF _ _ ?_).mono ?_); (exact HV.out _ _ _); rintro e w2 ⟨y, k, rfl, hy, rfl⟩)
    all_goals go_wp2
    all_goals go_end0
    all_goals exact ⟨rfl, _, _, hy, rfl⟩
  · have HV := Lib.hid (fun w1 w2 w3 => hl.fr (ha.fr (hz.fr hl .sub w1) .mul w2) .add w3)
    clear ha hr hl hx hz
    have CF : ∀ v W, Fl .f32 v (fadd L (fmul A (fsub (absC X) L))) → Calls Try.prog 103 #[.float .f32 v] W (RF .f32 (flushC (fadd L (fmul A (fsub (absC X) L)))) W) := fun v W h => impl_FlushNumber h W
    go_wp2_with fail
    go_region_with (go_at_call 103; (with_reducible refine (CF _ _ ?_).mono ?_); (exact HV.out _ _ _); rintro e w2 ⟨y, k, rfl, hy, rfl⟩)
    all_goals go_wp2
    all_goals go_end0
    all_goals exact ⟨rfl, _, _, hy, rfl⟩
end Go.Proofs.Ytbaokmapgdnhlaa
