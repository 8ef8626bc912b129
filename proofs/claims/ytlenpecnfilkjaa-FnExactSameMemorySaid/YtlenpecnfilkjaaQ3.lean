/- The walk of the law on memories that are the same. Conditions: none. -/
import Derived.Test.YtlenpecnfilkjaaQ1
import Derived.Deep.RegionWith
set_option linter.unusedVariables false
set_option linter.unusedSimpArgs false
namespace Go.Proofs.Ytlenpecnfilkjaa
open Go.RowKit
set_option maxHeartbeats 400000 in
theorem spec_l01Same {x y : Nat} {X Y : Option Nat} (hx : Fl .f32 x X) (hy : Fl .f32 y Y) (w : World) : Calls Try.prog 52 #[.float .f32 x, .float .f32 y] w (RB (sameC X Y) w) := by
  go_enter Try.func52, Try.ntmps52
  go_wp2_with fail
  refine (spec_l01Bits hx _).mono ?_; rintro e w' ⟨rfl, n, rfl⟩
  go_wp2_with fail
  refine (spec_l01Bits hy _).mono ?_; rintro e w' ⟨rfl, m, rfl⟩
  go_wp2_with fail
  go_ret
  exact ⟨rfl, _, rfl⟩
set_option maxHeartbeats 400000 in
theorem impl_SameNumber {x y : Nat} {X Y : Option Nat} (hx : Fl .f32 x X) (hy : Fl .f32 y Y) (w : World) : Calls Try.prog 53 #[.float .f32 x, .float .f32 y] w (RB (sameC X Y) w) := by
  rcases hx.cases with ⟨rfl, n1⟩ | ⟨rfl, n1⟩ <;> rcases hy.cases with ⟨rfl, n2⟩ | ⟨rfl, n2⟩
  · have hs := ord_nan n1; have ht := ord_nan n2
    go_enter Try.func53, Try.ntmps53
    go_wp2
    go_ret
    exact ⟨rfl, 0, rfl⟩
  · have hs := ord_nan n1; have ht := ord_num n2
    rw [sameC_none_some n2]
    go_enter Try.func53, Try.ntmps53
    go_wp2
    go_ret
    exact ⟨rfl, 0, rfl⟩
  · have hs := ord_num n1; have ht := ord_nan n2
    rw [sameC_some_none n1]
    go_enter Try.func53, Try.ntmps53
    go_wp2
    go_ret
    exact ⟨rfl, 0, rfl⟩
  · have hs := ord_num n1; have ht := ord_num n2
    go_enter Try.func53, Try.ntmps53
    go_wp2
    go_ret
    exact ⟨rfl, 0, rfl⟩
set_option maxHeartbeats 800000 in
theorem laws_toMemory {a b c d : Nat} (w : World) : Calls Try.prog 14 #[.agg #[.float .f32 a, .float .f32 b, .float .f32 c, .float .f32 d]] w (RV (.agg #[.float .f32 a, .float .f32 b, .float .f32 c, .float .f32 d]) w) := by
  go_enter Try.func14, Try.ntmps14
  go_wp2
  refine bodyPost_ret (v := .agg #[.float .f32 a, .float .f32 b, .float .f32 c, .float .f32 d]) ?_ rfl ⟨rfl, ?_⟩
  · simp [results, Try.results14, go_sem]
  · (repeat (first | exact Below.refl _ _ | (with_reducible assumption) | refine below_drewN ?_ _ | refine Below.drew ?_ | refine Below.alloc ?_ (by simp; try omega) _))
def sameM (A B C D A' B' C' D' : Option Nat) : Bool := sameC A A' && sameC B B' && sameC C C' && sameC D D'
set_option maxHeartbeats 1600000 in
theorem spec_SameMemory {a b c d a' b' c' d' : Nat} {A B C D A' B' C' D' : Option Nat} (w : World) (ha : Fl .f32 a A) (hb : Fl .f32 b B) (hc : Fl .f32 c C) (hd : Fl .f32 d D) (ha' : Fl .f32 a' A') (hb' : Fl .f32 b' B') (hc' : Fl .f32 c' C') (hd' : Fl .f32 d' D') :
    Calls Try.prog 13 #[.agg #[.float .f32 a, .float .f32 b, .float .f32 c, .float .f32 d], .agg #[.float .f32 a', .float .f32 b', .float .f32 c', .float .f32 d']] w (RV (.bool (sameM A B C D A' B' C' D')) w) := by
  unfold sameM
  have hal := fun o o' m => below_drewN (((Below.refl _ w).alloc (Nat.le_refl _) o).alloc (by simp) o') m
  have C1 := fun w => spec_l01Same ha ha' w
  have C2 := fun w => spec_l01Same hb hb' w
  have C3 := fun w => spec_l01Same hc hc' w
  have C4 := fun w => spec_l01Same hd hd' w
  clear ha hb hc hd ha' hb' hc' hd'
  go_enter Try.func13, Try.ntmps13
  go_wp2_with (first
    | (go_at_call 52; (with_reducible refine (C1 _).mono ?_); rintro e w' ⟨rfl, q, rfl⟩)
    | (go_at_call 52; (with_reducible refine (C2 _).mono ?_); rintro e w' ⟨rfl, q, rfl⟩)
    | (go_at_call 52; (with_reducible refine (C3 _).mono ?_); rintro e w' ⟨rfl, q, rfl⟩)
    | (go_at_call 52; (with_reducible refine (C4 _).mono ?_); rintro e w' ⟨rfl, q, rfl⟩))
  all_goals
    go_ret
    refine ⟨ret_bool ?_, hal _ _ _⟩
    clear C1 C2 C3 C4 hal
    simp_all
set_option maxHeartbeats 1600000 in
theorem impl_SameMemory {a b c d a' b' c' d' : Nat} {A B C D A' B' C' D' : Option Nat} (w : World) (ha : Fl .f32 a A) (hb : Fl .f32 b B) (hc : Fl .f32 c C) (hd : Fl .f32 d D) (ha' : Fl .f32 a' A') (hb' : Fl .f32 b' B') (hc' : Fl .f32 c' C') (hd' : Fl .f32 d' D') :
    Calls Try.prog 15 #[.agg #[.float .f32 a, .float .f32 b, .float .f32 c, .float .f32 d], .agg #[.float .f32 a', .float .f32 b', .float .f32 c', .float .f32 d']] w (RV (.bool (sameM A B C D A' B' C' D')) w) := by
  unfold sameM
  have hal := fun o o' m => below_drewN (((Below.refl _ w).alloc (Nat.le_refl _) o).alloc (by simp) o') m
  have C1 := fun w => impl_SameNumber ha ha' w
  have C2 := fun w => impl_SameNumber hb hb' w
  have C3 := fun w => impl_SameNumber hc hc' w
  have C4 := fun w => impl_SameNumber hd hd' w
  clear ha hb hc hd ha' hb' hc' hd'
  go_enter Try.func15, Try.ntmps15
  go_wp2_with (first
    | (go_at_call 53; (with_reducible refine (C1 _).mono ?_); rintro e w' ⟨rfl, q, rfl⟩)
    | (go_at_call 53; (with_reducible refine (C2 _).mono ?_); rintro e w' ⟨rfl, q, rfl⟩)
    | (go_at_call 53; (with_reducible refine (C3 _).mono ?_); rintro e w' ⟨rfl, q, rfl⟩)
    | (go_at_call 53; (with_reducible refine (C4 _).mono ?_); rintro e w' ⟨rfl, q, rfl⟩))
  all_goals
    go_ret
    refine ⟨ret_bool ?_, hal _ _ _⟩
    clear C1 C2 C3 C4 hal
    simp_all
end Go.Proofs.Ytlenpecnfilkjaa
