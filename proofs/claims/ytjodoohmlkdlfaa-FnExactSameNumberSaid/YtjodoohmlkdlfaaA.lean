/- The walks of the small laws on single numbers: constants, finite, subnormal, bits, same. Conditions: none. -/
import Derived.Test.YtjodoohmlkdlfaaRows
import Derived.Test.YtjodoohmlkdlfaaFl
import Derived.Test.YtjodoohmlkdlfaaFp
import Derived.Laws.Externs
set_option linter.unusedVariables false
set_option linter.unusedSimpArgs false
namespace Go.Proofs.Ytjodoohmlkdlfaa
open Go.RowKit

set_option maxHeartbeats 400000 in
theorem constants_walk (w : World) : Calls Try.prog 3 #[] w fun e w' => e = .returned (.bool true) ∧ Below w.heap.size w w' := by
  go_enter Try.func3, Try.ntmps3
  go_wp2
  go_ret
  exact ⟨rfl, Below.refl _ _⟩

set_option maxHeartbeats 400000 in
theorem impl_IsFinite {x : Nat} {X : Option Nat} (hx : Fl .f32 x X) (w : World) : Calls Try.prog 10 #[.float .f32 x] w (RB (finC X) w) := by
  go_enter Try.func10, Try.ntmps10
  go_wp2
  go_ret
  exact ⟨by rw [Fl.ord (k := .f32) ((by repeat (first | (with_reducible assumption) | exact Fl.of_lit (by decide) (by decide) | apply Fl.fr)) : Fl .f32 (fr .sub .f32 x x w) _) (by repeat (first | (with_reducible assumption) | exact Fl.of_lit (by decide) (by decide) | apply Fl.fr))]; rfl, _, rfl⟩
set_option maxHeartbeats 400000 in
theorem spec_l01Finite {x : Nat} {X : Option Nat} (hx : Fl .f32 x X) (w : World) : Calls Try.prog 20 #[.float .f32 x] w (RB (finC X) w) := by
  go_enter Try.func20, Try.ntmps20
  go_wp2
  go_ret
  exact ⟨by rw [Fl.ord (k := .f32) ((by repeat (first | (with_reducible assumption) | exact Fl.of_lit (by decide) (by decide) | apply Fl.fr)) : Fl .f32 (fr .sub .f32 x x w) _) (by repeat (first | (with_reducible assumption) | exact Fl.of_lit (by decide) (by decide) | apply Fl.fr))]; rfl, _, rfl⟩
set_option maxHeartbeats 400000 in
theorem spec_IsFinite {x : Nat} {X : Option Nat} (hx : Fl .f32 x X) (w : World) : Calls Try.prog 9 #[.float .f32 x] w (RB (finC X) w) := by
  go_enter Try.func9, Try.ntmps9
  go_wp2_with (go_at_call 20; refine (spec_l01Finite hx _).mono ?_; rintro e w' ⟨rfl, n, rfl⟩)
  go_ret
  exact ⟨rfl, _, rfl⟩
set_option maxHeartbeats 400000 in
theorem isFinite_walk (x : Nat) (w : World) (hw : x < 2 ^ FloatKind.f32.format.width) : Calls Try.prog 4 #[.float .f32 x] w fun e w' => e = .returned (.bool true) ∧ Below w.heap.size w w' := by
  have hx := Fl.self hw
  go_enter Try.func4, Try.ntmps4
  go_wp2_with (first | (go_at_call 9; refine (spec_IsFinite hx _).mono ?_; rintro e w' ⟨rfl, n, rfl⟩) | (go_at_call 10; refine (impl_IsFinite hx _).mono ?_; rintro e w' ⟨rfl, m, rfl⟩))
  go_ret
  exact ⟨rfl, below_draws _ _⟩

/-! ### Bits -/
@[go_sem] theorem call_f32bits (x : Nat) (w : World) : (callFunc 23 #[.float .f32 x]).run Try.prog w = .ok (.value (.int .u32 x)) w := by
  rw [run_callFunc_extern (P := Try.prog) (e := Extern.MathFloatBits.float32bits) Try.func23 (by kernel_rfl) (by kernel_rfl) (by kernel_rfl) (by kernel_rfl)]
  rfl
set_option maxHeartbeats 400000 in
theorem spec_l01Bits {x : Nat} {X : Option Nat} (hx : Fl .f32 x X) (w : World) : Calls Try.prog 21 #[.float .f32 x] w (RI .i64 (bitsC X) w) := by
  rcases hx.cases with ⟨rfl, n1⟩ | ⟨rfl, n1⟩
  · have hs := ord_nan n1
    go_enter Try.func21, Try.ntmps21
    go_wp2
    go_ret
    exact ⟨rfl, 0, rfl⟩
  · have hs := ord_num n1
    go_enter Try.func21, Try.ntmps21
    go_wp2
    go_ret
    exact ⟨ret_int (wrap64_word hx.wf), 0, rfl⟩
set_option maxHeartbeats 400000 in
theorem impl_BitsOf {x : Nat} {X : Option Nat} (hx : Fl .f32 x X) (w : World) : Calls Try.prog 17 #[.float .f32 x] w (RI .i64 (bitsC X) w) := by
  rcases hx.cases with ⟨rfl, n1⟩ | ⟨rfl, n1⟩
  · have hs := ord_nan n1
    go_enter Try.func17, Try.ntmps17
    go_wp2
    go_ret
    exact ⟨rfl, 0, rfl⟩
  · have hs := ord_num n1
    go_enter Try.func17, Try.ntmps17
    go_wp2
    go_ret
    exact ⟨ret_int (wrap64_word hx.wf), 0, rfl⟩
set_option maxHeartbeats 400000 in
theorem spec_BitsOf {x : Nat} {X : Option Nat} (hx : Fl .f32 x X) (w : World) : Calls Try.prog 16 #[.float .f32 x] w (RI .i64 (bitsC X) w) := by
  go_enter Try.func16, Try.ntmps16
  go_wp2_with (go_at_call 21; refine (spec_l01Bits hx _).mono ?_; rintro e w' ⟨rfl, n, rfl⟩)
  go_ret
  exact ⟨rfl, _, rfl⟩
set_option maxHeartbeats 400000 in
theorem bitsOf_walk (x : Nat) (w : World) (hw : x < 2 ^ FloatKind.f32.format.width) : Calls Try.prog 7 #[.float .f32 x] w fun e w' => e = .returned (.bool true) ∧ Below w.heap.size w w' := by
  have hx := Fl.self hw
  go_enter Try.func7, Try.ntmps7
  go_wp2_with (first | (go_at_call 16; refine (spec_BitsOf hx _).mono ?_; rintro e w' ⟨rfl, n, rfl⟩) | (go_at_call 17; refine (impl_BitsOf hx _).mono ?_; rintro e w' ⟨rfl, m, rfl⟩))
  go_ret
  exact ⟨rfl, below_draws _ _⟩

/-! ### Same -/
set_option maxHeartbeats 400000 in
theorem spec_l01Same {x y : Nat} {X Y : Option Nat} (hx : Fl .f32 x X) (hy : Fl .f32 y Y) (w : World) : Calls Try.prog 24 #[.float .f32 x, .float .f32 y] w (RB (sameC X Y) w) := by
  go_enter Try.func24, Try.ntmps24
  go_wp2_with fail
  refine (spec_l01Bits hx _).mono ?_; rintro e w' ⟨rfl, n, rfl⟩
  go_wp2_with fail
  refine (spec_l01Bits hy _).mono ?_; rintro e w' ⟨rfl, m, rfl⟩
  go_wp2_with fail
  go_ret
  exact ⟨rfl, _, rfl⟩
set_option maxHeartbeats 400000 in
theorem spec_SameNumber {x y : Nat} {X Y : Option Nat} (hx : Fl .f32 x X) (hy : Fl .f32 y Y) (w : World) : Calls Try.prog 18 #[.float .f32 x, .float .f32 y] w (RB (sameC X Y) w) := by
  go_enter Try.func18, Try.ntmps18
  go_wp2_with (go_at_call 24; refine (spec_l01Same hx hy _).mono ?_; rintro e w' ⟨rfl, n, rfl⟩)
  go_ret
  exact ⟨rfl, _, rfl⟩
set_option maxHeartbeats 400000 in
theorem impl_SameNumber {x y : Nat} {X Y : Option Nat} (hx : Fl .f32 x X) (hy : Fl .f32 y Y) (w : World) : Calls Try.prog 19 #[.float .f32 x, .float .f32 y] w (RB (sameC X Y) w) := by
  rcases hx.cases with ⟨rfl, n1⟩ | ⟨rfl, n1⟩ <;> rcases hy.cases with ⟨rfl, n2⟩ | ⟨rfl, n2⟩
  · have hs := ord_nan n1; have ht := ord_nan n2
    go_enter Try.func19, Try.ntmps19
    go_wp2
    go_ret
    exact ⟨rfl, 0, rfl⟩
  · have hs := ord_nan n1; have ht := ord_num n2
    rw [sameC_none_some n2]
    go_enter Try.func19, Try.ntmps19
    go_wp2
    go_ret
    exact ⟨rfl, 0, rfl⟩
  · have hs := ord_num n1; have ht := ord_nan n2
    rw [sameC_some_none n1]
    go_enter Try.func19, Try.ntmps19
    go_wp2
    go_ret
    exact ⟨rfl, 0, rfl⟩
  · have hs := ord_num n1; have ht := ord_num n2
    go_enter Try.func19, Try.ntmps19
    go_wp2
    go_ret
    exact ⟨rfl, 0, rfl⟩
set_option maxHeartbeats 400000 in
theorem sameNumber_walk (x y : Nat) (w : World) (hw : x < 2 ^ FloatKind.f32.format.width) (hw' : y < 2 ^ FloatKind.f32.format.width) : Calls Try.prog 8 #[.float .f32 x, .float .f32 y] w fun e w' => e = .returned (.bool true) ∧ Below w.heap.size w w' := by
  have hx := Fl.self hw
  have hy := Fl.self hw'
  go_enter Try.func8, Try.ntmps8
  go_wp2_with (first | (go_at_call 18; refine (spec_SameNumber hx hy _).mono ?_; rintro e w' ⟨rfl, n, rfl⟩) | (go_at_call 19; refine (impl_SameNumber hx hy _).mono ?_; rintro e w' ⟨rfl, m, rfl⟩))
  go_ret
  exact ⟨rfl, below_draws _ _⟩

/-! ### Subnormal -/
set_option maxHeartbeats 400000 in
theorem impl_IsSubnormal {x : Nat} {X : Option Nat} (hx : Fl .f32 x X) (w : World) : Calls Try.prog 12 #[.float .f32 x] w (RB (subC X) w) := by
  have h1 := Fl.ord hx (.of_lit (k := .f32) (b := 0) (by decide) (by decide))
  have h2 := Fl.ord hx (.of_lit (k := .f32) (b := 8388608) (by decide) (by decide))
  have h3 := Fl.ord hx (.of_lit (k := .f32) (b := 2155872256) (by decide) (by decide))
  rw [subC_parts hx]
  generalize ford .f32 X (some 0) = o1 at *
  generalize ford .f32 X (some 8388608) = o2 at *
  generalize ford .f32 X (some 2155872256) = o3 at *
  go_enter Try.func12, Try.ntmps12
  go_wp2
  all_goals (go_ret; refine ⟨?_, 0, rfl⟩; simp_all)
set_option maxHeartbeats 400000 in
theorem spec_IsSubnormal {x : Nat} {X : Option Nat} (hx : Fl .f32 x X) (w : World) : Calls Try.prog 11 #[.float .f32 x] w (RB (subC X) w) := by
  have h1 := Fl.ord hx (.of_lit (k := .f32) (b := 0) (by decide) (by decide))
  unfold subC
  generalize ford .f32 X (some 0) = o1 at *
  go_enter Try.func11, Try.ntmps11
  go_wp2_with (go_at_call 21; refine (spec_l01Bits hx _).mono ?_; rintro e w' ⟨rfl, n, rfl⟩)
  all_goals (go_ret; refine ⟨?_, by first | exact ⟨0, rfl⟩ | exact ⟨_, rfl⟩⟩; simp_all)
set_option maxHeartbeats 400000 in
theorem isSubnormal_walk (x : Nat) (w : World) (hw : x < 2 ^ FloatKind.f32.format.width) : Calls Try.prog 5 #[.float .f32 x] w fun e w' => e = .returned (.bool true) ∧ Below w.heap.size w w' := by
  have hx := Fl.self hw
  go_enter Try.func5, Try.ntmps5
  go_wp2_with (first | (go_at_call 11; refine (spec_IsSubnormal hx _).mono ?_; rintro e w' ⟨rfl, n, rfl⟩) | (go_at_call 12; refine (impl_IsSubnormal hx _).mono ?_; rintro e w' ⟨rfl, m, rfl⟩))
  go_ret
  exact ⟨rfl, below_draws _ _⟩
end Go.Proofs.Ytjodoohmlkdlfaa
