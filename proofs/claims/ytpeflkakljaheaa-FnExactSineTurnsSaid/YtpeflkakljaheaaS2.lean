/- The walks of the laws on single numbers, third part: the next number, bent samples, levels of filters. Conditions: none. -/
import Derived.Test.YtpeflkakljaheaaS1
import Derived.Laws.Unary
set_option linter.unusedVariables false
set_option linter.unusedSimpArgs false
namespace Go.Proofs.Ytpeflkakljaheaa
open Go.RowKit

/-! ### The opposite -/
theorem xor_top {b : Nat} (h : b < 4294967296) : b ^^^ 2147483648 = if b < 2147483648 then b + 2147483648 else b - 2147483648 := by
  have key : ∀ r, r < 2147483648 → r ^^^ 2147483648 = r + 2147483648 := by
    intro r hr
    rw [show (2147483648 : Nat) = 2 ^ 31 from rfl, Nat.add_comm]
    apply Nat.eq_of_testBit_eq
    intro i
    rw [Nat.testBit_xor, Nat.testBit_two_pow]
    rcases Nat.lt_trichotomy i 31 with h1 | h1 | h1
    · rw [Nat.testBit_two_pow_add_gt h1]; simp [show ¬ 31 = i by omega]
    · subst h1; rw [Nat.testBit_two_pow_add_eq]; simp
    · have h2 : 2 ^ 32 ≤ 2 ^ i := Nat.pow_le_pow_right (by decide) h1
      rw [Nat.testBit_lt_two_pow (x := r) (by omega), Nat.testBit_lt_two_pow (x := 2 ^ 31 + r) (by omega)]
      simp [show ¬ 31 = i by omega]
  by_cases hb : b < 2147483648
  · rw [if_pos hb, key b hb]
  · rw [if_neg hb]
    obtain ⟨r, rfl⟩ : ∃ r, b = r + 2147483648 := ⟨b - 2147483648, by omega⟩
    rw [← key r (by omega), Nat.xor_assoc, Nat.xor_self, Nat.xor_zero]
    rw [key r (by omega)]; omega
theorem isN_mod {b : Nat} : isN .f32 b = decide (2139095040 < b % 2147483648) := by
  by_cases h : 2139095040 < b % 2147483648
  · rw [decide_eq_true h]; exact isN_of_rung (k := .f32) h
  · rw [decide_eq_false h]
    have h1 := Fp.read_finite Ieee.single (b := b)
    cases hn : isN .f32 b with
    | false => rfl
    | true =>
      exfalso
      have h3 : (Ieee.single.read b).isNaN = true := hn
      rcases Nat.eq_or_lt_of_le (Nat.le_of_not_lt h) with h2 | h2
      · rw [Fp.read_inf Ieee.single (by decide) (b := b) h2] at h3; cases h3
      · obtain ⟨m, i, he, _⟩ := h1 h2
        rw [he] at h3; cases h3
@[go_sem] theorem unary_negf (k : FloatKind) (b : Nat) : Op.unary .neg (.float k b) = pure (.float k (Op.negFloat k b)) := rfl
def negC (X : Option Nat) : Option Nat := X.map fun b => Op.negFloat .f32 b
theorem negf_eq {b : Nat} (h : b < 4294967296) : Op.negFloat .f32 b = if b < 2147483648 then b + 2147483648 else b - 2147483648 := xor_top h
theorem Fl.negf {b : Nat} {X : Option Nat} (h : Fl .f32 b X) : Fl .f32 (Op.negFloat .f32 b) (negC X) := by
  have hb := lt32 h.wf
  have he := negf_eq hb
  have hw : Op.negFloat .f32 b < 4294967296 := by rw [he]; split <;> omega
  have hn : isN .f32 (Op.negFloat .f32 b) = isN .f32 b := by
    rw [isN_mod, isN_mod, he]
    congr 1
    split
    · rw [show (b + 2147483648) % 2147483648 = b % 2147483648 by omega]
    · rw [show (b - 2147483648) % 2147483648 = b % 2147483648 by omega]
  rcases h.cases with ⟨rfl, n1⟩ | ⟨rfl, n1⟩
  · exact .of_nan hw (hn.trans n1)
  · exact .of_lit hw (hn.trans n1)

/-! ### The next number -/
def nextC (X : Option Nat) : Option Nat := match X with
  | none => none
  | some b => if b = 2139095040 then some b else if b % 2147483648 = 0 then some 1 else if b < 2147483648 then some (b + 1) else some (b - 1)
theorem next_facts {b : Nat} (hw : b < 2 ^ FloatKind.f32.format.width) (hn : isN .f32 b = false) :
    FloatKind.f32.format.order b 0 = some (compare (if b < 2147483648 then (b : Int) else 2147483648 - (b : Int)) 0) ∧
    FloatKind.f32.format.order b 2139095040 = some (compare (if b < 2147483648 then (b : Int) else 2147483648 - (b : Int)) 2139095040) ∧
    FloatKind.f32.format.order 2139095040 b = some (compare 2139095040 (if b < 2147483648 then (b : Int) else 2147483648 - (b : Int))) := by
  have h3 := (word32 hw hn).2.2
  refine ⟨?_, ?_, ?_⟩
  · have := ford32 hw hn (b := 0) (by decide) (by decide)
    rw [h3, show Fp.sr Ieee.single 0 = 0 by decide] at this; exact this
  · have := ford32 hw hn (b := 2139095040) (by decide) (by decide)
    rw [h3, show Fp.sr Ieee.single 2139095040 = 2139095040 by decide] at this; exact this
  · have := ford32 (a := 2139095040) (by decide) (by decide) hw hn
    rw [h3, show Fp.sr Ieee.single 2139095040 = 2139095040 by decide] at this; exact this
theorem cmp_is_lt {x y : Int} (h : x < y) : compare x y = .lt := Int.compare_eq_lt.2 h
theorem cmp_is_gt {x y : Int} (h : y < x) : compare x y = .gt := Int.compare_eq_gt.2 h
theorem cmp_is_eq {x y : Int} (h : x = y) : compare x y = .eq := by subst h; simp
theorem lit_num {b : Nat} (h : b % 2147483648 ≤ 2139095040) (hw : b < 4294967296) : Fl .f32 b (Option.some b) := .of_lit hw (by rw [isN_mod]; exact decide_eq_false (by omega))
theorem wide_ord {x : Nat} {X : Option Nat} (hx : Fl .f32 x X) (w : World) : FloatKind.f64.format.order (cw x w) (cw x w) = if isN .f32 x then none else some .eq := by
  have h := hx.cw w
  rcases hx.cases with ⟨rfl, n1⟩ | ⟨rfl, n1⟩
  · rw [n1, ord_nan h.nan]; rfl
  · rw [n1]
    obtain ⟨R, h1, h2, _⟩ := wide_of hx.wf n1
    have h3 : isN .f64 (cw x w) = false := by
      have : cw x w = Ieee.double.word (Fp.neg Ieee.single x) R := by simp [cw, h2]
      rw [this]; exact not_nan64 h1
    rw [ord_num h3]; rfl
theorem nan_lit (w : World) : Fl .f32 (cn 9221120237041090561 w) none := Fl.cn (X := none) (.of_nan (by decide) (by decide)) rfl w
theorem cw_one (w : World) : cw 1 w = 3936146074321813504 := by
  have h : floatToFloatBits .f32 1 .f64 = Option.some 3936146074321813504 := by decide
  simp [cw, h]
theorem cw_inf (w : World) : cw 2139095040 w = 9218868437227405312 := by
  have h : floatToFloatBits .f32 2139095040 .f64 = Option.some 9218868437227405312 := by decide
  simp [cw, h]
theorem cn_one (w : World) : cn 3936146074321813504 w = 1 := cn_of (by decide) w
theorem next_zero : (bits .or .u64 (bits .andNot .u64 ((3936146074321813504 : Nat) : Int) 9223372036854775808) (bits .and .u64 ((9218868437227405312 : Nat) : Int) 9223372036854775808)).toNat = 3936146074321813504 := by decide
set_option maxHeartbeats 800000 in
theorem math_Nextafter32 {x : Nat} {X : Option Nat} (hx : Fl .f32 x X) (w : World) : Calls Try.prog 49 #[.float .f32 x, .float .f32 2139095040] w (RF .f32 (nextC X) w) := by
  have hy := fun w => wide_ord (.of_lit (k := .f32) (b := 2139095040) (by decide) (by decide)) w
  have hx1 := fun w => wide_ord hx w
  simp only [show isN .f32 2139095040 = false by decide, Bool.false_eq_true, if_false] at hy
  rcases hx.cases with ⟨rfl, n1⟩ | ⟨rfl, n1⟩
  · simp only [n1, if_true] at hx1
    go_enter Try.func49, Try.ntmps49
    go_wp2
    go_ret
    exact ⟨_, _, rfl, nan_lit _, rfl⟩
  · simp only [n1, Bool.false_eq_true, if_false] at hx1
    obtain ⟨h1, h2, h3⟩ := next_facts hx.wf n1
    have hb := lt32 hx.wf
    have hm : x % 2147483648 ≤ 2139095040 := (word32 hx.wf n1).2.1
    by_cases c1 : x = 2139095040
    · subst c1
      rw [show nextC (Option.some 2139095040) = Option.some 2139095040 by decide]
      have h4 : FloatKind.f32.format.order 2139095040 2139095040 = some .eq := by decide
      clear h1 h2 h3
      go_enter Try.func49, Try.ntmps49
      go_wp2
      go_ret
      exact ⟨_, _, rfl, hx, rfl⟩
    by_cases c2 : x % 2147483648 = 0
    · rw [show nextC (Option.some x) = Option.some 1 by simp [nextC, c1, c2]]
      rw [cmp_is_eq (by split <;> omega)] at h1
      rw [cmp_is_lt (by split <;> omega)] at h2
      clear h3 c1 c2 hm n1 hx hb
      go_enter Try.func49, Try.ntmps49
      go_wp2
      go_ret
      exact ⟨_, _, rfl, by rw [cw_one, cw_inf, next_zero, cn_one]; exact lit_num (by decide) (by decide), rfl⟩
    by_cases c3 : x < 2147483648
    · rw [show nextC (Option.some x) = Option.some (x + 1) by simp [nextC, c1, c2, c3]]
      rw [cmp_is_gt (by split <;> omega)] at h1 h3
      rw [cmp_is_lt (by split <;> omega)] at h2
      have hl := Lib.hid (lit_num (b := x + 1) (by omega) (by omega))
      clear c1 c2 hm n1 hx
      go_enter Try.func49, Try.ntmps49
      go_wp2
      go_ret
      exact ⟨_, _, rfl, hl.out, rfl⟩
    · rw [show nextC (Option.some x) = Option.some (x - 1) by simp [nextC, c1, c2, c3]]
      rw [cmp_is_lt (by split <;> omega)] at h1 h2
      rw [cmp_is_gt (by split <;> omega)] at h3
      have hl := Lib.hid (lit_num (b := x - 1) (by omega) (by omega))
      have h5 : 1 ≤ x := by omega
      clear c1 c2 c3 hm n1 hx
      go_enter Try.func49, Try.ntmps49
      go_wp2
      go_ret
      exact ⟨_, _, rfl, hl.out, rfl⟩
set_option maxHeartbeats 800000 in
set_option maxRecDepth 20000 in
theorem spec_l01Next {x : Nat} {X : Option Nat} (hx : Fl .f32 x X) (w : World) :
    Calls Try.prog 48 #[.float .f32 x] w (RF .f32 (nextC X) w) := by
  rcases hx.cases with ⟨rfl, n1⟩ | ⟨rfl, n1⟩
  · have hs := ord_nan n1
    go_enter Try.func48, Try.ntmps48
    go_wp2_with (go_at_call 68; refine (spec_l01Bits hx _).mono ?_; rintro e w' ⟨rfl, n, rfl⟩)
    go_ret
    exact ⟨_, _, rfl, hx, rfl⟩
  · obtain ⟨h1, h2, h3⟩ := next_facts hx.wf n1
    have hs := ord_num n1
    have hb := lt32 hx.wf
    have hm : x % 2147483648 ≤ 2139095040 := (word32 hx.wf n1).2.1
    have hbits : bitsC (Option.some x) = (x : Int) := rfl
    by_cases c1 : x = 2139095040
    · subst c1
      rw [show nextC (Option.some 2139095040) = Option.some 2139095040 by decide]
      clear h1 h2 h3
      go_enter Try.func48, Try.ntmps48
      go_wp2_with (go_at_call 68; refine (spec_l01Bits hx _).mono ?_; rintro e w' ⟨rfl, n, rfl⟩)
      go_ret
      exact ⟨_, _, rfl, hx, rfl⟩
    have c1' : ((x : Int) == 2139095040) = false := by rw [beq_eq_false_iff_ne]; omega
    by_cases c2 : x % 2147483648 = 0
    · rw [show nextC (Option.some x) = Option.some 1 by simp [nextC, c1, c2]]
      rw [cmp_is_eq (by split <;> omega)] at h1
      clear h3 h2 c1 c2 hm n1
      go_enter Try.func48, Try.ntmps48
      go_wp2_with (first | (go_at_call 68; refine (spec_l01Bits hx _).mono ?_; rintro e w' ⟨rfl, n, rfl⟩) | (go_at_call 42; refine (spec_l01From (by decide) (by decide) _).mono ?_; rintro e w' ⟨rfl, rfl⟩))
      go_ret
      exact ⟨_, _, rfl, lit_num (by decide) (by decide), rfl⟩
    by_cases c3 : x < 2147483648
    · rw [show nextC (Option.some x) = Option.some (x + 1) by simp [nextC, c1, c2, c3]]
      rw [cmp_is_gt (by split <;> omega)] at h1
      have hl := Lib.hid (lit_num (b := x + 1) (by omega) (by omega))
      clear h3 h2 c1 c2 hm n1
      go_enter Try.func48, Try.ntmps48
      go_wp2_with (first | (go_at_call 68; refine (spec_l01Bits hx _).mono ?_; rintro e w' ⟨rfl, n, rfl⟩) | (go_at_call 42; refine (spec_l01From (by omega) (by omega) _).mono ?_; rintro e w' ⟨rfl, rfl⟩))
      go_ret
      exact ⟨_, _, rfl, hl.out, rfl⟩
    · rw [show nextC (Option.some x) = Option.some (x - 1) by simp [nextC, c1, c2, c3]]
      rw [cmp_is_lt (by split <;> omega)] at h1
      have hl := Lib.hid (lit_num (b := x - 1) (by omega) (by omega))
      have h5 : 1 ≤ x := by omega
      clear h3 h2 c1 c2 c3 hm n1
      go_enter Try.func48, Try.ntmps48
      go_wp2_with (first | (go_at_call 68; refine (spec_l01Bits hx _).mono ?_; rintro e w' ⟨rfl, n, rfl⟩) | (go_at_call 42; refine (spec_l01From (by omega) (by omega) _).mono ?_; rintro e w' ⟨rfl, rfl⟩))
      go_ret
      exact ⟨_, _, rfl, by have := hl.out; simpa using this, rfl⟩
  skip
  skip
set_option maxHeartbeats 400000 in
set_option maxRecDepth 20000 in
theorem spec_NextUp {x : Nat} {X : Option Nat} (hx : Fl .f32 x X) (w : World) :
    Calls Try.prog 20 #[.float .f32 x] w (RF .f32 (nextC X) w) := by
  go_enter Try.func20, Try.ntmps20
  go_wp2_with (go_at_call 48; refine (spec_l01Next (by repeat (first | (with_reducible assumption) | exact Fl.of_lit (by decide) (by decide) | apply Fl.fr | apply Fl.cw | apply Fl.cn)) _).mono ?_; rintro e_ w_ ⟨r_, n_, rfl, hr_, rfl⟩)
  all_goals (go_ret; first | exact ⟨_, _, rfl, (by repeat (first | (with_reducible assumption) | exact Fl.of_lit (by decide) (by decide) | apply Fl.fr | apply Fl.cw | apply Fl.cn)), rfl⟩ | exact ⟨_, 0, rfl, (by repeat (first | (with_reducible assumption) | exact Fl.of_lit (by decide) (by decide) | apply Fl.fr | apply Fl.cw | apply Fl.cn)), rfl⟩)
theorem fits_inf : fits (Option.some 9218868437227405312) = true ∧ cn 9218868437227405312 = fun _ => 2139095040 := by
  have h : floatToFloatBits .f64 9218868437227405312 .f32 = Option.some 2139095040 := by decide
  exact ⟨by simp [fits, h], funext fun w => cn_of h w⟩
set_option maxHeartbeats 400000 in
set_option maxRecDepth 20000 in
theorem math_Inf  (w : World) :
    Calls Try.prog 50 #[.int .i64 1] w fun e w' => e = .returned (.float .f64 9218868437227405312) ∧ w = w' := by
  go_enter Try.func50, Try.ntmps50
  go_wp2
  all_goals (go_ret; exact ⟨(by first | rfl | exact ret_bool (by simp_all) | exact ret_int (by simp_all) | simp_all), rfl⟩)
set_option maxHeartbeats 400000 in
set_option maxRecDepth 20000 in
theorem impl_NextUp {x : Nat} {X : Option Nat} (hx : Fl .f32 x X) (w : World) :
    Calls Try.prog 21 #[.float .f32 x] w (RF .f32 (nextC X) w) := by
  have hi := fits_inf.2
  go_enter Try.func21, Try.ntmps21
  go_wp2_with (first
    | (go_at_call 49; refine (math_Nextafter32 hx _).mono ?_; rintro e w' ⟨r1, n1, rfl, hr1, rfl⟩)
    | (go_at_call 50; refine (math_Inf _).mono ?_; rintro e_ w_ ⟨rfl, rfl⟩))
  all_goals (go_ret; first | exact ⟨_, _, rfl, (by repeat (first | (with_reducible assumption) | exact Fl.of_lit (by decide) (by decide) | apply Fl.fr | apply Fl.cw | apply Fl.cn)), rfl⟩ | exact ⟨_, 0, rfl, (by repeat (first | (with_reducible assumption) | exact Fl.of_lit (by decide) (by decide) | apply Fl.fr | apply Fl.cw | apply Fl.cn)), rfl⟩)
set_option maxHeartbeats 400000 in
theorem nextUp_walk (x : Nat) (w : World) (hw : x < 2 ^ FloatKind.f32.format.width) : Calls Try.prog 5 #[.float .f32 x] w fun e w' => e = .returned (.bool true) ∧ Below w.heap.size w w' := by
  have hx := Fl.self hw
  go_enter Try.func5, Try.ntmps5
  go_wp2_with (first
    | (go_at_call 20; refine (spec_NextUp hx _).mono ?_; rintro e w' ⟨r1, n1, rfl, hr1, rfl⟩)
    | (go_at_call 21; refine (impl_NextUp hx _).mono ?_; rintro e w' ⟨r2, n2, rfl, hr2, rfl⟩)
    | (go_at_call 17; refine (laws_sameFloat (hr2.cw _) (hr1.cw _) _).mono ?_; rintro e w' ⟨rfl, n3, rfl⟩))
  go_ret
  exact ⟨rfl, below_draws _ _⟩

set_option maxHeartbeats 400000 in
set_option maxRecDepth 20000 in
theorem spec_NextDown {x : Nat} {X : Option Nat} (hx : Fl .f32 x X) (w : World) :
    Calls Try.prog 22 #[.float .f32 x] w (RF .f32 (negC (nextC (negC X))) w) := by
  have hn := hx.negf
  go_enter Try.func22, Try.ntmps22
  go_wp2_with (go_at_call 48; refine (spec_l01Next hn _).mono ?_; rintro e w' ⟨r1, n1, rfl, hr1, rfl⟩)
  go_ret
  exact ⟨_, _, rfl, hr1.negf, rfl⟩
set_option maxHeartbeats 400000 in
set_option maxRecDepth 20000 in
theorem impl_NextDown {x : Nat} {X : Option Nat} (hx : Fl .f32 x X) (w : World) :
    Calls Try.prog 23 #[.float .f32 x] w (RF .f32 (negC (nextC (negC X))) w) := by
  have hn := hx.negf
  go_enter Try.func23, Try.ntmps23
  go_wp2_with (go_at_call 21; refine (impl_NextUp hn _).mono ?_; rintro e w' ⟨r1, n1, rfl, hr1, rfl⟩)
  go_ret
  exact ⟨_, _, rfl, hr1.negf, rfl⟩
set_option maxHeartbeats 400000 in
theorem nextDown_walk (x : Nat) (w : World) (hw : x < 2 ^ FloatKind.f32.format.width) : Calls Try.prog 6 #[.float .f32 x] w fun e w' => e = .returned (.bool true) ∧ Below w.heap.size w w' := by
  have hx := Fl.self hw
  go_enter Try.func6, Try.ntmps6
  go_wp2_with (first
    | (go_at_call 22; refine (spec_NextDown hx _).mono ?_; rintro e w' ⟨r1, n1, rfl, hr1, rfl⟩)
    | (go_at_call 23; refine (impl_NextDown hx _).mono ?_; rintro e w' ⟨r2, n2, rfl, hr2, rfl⟩)
    | (go_at_call 17; refine (laws_sameFloat (hr2.cw _) (hr1.cw _) _).mono ?_; rintro e w' ⟨rfl, n3, rfl⟩))
  go_ret
  exact ⟨rfl, below_draws _ _⟩

end Go.Proofs.Ytpeflkakljaheaa
