/- The walks of the laws on single numbers, second part: from bits, flushed, next. Conditions: none. -/
import Derived.Test.YtpeflkakljaheaaS
set_option linter.unusedVariables false
set_option linter.unusedSimpArgs false
namespace Go.Proofs.Ytpeflkakljaheaa
open Go.RowKit

def inC (n low high : Int) : Bool := decide (low ≤ n) && decide (n ≤ high)
theorem inC_iff (n low high : Int) : inC n low high = true ↔ low ≤ n ∧ n ≤ high := by simp [inC]
set_option maxHeartbeats 400000 in
set_option maxRecDepth 20000 in
theorem spec_l00In {n low high : Int} (w : World) :
    Calls Try.prog 41 #[.int .i64 n, .int .i64 low, .int .i64 high] w fun e w' => e = .returned (.bool (inC n low high)) ∧ w = w' := by
  unfold inC
  go_enter Try.func41, Try.ntmps41
  go_wp2
  all_goals (go_ret; exact ⟨by simp_all <;> omega, rfl⟩)
set_option maxHeartbeats 400000 in
set_option maxRecDepth 20000 in
theorem impl_within {n low high : Int} (w : World) :
    Calls Try.prog 43 #[.int .i64 n, .int .i64 low, .int .i64 high] w fun e w' => e = .returned (.bool (inC n low high)) ∧ w = w' := by
  unfold inC
  go_enter Try.func43, Try.ntmps43
  go_wp2
  all_goals (go_ret; exact ⟨by simp_all <;> omega, rfl⟩)
set_option maxHeartbeats 400000 in
set_option maxRecDepth 20000 in
theorem spec_l01From {n : Int} (h0 : 0 ≤ n) (h1 : n < 4294967296) (w : World) :
    Calls Try.prog 42 #[.int .i64 n] w fun e w' => e = .returned (.float .f32 n.toNat) ∧ w = w' := by
  go_enter Try.func42, Try.ntmps42
  go_wp2
  all_goals (go_ret; exact ⟨(by first | rfl | exact ret_bool (by simp_all) | exact ret_int (by simp_all) | simp_all), rfl⟩)
theorem lt64 {x : Nat} (h : x < 2 ^ FloatKind.f64.format.width) : x < 18446744073709551616 := h
theorem lt32 {x : Nat} (h : x < 2 ^ FloatKind.f32.format.width) : x < 4294967296 := h
theorem u64_abs {x : Nat} (h : x < 18446744073709551616) : (bits .andNot .u64 (x : Int) 9223372036854775808).toNat = x % 9223372036854775808 := by
  have h2 := u64_andNot_nat x 9223372036854775808 h (by omega)
  rw [show (9223372036854775808 : Int) = ((9223372036854775808 : Nat) : Int) from rfl, h2, Int.toNat_natCast]
  rw [show 18446744073709551615 - 9223372036854775808 = 2 ^ 63 - 1 from rfl, Nat.and_two_pow_sub_one_eq_mod]
theorem u64_sign {y : Nat} (h : y < 18446744073709551616) : bits .and .u64 (y : Int) 9223372036854775808 = ((y / 9223372036854775808 * 9223372036854775808 : Nat) : Int) := by
  have h2 := u64_and_nat y 9223372036854775808 h (by omega)
  rw [show (9223372036854775808 : Int) = ((9223372036854775808 : Nat) : Int) from rfl, h2]
  rw [show (9223372036854775808 : Nat) = 1 * 2 ^ 63 from rfl, and_shift, show (1 : Nat) = 2 ^ 1 - 1 from rfl, Nat.and_two_pow_sub_one_eq_mod]
  congr 2
  omega
theorem u64_copy {x y : Nat} (h : x < 18446744073709551616) (h' : y < 18446744073709551616) :
    (bits .or .u64 (bits .andNot .u64 (x : Int) 9223372036854775808) (bits .and .u64 (y : Int) 9223372036854775808)).toNat = x % 9223372036854775808 + y / 9223372036854775808 * 9223372036854775808 := by
  have h2 := u64_andNot_nat x 9223372036854775808 h (by omega)
  have h3 : bits .andNot .u64 (x : Int) 9223372036854775808 = ((x % 9223372036854775808 : Nat) : Int) := by
    rw [show (9223372036854775808 : Int) = ((9223372036854775808 : Nat) : Int) from rfl, h2, show 18446744073709551615 - 9223372036854775808 = 2 ^ 63 - 1 from rfl, Nat.and_two_pow_sub_one_eq_mod]
  rw [h3, u64_sign h', u64_or_nat _ _ (by omega) (by omega), Int.toNat_natCast, Nat.or_comm]
  have h4 := Nat.two_pow_add_eq_or_of_lt (i := 63) (b := x % 9223372036854775808) (by omega) (y / 9223372036854775808)
  rw [Nat.mul_comm _ (y / 9223372036854775808)] at h4
  rw [show (9223372036854775808 : Nat) = 2 ^ 63 from rfl] at h4 ⊢
  rw [← h4]; omega
theorem ret_float {k : FloatKind} {a b : Nat} (h : a = b) : Ending.returned (.float k a) = .returned (.float k b) := by rw [h]
set_option maxHeartbeats 400000 in
set_option maxRecDepth 20000 in
theorem math_Abs {x : Nat} (h : x < 2 ^ FloatKind.f64.format.width) (w : World) :
    Calls Try.prog 78 #[.float .f64 x] w fun e w' => e = .returned (.float .f64 (x % 9223372036854775808)) ∧ w = w' := by
  go_enter Try.func78, Try.ntmps78
  go_wp2
  go_ret
  exact ⟨ret_float (u64_abs (lt64 h)), rfl⟩
set_option maxHeartbeats 400000 in
set_option maxRecDepth 20000 in
theorem math_Copysign {x y : Nat} (h : x < 2 ^ FloatKind.f64.format.width) (h' : y < 2 ^ FloatKind.f64.format.width) (w : World) :
    Calls Try.prog 47 #[.float .f64 x, .float .f64 y] w fun e w' => e = .returned (.float .f64 (x % 9223372036854775808 + y / 9223372036854775808 * 9223372036854775808)) ∧ w = w' := by
  go_enter Try.func47, Try.ntmps47
  go_wp2
  go_ret
  exact ⟨ret_float (u64_copy (lt64 h) (lt64 h')), rfl⟩

/-! ### From bits -/
def fromC (n : Int) : Option Nat := if inC n 0 4294967295 then cls .f32 n.toNat else some 0
set_option maxHeartbeats 400000 in
set_option maxRecDepth 20000 in
theorem spec_FromBits {n : Int} (w : World) :
    Calls Try.prog 15 #[.int .i64 n] w (RFB (fromC n) (inC n 0 4294967295) w) := by
  unfold fromC
  cases h : inC n 0 4294967295 with
  | true =>
    have h2 := (inC_iff n 0 4294967295).1 h
    go_enter Try.func15, Try.ntmps15
    go_wp2_with (first | (go_at_call 41; refine (spec_l00In _).mono ?_; rintro e w' ⟨rfl, rfl⟩) | (go_at_call 42; refine (spec_l01From (by omega) (by omega) _).mono ?_; rintro e w' ⟨rfl, rfl⟩))
    go_ret2
    exact ⟨_, 0, rfl, Fl.self (by show _ < 4294967296; omega), rfl⟩
  | false =>
    go_enter Try.func15, Try.ntmps15
    go_wp2_with (go_at_call 41; refine (spec_l00In _).mono ?_; rintro e w' ⟨rfl, rfl⟩)
    go_ret2
    exact ⟨_, 0, rfl, .of_lit (by decide) (by decide), rfl⟩
  skip
  skip
set_option maxHeartbeats 400000 in
set_option maxRecDepth 20000 in
theorem impl_FromBits {n : Int} (w : World) :
    Calls Try.prog 16 #[.int .i64 n] w (RFB (fromC n) (inC n 0 4294967295) w) := by
  unfold fromC
  cases h : inC n 0 4294967295 with
  | true =>
    have h2 := (inC_iff n 0 4294967295).1 h
    obtain ⟨h3, h4⟩ := h2
    go_enter Try.func16, Try.ntmps16
    go_wp2_with (go_at_call 43; refine (impl_within _).mono ?_; rintro e w' ⟨rfl, rfl⟩)
    go_ret2
    exact ⟨_, 0, rfl, Fl.self (by show _ < 4294967296; omega), rfl⟩
  | false =>
    go_enter Try.func16, Try.ntmps16
    go_wp2_with (go_at_call 43; refine (impl_within _).mono ?_; rintro e w' ⟨rfl, rfl⟩)
    go_ret2
    exact ⟨_, 0, rfl, .of_lit (by decide) (by decide), rfl⟩
  skip
  skip
set_option maxHeartbeats 400000 in
theorem fromBits_walk (n : Int) (w : World) (hn : (Lit.int .i64 n).wf = true) : Calls Try.prog 3 #[.int .i64 n] w fun e w' => e = .returned (.bool true) ∧ Below w.heap.size w w' := by
  clear hn
  go_enter Try.func3, Try.ntmps3
  go_wp2_with (first
    | (go_at_call 15; refine (spec_FromBits _).mono ?_; rintro e w' ⟨r1, n1, rfl, hr1, rfl⟩)
    | (go_at_call 16; refine (impl_FromBits _).mono ?_; rintro e w' ⟨r2, n2, rfl, hr2, rfl⟩)
    | (go_at_call 17; refine (laws_sameFloat (hr2.cw _) (hr1.cw _) _).mono ?_; rintro e w' ⟨rfl, n3, rfl⟩))
  go_ret
  exact ⟨rfl, below_draws _ _⟩

/-! ### Flushed -/
set_option maxHeartbeats 400000 in
set_option maxRecDepth 20000 in
theorem spec_l01Bits {x : Nat} {X : Option Nat} (hx : Fl .f32 x X) (w : World) :
    Calls Try.prog 68 #[.float .f32 x] w (RI .i64 (bitsC X) w) := by
  rcases hx.cases with ⟨rfl, n1⟩ | ⟨rfl, n1⟩
  · have hs := ord_nan n1
    go_enter Try.func68, Try.ntmps68
    go_wp2
    go_ret
    exact ⟨rfl, 0, rfl⟩
  · have hs := ord_num n1
    go_enter Try.func68, Try.ntmps68
    go_wp2
    go_ret
    exact ⟨ret_int (wrap64_word hx.wf), 0, rfl⟩
  skip
  skip
set_option maxHeartbeats 400000 in
set_option maxRecDepth 20000 in
theorem impl_IsSubnormal {x : Nat} {X : Option Nat} (hx : Fl .f32 x X) (w : World) :
    Calls Try.prog 46 #[.float .f32 x] w (RB (subC X) w) := by
  have h1 := Fl.ord hx (.of_lit (k := .f32) (b := 0) (by decide) (by decide))
  have h2 := Fl.ord hx (.of_lit (k := .f32) (b := 8388608) (by decide) (by decide))
  have h3 := Fl.ord hx (.of_lit (k := .f32) (b := 2155872256) (by decide) (by decide))
  rw [subC_parts hx]
  generalize ford .f32 X (some 0) = o1 at *
  generalize ford .f32 X (some 8388608) = o2 at *
  generalize ford .f32 X (some 2155872256) = o3 at *
  go_enter Try.func46, Try.ntmps46
  go_wp2
  all_goals (go_ret; refine ⟨?_, 0, rfl⟩; simp_all)
def flushC (X : Option Nat) : Option Nat := match X with | none => none | some b => if b / 8388608 % 256 = 0 then some (b / 2147483648 * 2147483648) else some b
theorem sgn32 (b : Nat) (h : b < 4294967296) : Fl .f32 (b / 2147483648 * 2147483648) (Option.some (b / 2147483648 * 2147483648)) := by
  have : b / 2147483648 = 0 ∨ b / 2147483648 = 1 := by omega
  rcases this with h | h <;> rw [h] <;> exact .of_lit (by decide) (by decide)
theorem and_sign (b : Nat) (h : b < 4294967296) : bits .and .i64 (b : Int) 2147483648 = ((b / 2147483648 * 2147483648 : Nat) : Int) := by
  rw [show (2147483648 : Int) = ((2147483648 : Nat) : Int) from rfl, (bits_nat .i64 63 (by decide) wraps_i64 b 2147483648 (by omega) (by omega)).1]
  rw [show (2147483648 : Nat) = 1 * 2 ^ 31 from rfl, and_shift, show (1 : Nat) = 2 ^ 1 - 1 from rfl, Nat.and_two_pow_sub_one_eq_mod]
  congr 2
  omega
theorem flush_yes {x : Nat} {X : Option Nat} (hx : Fl .f32 x X) (h : (bits .and .i64 (bitsC X) 2139095040 == 0) = true) :
    x < 4294967296 ∧ flushC X = Option.some (x / 2147483648 * 2147483648) ∧ bits .and .i64 (bitsC X) 2147483648 = ((x / 2147483648 * 2147483648 : Nat) : Int) := by
  have hb := lt32 hx.wf
  rcases hx.cases with ⟨rfl, n1⟩ | ⟨rfl, n1⟩
  · exact absurd h (by decide)
  · refine ⟨hb, ?_, and_sign x hb⟩
    have e1 := and_exp x hb
    have e2 : bits .and .i64 (bitsC (Option.some x)) 2139095040 = 0 := by simpa using h
    have e3 : bits .and .i64 (x : Int) 2139095040 = 0 := e2
    have h0 : x / 8388608 % 256 = 0 := by omega
    simp only [flushC, h0, if_true]
theorem flush_no {x : Nat} {X : Option Nat} (hx : Fl .f32 x X) (h : (bits .and .i64 (bitsC X) 2139095040 == 0) = false) : flushC X = X := by
  have hb := lt32 hx.wf
  rcases hx.cases with ⟨rfl, n1⟩ | ⟨rfl, n1⟩
  · rfl
  · have e1 := and_exp x hb
    have e2 : bits .and .i64 (bitsC (Option.some x)) 2139095040 ≠ 0 := by simpa using h
    have e3 : bits .and .i64 (x : Int) 2139095040 ≠ 0 := e2
    have h0 : ¬ x / 8388608 % 256 = 0 := by omega
    simp only [flushC, h0, if_false]
theorem sub_iff {x : Nat} {X : Option Nat} (hx : Fl .f32 x X) : flushC X = if subC X then Option.some (x / 2147483648 * 2147483648) else X := by
  have hb := lt32 hx.wf
  cases h : (bits .and .i64 (bitsC X) 2139095040 == 0) with
  | true =>
    obtain ⟨_, h2, _⟩ := flush_yes hx h
    rw [h2]
    cases hs : (ford .f32 X (some 0) != some .eq) with
    | true => simp [subC, h, hs]
    | false =>
      simp only [subC, h, hs, Bool.false_and, Bool.false_eq_true, if_false]
      rcases hx.cases with ⟨rfl, n1⟩ | ⟨rfl, n1⟩
      · exact absurd h (by decide)
      · rw [ford32 hx.wf n1 (b := 0) (by decide) (by decide)] at hs
        have h3 := (word32 hx.wf n1).2.2
        have h4 : (some (compare (Fp.sr Ieee.single x) (Fp.sr Ieee.single 0)) == some Ordering.eq) = true := by simpa [bne] using hs
        rw [cmp_eq, h3, show Fp.sr Ieee.single 0 = 0 by decide] at h4
        congr 1
        have h5 := of_decide_eq_true h4
        split at h5 <;> omega
  | false =>
    rw [flush_no hx h]
    simp [subC, h]
theorem cast_range (x : Nat) (h : x < 4294967296) : (0 : Int) ≤ ((x / 2147483648 * 2147483648 : Nat) : Int) ∧ ((x / 2147483648 * 2147483648 : Nat) : Int) < 4294967296 := by
  have h2 := Nat.div_mul_le_self x 2147483648
  generalize x / 2147483648 * 2147483648 = y at *
  omega
set_option maxHeartbeats 400000 in
set_option maxRecDepth 20000 in
theorem spec_l01Flush {x : Nat} {X : Option Nat} (hx : Fl .f32 x X) (w : World) :
    Calls Try.prog 45 #[.float .f32 x] w (RF .f32 (flushC X) w) := by
  cases h : (bits .and .i64 (bitsC X) 2139095040 == 0) with
  | true =>
    obtain ⟨hb, h1, h2⟩ := flush_yes hx h
    rw [h1]
    have hs := sgn32 x hb
    obtain ⟨c0, c1⟩ := cast_range x hb
    generalize x / 2147483648 * 2147483648 = y at *
    clear hb h1
    go_enter Try.func45, Try.ntmps45
    go_wp2_with (first | (go_at_call 68; refine (spec_l01Bits hx _).mono ?_; rintro e w' ⟨rfl, n, rfl⟩) | (go_at_call 42; refine (spec_l01From c0 c1 _).mono ?_; rintro e w' ⟨rfl, rfl⟩))
    go_ret
    exact ⟨_, _, rfl, hs, rfl⟩
  | false =>
    rw [flush_no hx h]
    go_enter Try.func45, Try.ntmps45
    go_wp2_with (go_at_call 68; refine (spec_l01Bits hx _).mono ?_; rintro e w' ⟨rfl, n, rfl⟩)
    go_ret
    exact ⟨_, _, rfl, hx, rfl⟩
  skip
  skip
set_option maxHeartbeats 400000 in
set_option maxRecDepth 20000 in
theorem spec_FlushNumber {x : Nat} {X : Option Nat} (hx : Fl .f32 x X) (w : World) :
    Calls Try.prog 18 #[.float .f32 x] w (RF .f32 (flushC X) w) := by
  go_enter Try.func18, Try.ntmps18
  go_wp2_with (go_at_call 45; refine (spec_l01Flush (by repeat (first | (with_reducible assumption) | exact Fl.of_lit (by decide) (by decide) | apply Fl.fr | apply Fl.cw | apply Fl.cn)) _).mono ?_; rintro e_ w_ ⟨r_, n_, rfl, hr_, rfl⟩)
  all_goals (go_ret; first | exact ⟨_, _, rfl, (by repeat (first | (with_reducible assumption) | exact Fl.of_lit (by decide) (by decide) | apply Fl.fr | apply Fl.cw | apply Fl.cn)), rfl⟩ | exact ⟨_, 0, rfl, (by repeat (first | (with_reducible assumption) | exact Fl.of_lit (by decide) (by decide) | apply Fl.fr | apply Fl.cw | apply Fl.cn)), rfl⟩)
theorem sign_wide {x : Nat} {X : Option Nat} (hx : Fl .f32 x X) (hs : subC X = true) (w : World) : cw x w < 2 ^ FloatKind.f64.format.width ∧
    floatToFloatBits .f64 (cw x w / 9223372036854775808 * 9223372036854775808) .f32 = Option.some (x / 2147483648 * 2147483648) := by
  refine ⟨(hx.cw w).wf, ?_⟩
  have hb := lt32 hx.wf
  rcases hx.cases with ⟨rfl, n1⟩ | ⟨rfl, n1⟩
  · exact absurd hs (by decide)
  · obtain ⟨R, h1, h2, _⟩ := wide_of hx.wf n1
    have h3 : cw x w = Ieee.double.word (Fp.neg Ieee.single x) R := by simp [cw, h2]
    rw [h3]
    have h4 : Fp.neg Ieee.single x = (x / 2147483648 % 2 == 1) := rfl
    have h5 : R < 9223372036854775808 := Nat.lt_of_le_of_lt h1 (by decide)
    rw [h4]
    have h6 : x / 2147483648 = 0 ∨ x / 2147483648 = 1 := by omega
    rcases h6 with h | h
    · rw [h, show ((0 % 2 == 1) = false) from rfl, show Ieee.double.word false R = R from rfl, Nat.div_eq_of_lt h5]; decide
    · rw [h, show ((1 % 2 == 1) = true) from rfl, show Ieee.double.word true R = 9223372036854775808 + R from rfl, show (9223372036854775808 + R) / 9223372036854775808 = 1 by omega]; decide
theorem cn_of {b r : Nat} (h : floatToFloatBits .f64 b .f32 = Option.some r) (w : World) : cn b w = r := by simp [cn, h]
set_option maxHeartbeats 400000 in
set_option maxRecDepth 20000 in
theorem impl_FlushNumber {x : Nat} {X : Option Nat} (hx : Fl .f32 x X) (w : World) :
    Calls Try.prog 19 #[.float .f32 x] w (RF .f32 (flushC X) w) := by
  rw [sub_iff hx]
  cases h : subC X with
  | true =>
    have h1 := fun w => (sign_wide hx h w).1
    have h2 := fun w w' => cn_of (sign_wide hx h w).2 w'
    have H1 := Lib.hid h1
    have H2 := Lib.hid h2
    have hs := Lib.hid (sgn32 x (lt32 hx.wf))
    clear h1 h2
    go_enter Try.func19, Try.ntmps19
    go_wp2_with (first | (go_at_call 46; refine (impl_IsSubnormal hx _).mono ?_; rintro e w' ⟨rfl, n, rfl⟩) | (go_at_call 47; refine (math_Copysign (by decide) (H1.out _) _).mono ?_; rintro e w' ⟨rfl, rfl⟩))
    go_ret
    exact ⟨_, _, rfl, by rw [H2.out]; exact hs.out, rfl⟩
  | false =>
    go_enter Try.func19, Try.ntmps19
    go_wp2_with (go_at_call 46; refine (impl_IsSubnormal hx _).mono ?_; rintro e w' ⟨rfl, n, rfl⟩)
    go_ret
    exact ⟨_, _, rfl, hx, rfl⟩
  skip
  skip
set_option maxHeartbeats 400000 in
theorem flushNumber_walk (x : Nat) (w : World) (hw : x < 2 ^ FloatKind.f32.format.width) : Calls Try.prog 4 #[.float .f32 x] w fun e w' => e = .returned (.bool true) ∧ Below w.heap.size w w' := by
  have hx := Fl.self hw
  go_enter Try.func4, Try.ntmps4
  go_wp2_with (first
    | (go_at_call 18; refine (spec_FlushNumber hx _).mono ?_; rintro e w' ⟨r1, n1, rfl, hr1, rfl⟩)
    | (go_at_call 19; refine (impl_FlushNumber hx _).mono ?_; rintro e w' ⟨r2, n2, rfl, hr2, rfl⟩)
    | (go_at_call 17; refine (laws_sameFloat (hr2.cw _) (hr1.cw _) _).mono ?_; rintro e w' ⟨rfl, n3, rfl⟩))
  go_ret
  exact ⟨rfl, below_draws _ _⟩

end Go.Proofs.Ytpeflkakljaheaa
