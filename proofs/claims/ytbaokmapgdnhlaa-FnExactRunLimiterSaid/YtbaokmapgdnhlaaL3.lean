/- The walks over slices of samples, fourth part: sizes, peaks, clips. Conditions: none beside the contracts' own. -/
import Derived.Test.YtbaokmapgdnhlaaL2
import Derived.Test.YtbaokmapgdnhlaaS1
import Derived.Laws.Unary
set_option linter.unusedVariables false
set_option linter.unusedSimpArgs false
namespace Go.Proofs.Ytbaokmapgdnhlaa
open Go.RowKit

/-! ### The size of a number -/
def absC (X : Option Nat) : Option Nat := X.map fun b => b % 2147483648
theorem isN64_mod {b : Nat} : isN .f64 (b % 9223372036854775808) = isN .f64 b := by
  have key : ∀ b, isN .f64 b = decide (9218868437227405312 < b % 9223372036854775808) := by
    intro b
    by_cases h : 9218868437227405312 < b % 9223372036854775808
    · rw [decide_eq_true h]; exact isN_of_rung (k := .f64) h
    · rw [decide_eq_false h]
      have h1 := Fp.read_finite Ieee.double (b := b)
      cases hn : isN .f64 b with
      | false => rfl
      | true =>
        exfalso
        have h3 : (Ieee.double.read b).isNaN = true := hn
        rcases Nat.eq_or_lt_of_le (Nat.le_of_not_lt h) with h2 | h2
        · rw [Fp.read_inf Ieee.double (by decide) (b := b) h2] at h3; cases h3
        · obtain ⟨m, i, he, _⟩ := h1 h2
          rw [he] at h3; cases h3
  rw [key, key]
  congr 2
  omega
theorem absw_fl {x : Nat} {X : Option Nat} (hx : Fl .f32 x X) (w w' : World) : Fl .f32 (cn (cw x w % 9223372036854775808) w') (absC X) := by
  have hW := (hx.cw w).wf
  rcases hx.cases with ⟨rfl, n1⟩ | ⟨rfl, n1⟩
  · have h1 : isN .f64 (cw x w) = true := (hx.cw w).nan
    have h2 : Fl .f64 (cw x w % 9223372036854775808) none := .of_nan (Nat.lt_of_le_of_lt (Nat.mod_le _ _) hW) (isN64_mod.trans h1)
    exact h2.cn rfl w'
  · obtain ⟨R, h1, h2, h3, _⟩ := wide_of hx.wf n1
    have h4 : cw x w = Ieee.double.word (Fp.neg Ieee.single x) R := by simp [cw, h2]
    have h5 : R < 9223372036854775808 := Nat.lt_of_le_of_lt h1 (by decide)
    have h6 : cw x w % 9223372036854775808 = R := by
      rw [h4]; exact (Fp.rung_word Ieee.double _ h5).1
    rw [h6]
    have h7 := h3 false
    have h8 : floatToFloatBits .f64 R .f32 = Option.some (x % 2147483648) := h7
    have h9 : cn R w' = x % 2147483648 := by simp [cn, h8]
    rw [h9]
    exact .of_lit (f2f_some h8).2 (f2f_some h8).1
set_option maxHeartbeats 400000 in
set_option maxRecDepth 20000 in
theorem impl_absolute {x : Nat} {X : Option Nat} (hx : Fl .f32 x X) (w : World) :
    Calls Try.prog 102 #[.float .f32 x] w (RF .f32 (absC X) w) := by
  have H := Lib.hid (fun w => (hx.cw w).wf)
  go_enter Try.func102, Try.ntmps102
  go_wp2_with (go_at_call 109; refine (math_Abs (H.out _) _).mono ?_; rintro e w' ⟨rfl, rfl⟩)
  go_ret
  exact ⟨_, _, rfl, absw_fl hx _ _, rfl⟩
theorem xor_top {b : Nat} (h : b < 4294967296) : b ^^^ 2147483648 = if b < 2147483648 then b + 2147483648 else b - 2147483648 := by
  have key : ∀ r, r < 2147483648 → r ^^^ 2147483648 = r + 2147483648 := by
    intro r hr
    rw [show (2147483648 : Nat) = 2 ^ 31 from rfl, Nat.add_comm]
    apply Nat.eq_of_testBit_eq
    intro i
    rw [Nat.testBit_xor, Nat.testBit_two_pow]
    rcases Nat.lt_trichotomy i 31 with h1 | h1 | h1
    · rw [Nat.testBit_two_pow_add_gt h1]; simp [show ¬ 31 = i by omega]
    · subst h1; rw [Nat.testBit_two_pow_add_eq]; simp
    · have h2 : 2 ^ 32 ≤ 2 ^ i := Nat.pow_le_pow_right (by decide) h1
      rw [Nat.testBit_lt_two_pow (x := r) (by omega), Nat.testBit_lt_two_pow (x := 2 ^ 31 + r) (by omega)]
      simp [show ¬ 31 = i by omega]
  by_cases hb : b < 2147483648
  · rw [if_pos hb, key b hb]
  · rw [if_neg hb]
    obtain ⟨r, rfl⟩ : ∃ r, b = r + 2147483648 := ⟨b - 2147483648, by omega⟩
    rw [← key r (by omega), Nat.xor_assoc, Nat.xor_self, Nat.xor_zero]
    rw [key r (by omega)]; omega
theorem isN_mod {b : Nat} : isN .f32 b = decide (2139095040 < b % 2147483648) := by
  by_cases h : 2139095040 < b % 2147483648
  · rw [decide_eq_true h]; exact isN_of_rung (k := .f32) h
  · rw [decide_eq_false h]
    have h1 := Fp.read_finite Ieee.single (b := b)
    cases hn : isN .f32 b with
    | false => rfl
    | true =>
      exfalso
      have h3 : (Ieee.single.read b).isNaN = true := hn
      rcases Nat.eq_or_lt_of_le (Nat.le_of_not_lt h) with h2 | h2
      · rw [Fp.read_inf Ieee.single (by decide) (b := b) h2] at h3; cases h3
      · obtain ⟨m, i, he, _⟩ := h1 h2
        rw [he] at h3; cases h3
@[go_sem] theorem unary_negf (k : FloatKind) (b : Nat) : Op.unary .neg (.float k b) = pure (.float k (Op.negFloat k b)) := rfl
def negC (X : Option Nat) : Option Nat := X.map fun b => Op.negFloat .f32 b
theorem negf_eq {b : Nat} (h : b < 4294967296) : Op.negFloat .f32 b = if b < 2147483648 then b + 2147483648 else b - 2147483648 := xor_top h
theorem Fl.negf {b : Nat} {X : Option Nat} (h : Fl .f32 b X) : Fl .f32 (Op.negFloat .f32 b) (negC X) := by
  have hb := lt32 h.wf
  have he := negf_eq hb
  have hw : Op.negFloat .f32 b < 4294967296 := by rw [he]; split <;> omega
  have hn : isN .f32 (Op.negFloat .f32 b) = isN .f32 b := by
    rw [isN_mod, isN_mod, he]
    congr 1
    split
    · rw [show (b + 2147483648) % 2147483648 = b % 2147483648 by omega]
    · rw [show (b - 2147483648) % 2147483648 = b % 2147483648 by omega]
  rcases h.cases with ⟨rfl, n1⟩ | ⟨rfl, n1⟩
  · exact .of_nan hw (hn.trans n1)
  · exact .of_lit hw (hn.trans n1)
/-- The size, as the reference has it: turned where it is below zero or the zero with a sign. -/
theorem size_turned {x : Nat} {X : Option Nat} (hx : Fl .f32 x X) : (if (ford .f32 X (some 0) == some .lt || bitsC X == 2147483648) = true then negC X else X) = absC X := by
  rcases hx.cases with ⟨rfl, n1⟩ | ⟨rfl, n1⟩
  · rfl
  · obtain ⟨h1, h2, h3⟩ := word32 hx.wf n1
    rw [ford32 hx.wf n1 (b := 0) (by decide) (by decide), cmp_lt, h3, show Fp.sr Ieee.single 0 = 0 by decide]
    have hb : (bitsC (Option.some x) == 2147483648) = decide (x = 2147483648) := by
      show ((x : Int) == 2147483648) = _
      rw [Bool.eq_iff_iff]; simp; omega
    rw [hb]
    have hneg := negf_eq h1
    by_cases hs : x < 2147483648
    · rw [if_neg (by simp [hs]; omega)]
      simp only [absC, Option.map_some]; exact congrArg Option.some (by omega)
    · rw [if_pos (by simp [hs]; omega)]
      simp only [absC, negC, Option.map_some, hneg, if_neg hs]; exact congrArg Option.some (by omega)
set_option maxHeartbeats 400000 in
set_option maxRecDepth 20000 in
theorem spec_l04Size {x : Nat} {X : Option Nat} (hx : Fl .f32 x X) (w : World) :
    Calls Try.prog 88 #[.float .f32 x] w (RF .f32 (absC X) w) := by
  have h1 := Fl.ord hx (.of_lit (k := .f32) (b := 0) (by decide) (by decide))
  have hn := hx.negf
  rw [← size_turned hx]
  cases c1 : (ford .f32 X (some 0) == some .lt)
  · have hn' := Lib.hid hn
    clear hn
    cases c2 : (bitsC X == 2147483648) <;> simp only [Bool.false_eq_true, if_true, if_false, Bool.or_true, Bool.true_or, Bool.or_false]
    · go_enter Try.func88, Try.ntmps88
      go_wp2_with fail
      refine (spec_l01Bits hx _).mono ?_
      rintro e w' ⟨rfl, n, rfl⟩
      go_wp2
      go_ret
      exact ⟨_, _, rfl, hx, rfl⟩
    · have c3 := Lib.hid c2
      clear c2
      go_enter Try.func88, Try.ntmps88
      go_wp2_with fail
      refine (spec_l01Bits hx _).mono ?_
      rintro e w' ⟨rfl, n, rfl⟩
      have c2 := c3.out
      go_wp2
      go_ret
      exact ⟨_, _, rfl, hn'.out, rfl⟩
  · simp only [Bool.false_eq_true, if_true, if_false, Bool.or_true, Bool.true_or, Bool.or_false]
    go_enter Try.func88, Try.ntmps88
    go_wp2
    go_ret
    exact ⟨_, 0, rfl, hn, rfl⟩
  skip
  skip

/-! ### Peaks -/
def peakS (p X : Option Nat) : Option Nat := if (ford .f32 (absC X) p == some .gt) = true then absC X else p
def peakT (l : List (Option Nat)) : Option Nat := l.foldl peakS (some 0)
theorem peakT_snoc (l : List (Option Nat)) (X : Option Nat) : peakT (l ++ [X]) = peakS (peakT l) X := by simp [peakT]
theorem i64_abs {b : Nat} (h : b < 4294967296) : bits .andNot .i64 (b : Int) 2147483648 = ((b % 2147483648 : Nat) : Int) := by
  have h1 : (BitVec.ofInt 64 (b : Int) &&& ~~~ BitVec.ofInt 64 2147483648).toNat = b % 2147483648 := by
    rw [BitVec.toNat_and, BitVec.toNat_not, BitVec.ofInt_natCast, BitVec.toNat_ofNat, Nat.mod_eq_of_lt (by omega)]
    rw [show 2 ^ 64 - 1 - (BitVec.ofInt 64 2147483648).toNat = 18446744071562067967 by decide]
    apply Nat.eq_of_testBit_eq
    intro i
    rw [show (2147483648 : Nat) = 2 ^ 31 from rfl, Nat.testBit_mod_two_pow, Nat.testBit_and]
    by_cases hi : i < 31
    · have : (18446744071562067967 : Nat).testBit i = true := by
        have key : ∀ j : Fin 31, (18446744071562067967 : Nat).testBit j.val = true := by decide
        exact key ⟨i, hi⟩
      simp [hi, this]
    · by_cases hi2 : i < 32
      · obtain rfl : i = 31 := by omega
        rw [show (18446744071562067967 : Nat).testBit 31 = false by decide]; simp
      · rw [Nat.testBit_lt_two_pow (x := b) (i := i) (Nat.lt_of_lt_of_le h (Nat.pow_le_pow_right (n := 2) (by decide) (show 32 ≤ i by omega)))]
        simp
  show IntKind.i64.wrap ((BitVec.ofInt 64 (b : Int) &&& ~~~ BitVec.ofInt 64 2147483648).toNat : Int) = _
  rw [h1]
  exact wraps_i64 _ (by omega) (by omega)
theorem abs_lit {x : Nat} {X : Option Nat} (hx : Fl .f32 x X) : ∃ y, y < 4294967296 ∧ bits .andNot .i64 (bitsC X) 2147483648 = ((y : Nat) : Int) ∧ Fl .f32 y (absC X) := by
  rcases hx.cases with ⟨rfl, n1⟩ | ⟨rfl, n1⟩
  · exact ⟨2143289344, by decide, by decide, .of_nan (by decide) (by decide)⟩
  · have hb := lt32 hx.wf
    refine ⟨x % 2147483648, by omega, i64_abs hb, .of_lit (by show _ < 4294967296; omega) ?_⟩
    rw [isN_mod, Nat.mod_mod, ← isN_mod]; exact n1
set_option maxHeartbeats 800000 in
theorem impl_peakOf {A : Option Addr} {n c : Nat} {xs : List Nat} (w : World) (h : Rd w A n xs) (hn : n ≤ 1048576) : Calls Try.prog 91 #[.slice A n c] w (RF .f32 (peakT (clss xs)) w) := by
  go_enter Try.func91, Try.ntmps91
  go_wp2
  go_loopw [3, 9] (fun s i w' => ∃ k m r, k ≤ n ∧ i = .int .i64 (k : Nat) ∧ s = .float .f32 r ∧ Fl .f32 r (peakT ((clss xs).take k)) ∧ w' = w.drewN m) (fun _ i _ => n - (intOf i).toNat)
  case atStart => exact ⟨0, 0, 0, Nat.zero_le _, rfl, rfl, zero_fl, rfl⟩
  case round =>
    obtain ⟨k, m, r, hk, rfl, rfl, hr, rfl⟩ := hrel
    by_cases hlt : k < n
    · obtain ⟨ad, x, X, rfl, hc, hx, _, hX⟩ := h.at_ hlt
      have hst : peakT ((clss xs).take (k + 1)) = peakS (peakT ((clss xs).take k)) X := by rw [clss_snoc hX, peakT_snoc]
      have HS := Lib.hid hst
      clear hst hX h
      go_wp2_with fail
      refine (impl_absolute hx _).mono ?_
      rintro e w' ⟨y, q, rfl, hy, rfl⟩
      have ho := Fl.ord hy hr
      cases ho2 : (ford .f32 (absC X) (peakT ((clss xs).take k)) == some .gt)
      all_goals go_wp2_with fail
      all_goals go_roundw
      all_goals first
        | (case rel => exact ⟨k + 1, _, _, by omega, by go_num, rfl, by rw [HS.out]; unfold peakS; rw [ho2]; assumption, rfl⟩)
        | (case measure => simp [intOf]; omega)
    · go_wp2
      go_ret
      exact ⟨_, _, rfl, by rwa [clss_all h.len hk hlt] at hr, rfl⟩
end Go.Proofs.Ytbaokmapgdnhlaa
