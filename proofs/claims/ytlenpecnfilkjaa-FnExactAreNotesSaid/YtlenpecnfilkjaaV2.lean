/- The walk of the law on valid taps. Conditions: none beside the contracts' own. -/
import Derived.Test.YtlenpecnfilkjaaV1
set_option linter.unusedVariables false
set_option linter.unusedSimpArgs false
namespace Go.Proofs.Ytlenpecnfilkjaa
open Go.RowKit
theorem Row.rdTap {w : World} {A : Option Addr} {n : Nat} {l : List Value} (h : Row w [.i64, .f32] A n l) : ∃ f0 f1, RdTap w A n f0 f1 := by
  have key : ∀ j, j < n → ∃ p : Int × Nat, (∃ ad, A = some ad ∧ w.cell? (ad.add (j * 2)) = some (Value.int .i64 (p.1)) ∧ w.cell? (ad.add (j * 2 + 1)) = some (Value.float .f32 (p.2))) ∧ p.2 < 2 ^ FloatKind.f32.format.width := by
    intro j hj
    obtain ⟨u0, hu0, x0, rfl, hb0⟩ := h.kind j 0 .i64 hj rfl
    obtain ⟨u1, hu1, x1, rfl, hb1⟩ := h.kind j 1 .f32 hj rfl
    obtain ⟨ad0, e0, c0⟩ := h.cell _ _ hu0
    obtain ⟨ad1, e1, c1⟩ := h.cell _ _ hu1
    obtain rfl := Option.some.inj (e0.symm.trans e1)
    exact ⟨(x0, x1), ⟨ad0, e0, by simpa using c0, by simpa using c1⟩, hb1⟩
  obtain ⟨F, hF⟩ := Deep.choose_lt (α := Int × Nat) (n := n) key
  exact ⟨fun j => (F j).1, fun j => (F j).2, h.most, fun j hj => (hF j hj).2, fun j hj => (hF j hj).1⟩
/-- Does it hold of all the first n? -/
def upto (n : Nat) (p : Nat → Bool) : Bool := (List.range n).all p
theorem upto_true {n : Nat} {p : Nat → Bool} (h : ∀ k, k < n → p k = true) : upto n p = true := by
  simp only [upto, List.all_eq_true, List.mem_range]; exact h
theorem upto_false {n k : Nat} {p : Nat → Bool} (hk : k < n) (h : p k = false) : upto n p = false := by
  rw [upto, List.all_eq_false]
  exact ⟨k, List.mem_range.2 hk, by rw [h]; decide⟩
def tapsC (n : Nat) (f : Nat → Int) : Bool := upto n (fun k => inC (f k) 0 64) && decide (n ≤ 8)
set_option maxHeartbeats 800000 in
theorem spec_l03Taps {A : Option Addr} {n c : Nat} {f0 : Nat → Int} {f1 : Nat → Nat} (w : World) (h : RdTap w A n f0 f1) (hn : n ≤ 1048576) : Calls Try.prog 71 #[.slice A n c] w fun e w' => e = .returned (.bool (tapsC n f0)) ∧ w = w' := by
  go_enter Try.func71, Try.ntmps71
  go_wp2
  go_loop [6] (fun i => ∃ k, k ≤ n ∧ i = .int .i64 (k : Nat) ∧ Hid (∀ j, j < k → inC (f0 j) 0 64 = true)) (fun i => n - (intOf i).toNat)
  case atStart => exact ⟨0, Nat.zero_le _, rfl, Lib.hid (fun j hj => by omega)⟩
  case round =>
    obtain ⟨k, hk, rfl, ht⟩ := hrel
    by_cases hlt : k < n
    · obtain ⟨ad, rfl, c0, c1⟩ := h.cell k hlt
      have H := Lib.hid hlt
      clear h
      cases cc : inC (f0 k) 0 64
      · go_wp2_with (go_at_call 58; refine (spec_l00In _).mono ?_; rintro e w' ⟨rfl, rfl⟩)
        go_ret
        exact ⟨by rw [tapsC, upto_false (p := fun k => inC (f0 k) 0 64) H.out cc]; rfl, rfl⟩
      · go_wp2_with (go_at_call 58; refine (spec_l00In _).mono ?_; rintro e w' ⟨rfl, rfl⟩)
        refine ⟨⟨k + 1, by omega, by go_num, Lib.hid (fun j hj => ?_)⟩, by simp [intOf]; omega⟩
        rcases Nat.lt_or_ge j k with h1 | h1
        · exact ht.out j h1
        · obtain rfl : j = k := by omega
          exact cc
    · obtain rfl : k = n := by omega
      have hu := upto_true (p := fun k => inC (f0 k) 0 64) ht.out
      by_cases h8 : k ≤ 8
      all_goals
        go_wp2
        go_ret
        refine ⟨ret_bool ?_, rfl⟩
        rw [tapsC, hu]
        simp
        try omega
set_option maxHeartbeats 800000 in
theorem impl_ValidTaps {A : Option Addr} {n c : Nat} {f0 : Nat → Int} {f1 : Nat → Nat} (w : World) (h : RdTap w A n f0 f1) (hn : n ≤ 1048576) : Calls Try.prog 39 #[.slice A n c] w (RV (.bool (tapsC n f0)) w) := by
  by_cases h8 : 8 < n
  · have h8' : decide (n ≤ 8) = false := by simp; omega
    unfold tapsC
    rw [h8', Bool.and_false]
    go_enter Try.func39, Try.ntmps39
    go_wp2
    go_ret
    exact ⟨rfl, Below.refl _ _⟩
  · have h8' : decide (n ≤ 8) = true := by simp; omega
    unfold tapsC
    rw [h8', Bool.and_true]
    go_enter Try.func39, Try.ntmps39
    go_wp2
    go_loopw [10] (fun i w' => ∃ k, k ≤ n ∧ i = .int .i64 (k : Nat) ∧ Hid (∀ j, j < k → inC (f0 j) 0 64 = true) ∧ Below w.heap.size w w') (fun i _ => n - (intOf i).toNat)
    case atStart => exact ⟨0, Nat.zero_le _, rfl, Lib.hid (fun j hj => by omega), Below.refl _ _⟩
    case round =>
      obtain ⟨k, hk, rfl, ht, hb⟩ := hrel
      have hsz := hb.size
      by_cases hlt : k < n
      · obtain ⟨ad, rfl, c0, c1⟩ := (h.below hb).cell k hlt
        have H := Lib.hid hlt
        clear h
        have d1 := c1
        rw [← add_off ad (k * 2) 1 (by decide)] at d1
        cases cc : inC (f0 k) 0 64
        · go_wp2_with (go_at_call 60; refine (impl_within _).mono ?_; rintro e w' ⟨rfl, rfl⟩)
          go_ret
          exact ⟨by rw [upto_false (p := fun k => inC (f0 k) 0 64) H.out cc]; rfl, hb.alloc hsz _⟩
        · go_wp2_with (go_at_call 60; refine (impl_within _).mono ?_; rintro e w' ⟨rfl, rfl⟩)
          refine ⟨⟨k + 1, by omega, by go_num, Lib.hid (fun j hj => ?_), hb.alloc hsz _⟩, by simp [intOf]; omega⟩
          rcases Nat.lt_or_ge j k with h1 | h1
          · exact ht.out j h1
          · obtain rfl : j = k := by omega
            exact cc
      · obtain rfl : k = n := by omega
        have hu := upto_true (p := fun k => inC (f0 k) 0 64) ht.out
        go_wp2
        go_ret
        exact ⟨by first | rfl | (rw [hu]; rfl), hb⟩
set_option maxHeartbeats 400000 in
theorem spec_ValidTaps {A : Option Addr} {n c : Nat} {f0 : Nat → Int} {f1 : Nat → Nat} (w : World) (h : RdTap w A n f0 f1) (hn : n ≤ 1048576) : Calls Try.prog 37 #[.slice A n c] w fun e w' => e = .returned (.bool (tapsC n f0)) ∧ w = w' := by
  go_enter Try.func37, Try.ntmps37
  go_wp2_with (go_at_call 71; refine (spec_l03Taps _ h hn).mono ?_; rintro e w' ⟨rfl, rfl⟩)
  go_ret
  exact ⟨rfl, rfl⟩
set_option maxHeartbeats 400000 in
theorem laws_szTapS {A : Option Addr} {n c : Nat} {left : Int} (w : World) (hl : 0 ≤ left ∧ left ≤ 1048576) (hn : n ≤ maxLen) : Calls Try.prog 36 #[.slice A n c, .int .i64 left] w fun e w' => e = .returned (.int .i64 (if left < (n : Int) then -1 else left - n)) ∧ w = w' := by
  obtain ⟨h0, h1⟩ := hl
  have hm : n ≤ 9223372036854775807 := by simp only [maxLen] at hn; omega
  by_cases h : left < (n : Int)
  all_goals
    go_enter Try.func36, Try.ntmps36
    go_wp2
    go_ret
    exact ⟨by simp [h], rfl⟩
set_option maxHeartbeats 1600000 in
theorem validTaps_walk (a : Option Addr) (n c : Nat) (l : List Value) (w : World) (wr0 : Row w [.i64, .f32] a n l) : Calls Try.prog 10 #[.slice a n c] w fun e w' => e = .returned (.bool true) ∧ Below w.heap.size w w' := by
  obtain ⟨f0, f1, h⟩ := wr0.rdTap
  have hm := h.most
  rcases Nat.lt_or_ge 1048576 n with hn | hn
  · have hc : ((1048576 : Int) < (n : Int)) := by omega
    go_enter Try.func10, Try.ntmps10
    go_wp2_with fail
    refine (laws_szTapS _ (by omega) hm).mono ?_
    rintro e w' ⟨rfl, rfl⟩
    rw [if_pos (by omega : ((1048576 : Int) < (n : Int)))]
    go_wp2_with fail
    go_ret
    exact ⟨rfl, Below.refl _ _⟩
  have hc : ¬ ((1048576 : Int) < (n : Int)) := by omega
  have hc2 : ¬ ((1048576 : Int) - (n : Int) < 0) := by omega
  have HB0 : Below w.heap.size w w := Below.refl _ _
  have hz0 : w.heap.size ≤ w.heap.size := Nat.le_refl _
  go_enter Try.func10, Try.ntmps10
  go_wp2_with fail
  refine (laws_szTapS _ (by omega) hm).mono ?_
  rintro e w' ⟨rfl, rfl⟩
  rw [if_neg (by omega : ¬ ((1048576 : Int) < (n : Int)))]
  go_wp2_with fail
  refine (laws_toTapS _ (h.below HB0) hn).mono ?_
  rintro e W1 ⟨A1, c1_, rfl, R1, b1⟩
  have HB1 := below_next HB0 hz0 b1
  have hz1 := Nat.le_trans hz0 b1.size
  clear b1
  go_wp2_with fail
  refine (spec_ValidTaps _ R1 hn).mono ?_
  rintro e W9 ⟨rfl, rfl⟩
  go_wp2_with fail
  refine (laws_toTapS _ (h.below HB1) hn).mono ?_
  rintro e W2 ⟨A2, c2_, rfl, R2, b2⟩
  have HB2 := below_next HB1 hz1 b2
  have hz2 := Nat.le_trans hz1 b2.size
  clear b2
  go_wp2_with fail
  refine (impl_ValidTaps _ R2 hn).mono ?_
  rintro e W3 ⟨rfl, b3⟩
  have HB3 := below_next HB2 hz2 b3
  have hz3 := Nat.le_trans hz2 b3.size
  replace R2 := R2.below b3
  clear b3
  go_wp2_with fail
  refine (laws_toTapS _ (h.below HB3) hn).mono ?_
  rintro e W4 ⟨A4, c4_, rfl, R4, b4⟩
  have HB4 := below_next HB3 hz3 b4
  have hz4 := Nat.le_trans hz3 b4.size
  go_wp2_with fail
  refine (laws_eqTapS _ (R2.below b4) R4 hn).mono ?_
  rintro e W9 ⟨rfl, b9⟩
  have HB9 := below_next HB4 hz4 b9
  clear b9
  go_wp2_with fail
  go_ret
  exact ⟨rfl, HB9⟩
end Go.Proofs.Ytlenpecnfilkjaa
