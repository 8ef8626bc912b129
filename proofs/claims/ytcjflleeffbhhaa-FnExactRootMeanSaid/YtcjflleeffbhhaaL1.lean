/- The walks over slices of samples, second part: sums and products of samples. Conditions: none beside the contracts' own. -/
import Derived.Test.YtcjflleeffbhhaaL
set_option linter.unusedVariables false
set_option linter.unusedSimpArgs false
namespace Go.Proofs.Ytcjflleeffbhhaa
open Go.RowKit

def few (n : Nat) : Bool := decide (n ≤ 256)
set_option maxHeartbeats 400000 in
theorem spec_l01Few {A : Option Addr} {n c : Nat} (hn : n ≤ 1048576) (w : World) :
    Calls Try.prog 47 #[.slice A n c] w fun e w' => e = .returned (.bool (few n)) ∧ w = w' := by
  unfold few
  go_enter Try.func47, Try.ntmps47
  go_wp2
  all_goals (go_ret; exact ⟨ret_bool (by simp; omega), rfl⟩)
set_option maxHeartbeats 400000 in
theorem impl_areSamples {A : Option Addr} {n c : Nat} (hn : n ≤ 1048576) (w : World) :
    Calls Try.prog 49 #[.slice A n c] w fun e w' => e = .returned (.bool (few n)) ∧ w = w' := by
  unfold few
  go_enter Try.func49, Try.ntmps49
  go_wp2
  all_goals (go_ret; exact ⟨ret_bool (by simp; omega), rfl⟩)
/-- A float and a bool, and below the heap that was there nothing has changed. -/
def RFBM (X : Option Nat) (b : Bool) (w : World) (e : Ending) (w' : World) : Prop := ∃ r, e = .returned (.tuple #[.float .f32 r, .bool b]) ∧ Fl .f32 r X ∧ Below w.heap.size w w'
/-- A new slice and a bool. -/
def RSB (Zs : List (Option Nat)) (b : Bool) (w : World) (e : Ending) (w' : World) : Prop := ∃ v zs, e = .returned (.tuple #[v, .bool b]) ∧ Of w' w.heap.size v zs ∧ clss zs = Zs ∧ zs.length ≤ 1048576 ∧ Below w.heap.size w w'
theorem zero_fl : Fl .f32 0 (some 0) := .of_lit (by decide) (by decide)
def sumNC (n : Nat) (X : List (Option Nat)) : Option Nat := if few n = true then sumC X else some 0
set_option maxHeartbeats 400000 in
theorem spec_SumNumbers {A : Option Addr} {n c : Nat} {xs : List Nat} (w : World) (h : Rd w A n xs) (hn : n ≤ 1048576) : Calls Try.prog 15 #[.slice A n c] w (RFBM (sumNC n (clss xs)) (few n) w) := by
  unfold sumNC
  cases hf : few n <;> simp only [Bool.false_eq_true, if_true, if_false]
  · go_enter Try.func15, Try.ntmps15
    go_wp2_with (go_at_call 47; refine (spec_l01Few hn _).mono ?_; rintro e w' ⟨rfl, rfl⟩)
    go_ret2
    exact ⟨_, rfl, zero_fl, Below.refl _ _⟩
  · go_enter Try.func15, Try.ntmps15
    go_wp2_with (first | (go_at_call 47; refine (spec_l01Few hn _).mono ?_; rintro e w' ⟨rfl, rfl⟩) | (go_at_call 48; refine (spec_l01Sum _ h (by omega)).mono ?_; rintro e w' ⟨r, m, rfl, hr, rfl⟩))
    go_ret2
    exact ⟨_, rfl, hr, below_draws _ _⟩
set_option maxHeartbeats 400000 in
theorem impl_SumNumbers {A : Option Addr} {n c : Nat} {xs : List Nat} (w : World) (h : Rd w A n xs) (hn : n ≤ 1048576) : Calls Try.prog 17 #[.slice A n c] w (RFBM (sumNC n (clss xs)) (few n) w) := by
  unfold sumNC
  cases hf : few n <;> simp only [Bool.false_eq_true, if_true, if_false]
  · go_enter Try.func17, Try.ntmps17
    go_wp2_with (go_at_call 49; refine (impl_areSamples hn _).mono ?_; rintro e w' ⟨rfl, rfl⟩)
    go_ret2
    exact ⟨_, rfl, zero_fl, Below.refl _ _⟩
  · go_enter Try.func17, Try.ntmps17
    go_wp2_with (first | (go_at_call 49; refine (impl_areSamples hn _).mono ?_; rintro e w' ⟨rfl, rfl⟩) | (go_at_call 50; refine (impl_sumOf _ h (by omega)).mono ?_; rintro e w' ⟨r, m, rfl, hr, rfl⟩))
    go_ret2
    exact ⟨_, rfl, hr, below_draws _ _⟩
set_option maxHeartbeats 4000000 in
set_option maxRecDepth 100000 in
theorem sumNumbers_walk (a0 : Option Addr) (n0 c0 : Nat) (l0 : List Value) (w : World) (w0 : Row w [.f32] a0 n0 l0) :
    Calls Try.prog 3 #[.slice a0 n0 c0] w fun e w' => e = .returned (.bool true) ∧ Below w.heap.size w w' := by
  obtain ⟨x0, h0⟩ := w0.rd
  rcases Nat.lt_or_ge 1048576 n0 with hn0 | hn0
  · go_enter Try.func3, Try.ntmps3
    go_wp2_with fail
    go_ret
    exact ⟨rfl, Below.refl _ _⟩
  have hl0 := h0.len
  have HL0 := Lib.hid hl0; clear hl0
  have HB0 : Below w.heap.size w w := Below.refl _ _
  have hz0 : w.heap.size ≤ w.heap.size := Nat.le_refl _
  go_enter Try.func3, Try.ntmps3
  go_wp2_with fail
  refine (laws_toFloat32S _ (h0.below HB0) hn0).mono ?_
  rintro e_ W1 ⟨v1, rfl, HO1, hb1⟩
  obtain ⟨A1, c_1, rfl⟩ := HO1.shape_n HL0.out
  have hs1 : w.heap.size ≤ W1.heap.size := hb1.size
  have HB1 := below_next HB0 hz0 hb1
  have hz1 : w.heap.size ≤ W1.heap.size := Nat.le_trans hz0 hs1
  have ltA1 := HO1.lt
  have geA1 := HO1.base
  clear hb1
  go_wp2_with fail
  refine (spec_SumNumbers _ (HO1.rd HL0.out) hn0).mono ?_
  rintro e_ W2 ⟨rw0, rfl, hrw0, hb2⟩
  have hs2 : W1.heap.size ≤ W2.heap.size := hb2.size
  have HB2 := below_next HB1 hz1 hb2
  have hz2 : w.heap.size ≤ W2.heap.size := Nat.le_trans hz1 hs2
  replace HO1 := HO1.below hb2
  clear hb2
  go_wp2_with fail
  refine (laws_toFloat32S _ (h0.below HB2) hn0).mono ?_
  rintro e_ W3 ⟨v2, rfl, HO2, hb3⟩
  obtain ⟨A2, c_2, rfl⟩ := HO2.shape_n HL0.out
  have hs3 : W2.heap.size ≤ W3.heap.size := hb3.size
  have HB3 := below_next HB2 hz2 hb3
  have hz3 : w.heap.size ≤ W3.heap.size := Nat.le_trans hz2 hs3
  replace HO1 := HO1.below hb3
  have ltA2 := HO2.lt
  have geA2 := HO2.base
  clear hb3
  go_wp2_with fail
  refine (impl_SumNumbers _ (HO2.rd HL0.out) hn0).mono ?_
  rintro e_ W4 ⟨rg0, rfl, hrg0, hb4⟩
  have hs4 : W3.heap.size ≤ W4.heap.size := hb4.size
  have HB4 := below_next HB3 hz3 hb4
  have hz4 : w.heap.size ≤ W4.heap.size := Nat.le_trans hz3 hs4
  replace HO1 := HO1.below hb4
  replace HO2 := HO2.below hb4
  clear hb4
  go_wp2_with fail
  refine (RB.m (laws_sameFloat (hrg0.cw _) (hrw0.cw _) _)).mono ?_
  rintro e_ W5 ⟨rfl, hb5⟩
  replace hb5 := below_undrawn hb5
  have hs5 : W4.heap.size ≤ W5.heap.size := hb5.size
  have HB5 := below_next HB4 hz4 hb5
  have hz5 : w.heap.size ≤ W5.heap.size := Nat.le_trans hz4 hs5
  replace HO1 := HO1.below hb5
  replace HO2 := HO2.below hb5
  clear hb5
  go_wp2_with fail
  refine (laws_toFloat32S _ (h0.below HB5) hn0).mono ?_
  rintro e_ W6 ⟨v3, rfl, HO3, hb6⟩
  obtain ⟨A3, c_3, rfl⟩ := HO3.shape_n HL0.out
  have hs6 : W5.heap.size ≤ W6.heap.size := hb6.size
  have HB6 := below_next HB5 hz5 hb6
  have hz6 : w.heap.size ≤ W6.heap.size := Nat.le_trans hz5 hs6
  replace HO1 := HO1.below hb6
  replace HO2 := HO2.below hb6
  have ltA3 := HO3.lt
  have geA3 := HO3.base
  clear hb6
  go_wp2_with fail
  refine (RB.m (laws_eqFloat32S _ (HO2.rd HL0.out) (HO3.rd HL0.out) rfl (by omega))).mono ?_
  rintro e_ W7 ⟨rfl, hb7⟩
  have hs7 : W6.heap.size ≤ W7.heap.size := hb7.size
  have HB7 := below_next HB6 hz6 hb7
  have hz7 : w.heap.size ≤ W7.heap.size := Nat.le_trans hz6 hs7
  replace HO1 := HO1.below hb7
  replace HO2 := HO2.below hb7
  replace HO3 := HO3.below hb7
  clear hb7
  go_wp2_with fail
  go_ret
  exact ⟨rfl, HB7⟩
def scaleNC (n : Nat) (X : List (Option Nat)) (Y : Option Nat) : List (Option Nat) := if few n = true then X.map (fmul · Y) else []
set_option maxHeartbeats 400000 in
theorem spec_ScaleSamples {A : Option Addr} {n c : Nat} {xs : List Nat} {y : Nat} {Y : Option Nat} (w : World) (h : Rd w A n xs) (hn : n ≤ 1048576) (hy : Fl .f32 y Y) : Calls Try.prog 24 #[.slice A n c, .float .f32 y] w (RSB (scaleNC n (clss xs) Y) (few n) w) := by
  unfold scaleNC
  cases hf : few n <;> simp only [Bool.false_eq_true, if_true, if_false]
  · go_enter Try.func24, Try.ntmps24
    go_wp2_with (go_at_call 47; refine (spec_l01Few hn _).mono ?_; rintro e w' ⟨rfl, rfl⟩)
    go_ret2
    exact ⟨_, _, rfl, .nil _ _ _, rfl, by simp, Below.refl _ _⟩
  · go_enter Try.func24, Try.ntmps24
    go_wp2_with (first | (go_at_call 47; refine (spec_l01Few hn _).mono ?_; rintro e w' ⟨rfl, rfl⟩) | (go_at_call 55; refine (spec_l01Scale _ h hy hn).mono ?_; rintro e w' ⟨v1, zs, rfl, ho, hz, hb⟩))
    go_ret2
    exact ⟨_, _, rfl, ho, hz, len_of hz (by rw [List.length_map, clss_length, h.len]; exact hn), hb⟩
set_option maxHeartbeats 400000 in
theorem impl_ScaleSamples {A : Option Addr} {n c : Nat} {xs : List Nat} {y : Nat} {Y : Option Nat} (w : World) (h : Rd w A n xs) (hn : n ≤ 1048576) (hy : Fl .f32 y Y) : Calls Try.prog 25 #[.slice A n c, .float .f32 y] w (RSB (scaleNC n (clss xs) Y) (few n) w) := by
  unfold scaleNC
  cases hf : few n <;> simp only [Bool.false_eq_true, if_true, if_false]
  · go_enter Try.func25, Try.ntmps25
    go_wp2_with (go_at_call 49; refine (impl_areSamples hn _).mono ?_; rintro e w' ⟨rfl, rfl⟩)
    go_ret2
    exact ⟨_, _, rfl, .nil _ _ _, rfl, by simp, Below.refl _ _⟩
  · go_enter Try.func25, Try.ntmps25
    go_wp2_with (first | (go_at_call 49; refine (impl_areSamples hn _).mono ?_; rintro e w' ⟨rfl, rfl⟩) | (go_at_call 56; refine (impl_scaled _ h hy hn).mono ?_; rintro e w' ⟨v1, zs, rfl, ho, hz, hb⟩))
    go_ret2
    exact ⟨_, _, rfl, ho, hz, len_of hz (by rw [List.length_map, clss_length, h.len]; exact hn), hb⟩
set_option maxHeartbeats 4000000 in
set_option maxRecDepth 100000 in
theorem scaleSamples_walk (a0 : Option Addr) (n0 c0 : Nat) (l0 : List Value) (a1 : Nat) (w : World) (w0 : Row w [.f32] a0 n0 l0) (w1 : a1 < 2 ^ FloatKind.f32.format.width) :
    Calls Try.prog 6 #[.slice a0 n0 c0, .float .f32 a1] w fun e w' => e = .returned (.bool true) ∧ Below w.heap.size w w' := by
  obtain ⟨x0, h0⟩ := w0.rd
  rcases Nat.lt_or_ge 1048576 n0 with hn0 | hn0
  · go_enter Try.func6, Try.ntmps6
    go_wp2_with fail
    go_ret
    exact ⟨rfl, Below.refl _ _⟩
  have hl0 := h0.len
  have hy1 := Fl.self w1
  have HL0 := Lib.hid hl0; clear hl0
  have HB0 : Below w.heap.size w w := Below.refl _ _
  have hz0 : w.heap.size ≤ w.heap.size := Nat.le_refl _
  go_enter Try.func6, Try.ntmps6
  go_wp2_with fail
  refine (laws_toFloat32S _ (h0.below HB0) hn0).mono ?_
  rintro e_ W1 ⟨v1, rfl, HO1, hb1⟩
  obtain ⟨A1, c_1, rfl⟩ := HO1.shape_n HL0.out
  have hs1 : w.heap.size ≤ W1.heap.size := hb1.size
  have HB1 := below_next HB0 hz0 hb1
  have hz1 : w.heap.size ≤ W1.heap.size := Nat.le_trans hz0 hs1
  have ltA1 := HO1.lt
  have geA1 := HO1.base
  clear hb1
  go_wp2_with fail
  refine (spec_ScaleSamples _ (HO1.rd HL0.out) hn0 hy1).mono ?_
  rintro e_ W2 ⟨vw0, zw0, rfl, HOw0, hzw0, hmw0, hb2⟩
  have hs2 : W1.heap.size ≤ W2.heap.size := hb2.size
  have HB2 := below_next HB1 hz1 hb2
  have hz2 : w.heap.size ≤ W2.heap.size := Nat.le_trans hz1 hs2
  replace HO1 := HO1.below hb2
  have HZw0 := Lib.hid hzw0; clear hzw0
  obtain ⟨Aw0, c_w0, rfl⟩ := HOw0.shape
  have ltAw0 := HOw0.lt
  have geAw0 := HOw0.base
  clear hb2
  go_wp2_with fail
  refine (laws_toFloat32S _ (h0.below HB2) hn0).mono ?_
  rintro e_ W3 ⟨v2, rfl, HO2, hb3⟩
  obtain ⟨A2, c_2, rfl⟩ := HO2.shape_n HL0.out
  have hs3 : W2.heap.size ≤ W3.heap.size := hb3.size
  have HB3 := below_next HB2 hz2 hb3
  have hz3 : w.heap.size ≤ W3.heap.size := Nat.le_trans hz2 hs3
  replace HO1 := HO1.below hb3
  replace HOw0 := HOw0.below hb3
  have ltA2 := HO2.lt
  have geA2 := HO2.base
  clear hb3
  go_wp2_with fail
  refine (impl_ScaleSamples _ (HO2.rd HL0.out) hn0 hy1).mono ?_
  rintro e_ W4 ⟨vg0, zg0, rfl, HOg0, hzg0, hmg0, hb4⟩
  have hs4 : W3.heap.size ≤ W4.heap.size := hb4.size
  have HB4 := below_next HB3 hz3 hb4
  have hz4 : w.heap.size ≤ W4.heap.size := Nat.le_trans hz3 hs4
  replace HO1 := HO1.below hb4
  replace HOw0 := HOw0.below hb4
  replace HO2 := HO2.below hb4
  have HZg0 := Lib.hid hzg0; clear hzg0
  obtain ⟨Ag0, c_g0, rfl⟩ := HOg0.shape
  have ltAg0 := HOg0.lt
  have geAg0 := HOg0.base
  clear hb4
  go_wp2_with fail
  refine (RB.m (laws_eqFloat32S _ (HOg0.rd rfl) (HOw0.rd rfl) (by rw [HZg0.out, HZw0.out]) (by omega))).mono ?_
  rintro e_ W5 ⟨rfl, hb5⟩
  have hs5 : W4.heap.size ≤ W5.heap.size := hb5.size
  have HB5 := below_next HB4 hz4 hb5
  have hz5 : w.heap.size ≤ W5.heap.size := Nat.le_trans hz4 hs5
  replace HO1 := HO1.below hb5
  replace HOw0 := HOw0.below hb5
  replace HO2 := HO2.below hb5
  replace HOg0 := HOg0.below hb5
  clear hb5
  go_wp2_with fail
  refine (laws_toFloat32S _ (h0.below HB5) hn0).mono ?_
  rintro e_ W6 ⟨v3, rfl, HO3, hb6⟩
  obtain ⟨A3, c_3, rfl⟩ := HO3.shape_n HL0.out
  have hs6 : W5.heap.size ≤ W6.heap.size := hb6.size
  have HB6 := below_next HB5 hz5 hb6
  have hz6 : w.heap.size ≤ W6.heap.size := Nat.le_trans hz5 hs6
  replace HO1 := HO1.below hb6
  replace HOw0 := HOw0.below hb6
  replace HO2 := HO2.below hb6
  replace HOg0 := HOg0.below hb6
  have ltA3 := HO3.lt
  have geA3 := HO3.base
  clear hb6
  go_wp2_with fail
  refine (RB.m (laws_eqFloat32S _ (HO2.rd HL0.out) (HO3.rd HL0.out) rfl (by omega))).mono ?_
  rintro e_ W7 ⟨rfl, hb7⟩
  have hs7 : W6.heap.size ≤ W7.heap.size := hb7.size
  have HB7 := below_next HB6 hz6 hb7
  have hz7 : w.heap.size ≤ W7.heap.size := Nat.le_trans hz6 hs7
  replace HO1 := HO1.below hb7
  replace HOw0 := HOw0.below hb7
  replace HO2 := HO2.below hb7
  replace HOg0 := HOg0.below hb7
  replace HO3 := HO3.below hb7
  clear hb7
  go_wp2_with fail
  refine (laws_markFloat32S _ HO2 HL0.out (by omega) (by omega) (by omega)).mono ?_
  clear HO2
  rintro e_ W8 ⟨rfl, HO2, hg8⟩
  have hs8 : W7.heap.size ≤ W8.heap.size := hg8.size
  have HB8 := HB7.grown hg8 hz7 (fun k_ e_ => Nat.le_trans hz2 (geA2 k_ e_))
  have hz8 : w.heap.size ≤ W8.heap.size := Nat.le_trans hz7 hs8
  replace HO1 := HO1.other hg8 (own_apart ltA1 geA2 (by omega))
  replace HOw0 := HOw0.other hg8 (own_apart ltAw0 geA2 (by omega))
  replace HOg0 := HOg0.other hg8 (own_apart' geAg0 ltA2 (by omega))
  replace HO3 := HO3.other hg8 (own_apart' geA3 ltA2 (by omega))
  clear hg8
  go_wp2_with fail
  refine (RB.m (laws_eqFloat32S _ (HOg0.rd rfl) (HOw0.rd rfl) (by rw [HZg0.out, HZw0.out]) (by omega))).mono ?_
  rintro e_ W9 ⟨rfl, hb9⟩
  have hs9 : W8.heap.size ≤ W9.heap.size := hb9.size
  have HB9 := below_next HB8 hz8 hb9
  have hz9 : w.heap.size ≤ W9.heap.size := Nat.le_trans hz8 hs9
  replace HO1 := HO1.below hb9
  replace HOw0 := HOw0.below hb9
  replace HO2 := HO2.below hb9
  replace HOg0 := HOg0.below hb9
  replace HO3 := HO3.below hb9
  clear hb9
  go_wp2_with fail
  refine (laws_markFloat32S _ HOg0 rfl (by omega) (by omega) (by omega)).mono ?_
  clear HOg0
  rintro e_ W10 ⟨rfl, HOg0, hg10⟩
  have hs10 : W9.heap.size ≤ W10.heap.size := hg10.size
  have HB10 := HB9.grown hg10 hz9 (fun k_ e_ => Nat.le_trans hz3 (geAg0 k_ e_))
  have hz10 : w.heap.size ≤ W10.heap.size := Nat.le_trans hz9 hs10
  replace HO1 := HO1.other hg10 (own_apart ltA1 geAg0 (by omega))
  replace HOw0 := HOw0.other hg10 (own_apart ltAw0 geAg0 (by omega))
  replace HO2 := HO2.other hg10 (own_apart ltA2 geAg0 (by omega))
  replace HO3 := HO3.other hg10 (own_apart' geA3 ltAg0 (by omega))
  clear hg10
  go_wp2_with fail
  refine (RH.m (laws_heldFloat32S _ (HOg0.rd (marks_length _ _)) (by omega) (by omega) (by omega))).mono ?_
  rintro e_ W11 ⟨rfl, hb11⟩
  have hs11 : W10.heap.size ≤ W11.heap.size := hb11.size
  have HB11 := below_next HB10 hz10 hb11
  have hz11 : w.heap.size ≤ W11.heap.size := Nat.le_trans hz10 hs11
  replace HO1 := HO1.below hb11
  replace HOw0 := HOw0.below hb11
  replace HO2 := HO2.below hb11
  replace HOg0 := HOg0.below hb11
  replace HO3 := HO3.below hb11
  clear hb11
  go_wp2_with fail
  refine (laws_toFloat32S _ (h0.below HB11) hn0).mono ?_
  rintro e_ W12 ⟨v4, rfl, HO4, hb12⟩
  obtain ⟨A4, c_4, rfl⟩ := HO4.shape_n HL0.out
  have hs12 : W11.heap.size ≤ W12.heap.size := hb12.size
  have HB12 := below_next HB11 hz11 hb12
  have hz12 : w.heap.size ≤ W12.heap.size := Nat.le_trans hz11 hs12
  replace HO1 := HO1.below hb12
  replace HOw0 := HOw0.below hb12
  replace HO2 := HO2.below hb12
  replace HOg0 := HOg0.below hb12
  replace HO3 := HO3.below hb12
  have ltA4 := HO4.lt
  have geA4 := HO4.base
  clear hb12
  go_wp2_with fail
  refine (impl_ScaleSamples _ (HO4.rd HL0.out) hn0 hy1).mono ?_
  rintro e_ W13 ⟨vh0, zh0, rfl, HOh0, hzh0, hmh0, hb13⟩
  have hs13 : W12.heap.size ≤ W13.heap.size := hb13.size
  have HB13 := below_next HB12 hz12 hb13
  have hz13 : w.heap.size ≤ W13.heap.size := Nat.le_trans hz12 hs13
  replace HO1 := HO1.below hb13
  replace HOw0 := HOw0.below hb13
  replace HO2 := HO2.below hb13
  replace HOg0 := HOg0.below hb13
  replace HO3 := HO3.below hb13
  replace HO4 := HO4.below hb13
  have HZh0 := Lib.hid hzh0; clear hzh0
  obtain ⟨Ah0, c_h0, rfl⟩ := HOh0.shape
  have ltAh0 := HOh0.lt
  have geAh0 := HOh0.base
  clear hb13
  go_wp2_with fail
  refine (RB.m (laws_eqFloat32S _ (HOh0.rd rfl) (HOw0.rd rfl) (by rw [HZh0.out, HZw0.out]) (by omega))).mono ?_
  rintro e_ W14 ⟨rfl, hb14⟩
  have hs14 : W13.heap.size ≤ W14.heap.size := hb14.size
  have HB14 := below_next HB13 hz13 hb14
  have hz14 : w.heap.size ≤ W14.heap.size := Nat.le_trans hz13 hs14
  replace HO1 := HO1.below hb14
  replace HOw0 := HOw0.below hb14
  replace HO2 := HO2.below hb14
  replace HOg0 := HOg0.below hb14
  replace HO3 := HO3.below hb14
  replace HO4 := HO4.below hb14
  replace HOh0 := HOh0.below hb14
  clear hb14
  go_wp2_with fail
  refine (RH.m (laws_heldFloat32S _ (HOg0.rd (marks_length _ _)) (by omega) (by omega) (by omega))).mono ?_
  rintro e_ W15 ⟨rfl, hb15⟩
  have hs15 : W14.heap.size ≤ W15.heap.size := hb15.size
  have HB15 := below_next HB14 hz14 hb15
  have hz15 : w.heap.size ≤ W15.heap.size := Nat.le_trans hz14 hs15
  replace HO1 := HO1.below hb15
  replace HOw0 := HOw0.below hb15
  replace HO2 := HO2.below hb15
  replace HOg0 := HOg0.below hb15
  replace HO3 := HO3.below hb15
  replace HO4 := HO4.below hb15
  replace HOh0 := HOh0.below hb15
  clear hb15
  go_wp2_with fail
  go_ret
  exact ⟨rfl, HB15⟩
end Go.Proofs.Ytcjflleeffbhhaa
