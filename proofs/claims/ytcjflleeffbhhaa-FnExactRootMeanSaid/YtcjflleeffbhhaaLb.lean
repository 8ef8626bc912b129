/- The walk of the law on roots of means. Conditions: none. -/
import Derived.Test.YtcjflleeffbhhaaL2
import Derived.Test.YtcjflleeffbhhaaN1
set_option linter.unusedVariables false
set_option linter.unusedSimpArgs false
namespace Go.Proofs.Ytcjflleeffbhhaa
open Go.RowKit

def meanOk (n : Nat) : Bool := few n && decide (n ≠ 0)
def meanNC (n : Nat) (X : List (Option Nat)) : Option Nat := if meanOk n = true then rootC (fop .quo .f32 (dotC X X) (some (floatOfInt .f32 (n : Int)))) else some 0
theorem mean_not {n : Nat} (h : meanOk n = false) : few n = false ∨ (few n = true ∧ n = 0) := by
  unfold meanOk at h
  cases hf : few n
  · exact .inl rfl
  · rw [hf] at h; simp at h; exact .inr ⟨rfl, h⟩
theorem mean_ok {n : Nat} (h : meanOk n = true) : few n = true ∧ 0 < n := by
  unfold meanOk at h
  simp at h
  exact ⟨h.1, by omega⟩
set_option maxHeartbeats 800000 in
theorem spec_RootMean {A : Option Addr} {n c : Nat} {xs : List Nat} (w : World) (h : Rd w A n xs) (hn : n ≤ 1048576) : Calls Try.prog 38 #[.slice A n c] w (RFBM (meanNC n (clss xs)) (meanOk n) w) := by
  unfold meanNC
  cases hf : meanOk n <;> simp only [Bool.false_eq_true, if_true, if_false]
  · rcases mean_not hf with h1 | ⟨h1, rfl⟩
    all_goals
      clear hf
      go_enter Try.func38, Try.ntmps38
      go_wp2_with (go_at_call 47; refine (spec_l01Few hn _).mono ?_; rintro e w' ⟨rfl, rfl⟩)
      go_ret2
      exact ⟨_, rfl, zero_fl, Below.refl _ _⟩
  · obtain ⟨h1, h0⟩ := mean_ok hf
    have HI := Lib.hid (intF_fl (n : Int))
    clear hf
    go_enter Try.func38, Try.ntmps38
    go_wp2_with (first
      | (go_at_call 47; refine (spec_l01Few hn _).mono ?_; rintro e w' ⟨rfl, rfl⟩)
      | (go_at_call 53; refine (spec_l01Dot _ h h hn).mono ?_; rintro e w' ⟨r, m, rfl, hr, rfl⟩)
      | (go_at_call 67; refine (spec_l01Sqrt (hr.fr HI.out .quo _) _).mono ?_; rintro e w' ⟨r2, m2, rfl, hr2, rfl⟩))
    go_ret2
    exact ⟨_, rfl, hr2, below_draws _ _⟩
set_option maxHeartbeats 800000 in
theorem impl_RootMean {A : Option Addr} {n c : Nat} {xs : List Nat} (w : World) (h : Rd w A n xs) (hn : n ≤ 1048576) : Calls Try.prog 39 #[.slice A n c] w (RFBM (meanNC n (clss xs)) (meanOk n) w) := by
  unfold meanNC
  cases hf : meanOk n <;> simp only [Bool.false_eq_true, if_true, if_false]
  · rcases mean_not hf with h1 | ⟨h1, rfl⟩
    all_goals
      clear hf
      go_enter Try.func39, Try.ntmps39
      go_wp2_with (go_at_call 49; refine (impl_areSamples hn _).mono ?_; rintro e w' ⟨rfl, rfl⟩)
      go_ret2
      exact ⟨_, rfl, zero_fl, Below.refl _ _⟩
  · obtain ⟨h1, h0⟩ := mean_ok hf
    have HI := Lib.hid (intF_fl (n : Int))
    clear hf
    go_enter Try.func39, Try.ntmps39
    go_wp2_with (first
      | (go_at_call 49; refine (impl_areSamples hn _).mono ?_; rintro e w' ⟨rfl, rfl⟩)
      | (go_at_call 54; refine (impl_dot _ h h hn).mono ?_; rintro e w' ⟨r, m, rfl, hr, rfl⟩)
      | (go_at_call 68; refine (impl_RootNumber (hr.fr HI.out .quo _) _).mono ?_; rintro e w' ⟨r2, m2, rfl, hr2, rfl⟩))
    go_ret2
    exact ⟨_, rfl, hr2, below_draws _ _⟩
set_option maxHeartbeats 4000000 in
set_option maxRecDepth 100000 in
theorem rootMean_walk (a0 : Option Addr) (n0 c0 : Nat) (l0 : List Value) (w : World) (w0 : Row w [.f32] a0 n0 l0) :
    Calls Try.prog 12 #[.slice a0 n0 c0] w fun e w' => e = .returned (.bool true) ∧ Below w.heap.size w w' := by
  obtain ⟨x0, h0⟩ := w0.rd
  rcases Nat.lt_or_ge 1048576 n0 with hn0 | hn0
  · go_enter Try.func12, Try.ntmps12
    go_wp2_with fail
    go_ret
    exact ⟨rfl, Below.refl _ _⟩
  have hl0 := h0.len
  have HL0 := Lib.hid hl0; clear hl0
  have HB0 : Below w.heap.size w w := Below.refl _ _
  have hz0 : w.heap.size ≤ w.heap.size := Nat.le_refl _
  go_enter Try.func12, Try.ntmps12
  go_wp2_with fail
  refine (laws_toFloat32S _ (h0.below HB0) hn0).mono ?_
  rintro e_ W1 ⟨v1, rfl, HO1, hb1⟩
  obtain ⟨A1, c_1, rfl⟩ := HO1.shape_n HL0.out
  have hs1 : w.heap.size ≤ W1.heap.size := hb1.size
  have HB1 := below_next HB0 hz0 hb1
  have hz1 : w.heap.size ≤ W1.heap.size := Nat.le_trans hz0 hs1
  have ltA1 := HO1.lt
  have geA1 := HO1.base
  clear hb1
  go_wp2_with fail
  refine (spec_RootMean _ (HO1.rd HL0.out) hn0).mono ?_
  rintro e_ W2 ⟨rw0, rfl, hrw0, hb2⟩
  have hs2 : W1.heap.size ≤ W2.heap.size := hb2.size
  have HB2 := below_next HB1 hz1 hb2
  have hz2 : w.heap.size ≤ W2.heap.size := Nat.le_trans hz1 hs2
  replace HO1 := HO1.below hb2
  clear hb2
  go_wp2_with fail
  refine (laws_toFloat32S _ (h0.below HB2) hn0).mono ?_
  rintro e_ W3 ⟨v2, rfl, HO2, hb3⟩
  obtain ⟨A2, c_2, rfl⟩ := HO2.shape_n HL0.out
  have hs3 : W2.heap.size ≤ W3.heap.size := hb3.size
  have HB3 := below_next HB2 hz2 hb3
  have hz3 : w.heap.size ≤ W3.heap.size := Nat.le_trans hz2 hs3
  replace HO1 := HO1.below hb3
  have ltA2 := HO2.lt
  have geA2 := HO2.base
  clear hb3
  go_wp2_with fail
  refine (impl_RootMean _ (HO2.rd HL0.out) hn0).mono ?_
  rintro e_ W4 ⟨rg0, rfl, hrg0, hb4⟩
  have hs4 : W3.heap.size ≤ W4.heap.size := hb4.size
  have HB4 := below_next HB3 hz3 hb4
  have hz4 : w.heap.size ≤ W4.heap.size := Nat.le_trans hz3 hs4
  replace HO1 := HO1.below hb4
  replace HO2 := HO2.below hb4
  clear hb4
  go_wp2_with fail
  refine (RB.m (laws_sameFloat (hrg0.cw _) (hrw0.cw _) _)).mono ?_
  rintro e_ W5 ⟨rfl, hb5⟩
  replace hb5 := below_undrawn hb5
  have hs5 : W4.heap.size ≤ W5.heap.size := hb5.size
  have HB5 := below_next HB4 hz4 hb5
  have hz5 : w.heap.size ≤ W5.heap.size := Nat.le_trans hz4 hs5
  replace HO1 := HO1.below hb5
  replace HO2 := HO2.below hb5
  clear hb5
  go_wp2_with fail
  refine (laws_toFloat32S _ (h0.below HB5) hn0).mono ?_
  rintro e_ W6 ⟨v3, rfl, HO3, hb6⟩
  obtain ⟨A3, c_3, rfl⟩ := HO3.shape_n HL0.out
  have hs6 : W5.heap.size ≤ W6.heap.size := hb6.size
  have HB6 := below_next HB5 hz5 hb6
  have hz6 : w.heap.size ≤ W6.heap.size := Nat.le_trans hz5 hs6
  replace HO1 := HO1.below hb6
  replace HO2 := HO2.below hb6
  have ltA3 := HO3.lt
  have geA3 := HO3.base
  clear hb6
  go_wp2_with fail
  refine (RB.m (laws_eqFloat32S _ (HO2.rd HL0.out) (HO3.rd HL0.out) rfl (by omega))).mono ?_
  rintro e_ W7 ⟨rfl, hb7⟩
  have hs7 : W6.heap.size ≤ W7.heap.size := hb7.size
  have HB7 := below_next HB6 hz6 hb7
  have hz7 : w.heap.size ≤ W7.heap.size := Nat.le_trans hz6 hs7
  replace HO1 := HO1.below hb7
  replace HO2 := HO2.below hb7
  replace HO3 := HO3.below hb7
  clear hb7
  go_wp2_with fail
  go_ret
  exact ⟨rfl, HB7⟩
end Go.Proofs.Ytcjflleeffbhhaa
