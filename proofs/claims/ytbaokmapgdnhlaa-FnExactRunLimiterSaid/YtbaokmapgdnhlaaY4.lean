/- The walk of the law on limiters. Conditions: none. -/
import Derived.Test.YtbaokmapgdnhlaaY3
import Derived.Test.YtbaokmapgdnhlaaY5
import Derived.Deep.DeepCutAuto
set_option linter.unusedVariables false
set_option linter.unusedSimpArgs false
namespace Go.Proofs.Ytbaokmapgdnhlaa
open Go.RowKit
set_option maxHeartbeats 4000000 in
set_option maxRecDepth 100000 in
theorem runLimiter_walk (a0_0 : Nat) (a0_1 : Nat) (a0_2 : Nat) (a0 : Option Addr) (n0 c0 : Nat) (l0 : List Value) (a1 : Option Addr) (n1 c1 : Nat) (l1 : List Value) (w : World) (w0_0 : a0_0 < 2 ^ FloatKind.f32.format.width) (w0_1 : a0_1 < 2 ^ FloatKind.f32.format.width) (w0_2 : a0_2 < 2 ^ FloatKind.f32.format.width) (w0 : Row w [.f32] a0 n0 l0) (w1 : Row w [.f32] a1 n1 l1) :
    Calls Try.prog 11 #[.agg #[.float .f32 a0_0, .float .f32 a0_1, .float .f32 a0_2, .slice a0 n0 c0], .slice a1 n1 c1] w fun e w' => e = .returned (.bool true) ∧ Below w.heap.size w w' := by
  obtain ⟨x0, h0⟩ := w0.rd
  obtain ⟨x1, h1⟩ := w1.rd
  rcases Nat.lt_or_ge 1048576 n1 with hn1 | hn1
  · go_enter Try.func11, Try.ntmps11
    go_wp2_with fail
    go_ret
    exact ⟨rfl, by (repeat (first | exact Below.refl _ _ | (with_reducible assumption) | refine below_drewN ?_ _ | refine Below.drew ?_ | refine Below.alloc ?_ (by simp; try omega) _))⟩
  rcases Nat.lt_or_ge 1048576 n0 with hn0 | hn0
  · go_enter Try.func11, Try.ntmps11
    go_wp2_with fail
    refine (laws_szLimiter _ h0.most).mono ?_
    rintro e w' ⟨rfl, hbq⟩
    rw [if_pos (by omega : ((1048576 : Int) < (n0 : Int)))]
    go_wp2_with fail
    go_ret
    exact ⟨rfl, below_next ((Below.refl _ w).alloc (Nat.le_refl _) _) (by simp) hbq⟩
  have hy0_0 := Fl.self w0_0
  have hy0_1 := Fl.self w0_1
  have hy0_2 := Fl.self w0_2
  have hl0 := h0.len
  have hl1 := h1.len
  have HL0 := Lib.hid hl0; clear hl0
  have HL1 := Lib.hid hl1; clear hl1
  have HB0 : Below w.heap.size w w := Below.refl _ _
  have hz0 : w.heap.size ≤ w.heap.size := Nat.le_refl _
  go_enter Try.func11, Try.ntmps11
  go_wp2_with fail
  obtain ⟨W1, hW1⟩ : ∃ V, V = World.alloc w (.cells #[.float .f32 a0_0, .float .f32 a0_1, .float .f32 a0_2, .slice a0 n0 c0] 77) := ⟨_, rfl⟩
  rw [← hW1]
  have eZ0 : w.heap.size = w.heap.size := rfl
  have hZ1 : W1.heap.size = w.heap.size + 1 := by rw [hW1]; simp [eZ0]
  have hb1 : Below w.heap.size w W1 := by rw [hW1]; exact (Below.refl _ _).alloc (Nat.le_refl _) _
  have cp0_0 : W1.cell? ⟨w.heap.size, 0, none⟩ = some (.float .f32 a0_0) := by rw [hW1, ← eZ0]; simp [go_sem]
  have cp0_1 : W1.cell? ⟨w.heap.size, 1, none⟩ = some (.float .f32 a0_1) := by rw [hW1, ← eZ0]; simp [go_sem]
  have cp0_2 : W1.cell? ⟨w.heap.size, 2, none⟩ = some (.float .f32 a0_2) := by rw [hW1, ← eZ0]; simp [go_sem]
  have cp0_3 : W1.cell? ⟨w.heap.size, 3, none⟩ = some (.slice a0 n0 c0) := by rw [hW1, ← eZ0]; simp [go_sem]
  have ltp0 : w.heap.size < W1.heap.size := by rw [hZ1]; omega
  have lup0 := ltp0
  clear hW1
  have hs1 : w.heap.size ≤ W1.heap.size := hb1.size
  have HB1 := below_next HB0 hz0 hb1
  have hz1 : w.heap.size ≤ W1.heap.size := Nat.le_trans hz0 hs1
  clear hb1
  refine (laws_szLimiter _ h0.most).mono ?_
  rintro e_ W2 ⟨rfl, hb2⟩
  rw [if_neg (by omega : ¬ ((1048576 : Int) < (n0 : Int)))]
  have hs2 : W1.heap.size ≤ W2.heap.size := hb2.size
  have HB2 := below_next HB1 hz1 hb2
  have hz2 : w.heap.size ≤ W2.heap.size := Nat.le_trans hz1 hs2
  replace cp0_0 := (cell_below hb2 ltp0).trans cp0_0
  replace cp0_1 := (cell_below hb2 ltp0).trans cp0_1
  replace cp0_2 := (cell_below hb2 ltp0).trans cp0_2
  replace cp0_3 := (cell_below hb2 ltp0).trans cp0_3
  replace ltp0 := Nat.lt_of_lt_of_le ltp0 hb2.size
  clear hb2
  go_wp2_with fail
  refine (laws_toLimiter _ (h0.below HB2) hn0).mono ?_
  rintro e_ W3 ⟨v1, rfl, HO1, hb3⟩
  obtain ⟨A1, c_1, rfl⟩ := HO1.shape_n HL0.out
  have hs3 : W2.heap.size ≤ W3.heap.size := hb3.size
  have HB3 := below_next HB2 hz2 hb3
  have hz3 : w.heap.size ≤ W3.heap.size := Nat.le_trans hz2 hs3
  replace cp0_0 := (cell_below hb3 ltp0).trans cp0_0
  replace cp0_1 := (cell_below hb3 ltp0).trans cp0_1
  replace cp0_2 := (cell_below hb3 ltp0).trans cp0_2
  replace cp0_3 := (cell_below hb3 ltp0).trans cp0_3
  replace ltp0 := Nat.lt_of_lt_of_le ltp0 hb3.size
  have ltA1 := HO1.lt
  have geA1 := HO1.base
  clear hb3
  go_wp2_with fail
  refine (laws_toFloat32S _ (h1.below HB3) hn1).mono ?_
  rintro e_ W4 ⟨v2, rfl, HO2, hb4⟩
  obtain ⟨A2, c_2, rfl⟩ := HO2.shape_n HL1.out
  have hs4 : W3.heap.size ≤ W4.heap.size := hb4.size
  have HB4 := below_next HB3 hz3 hb4
  have hz4 : w.heap.size ≤ W4.heap.size := Nat.le_trans hz3 hs4
  replace HO1 := HO1.below hb4
  replace cp0_0 := (cell_below hb4 ltp0).trans cp0_0
  replace cp0_1 := (cell_below hb4 ltp0).trans cp0_1
  replace cp0_2 := (cell_below hb4 ltp0).trans cp0_2
  replace cp0_3 := (cell_below hb4 ltp0).trans cp0_3
  replace ltp0 := Nat.lt_of_lt_of_le ltp0 hb4.size
  have ltA2 := HO2.lt
  have geA2 := HO2.base
  clear hb4
  go_wp2_with fail
  refine (spec_RunLimiter _ hy0_0 hy0_1 hy0_2 (HO1.rd HL0.out) hn0 (HO2.rd HL1.out) hn1).mono ?_
  rintro e_ W5 ⟨vw0, zw0, rw1_0, rw1_1, rw1_2, vw1, zw1, rfl, HOw0, hzw0, hmw0, hrw1_0, hrw1_1, hrw1_2, HOw1, hzw1, hmw1, hdw, hb5⟩
  have hs5 : W4.heap.size ≤ W5.heap.size := hb5.size
  have HB5 := below_next HB4 hz4 hb5
  have hz5 : w.heap.size ≤ W5.heap.size := Nat.le_trans hz4 hs5
  replace HO1 := HO1.below hb5
  replace HO2 := HO2.below hb5
  replace cp0_0 := (cell_below hb5 ltp0).trans cp0_0
  replace cp0_1 := (cell_below hb5 ltp0).trans cp0_1
  replace cp0_2 := (cell_below hb5 ltp0).trans cp0_2
  replace cp0_3 := (cell_below hb5 ltp0).trans cp0_3
  replace ltp0 := Nat.lt_of_lt_of_le ltp0 hb5.size
  have HZw0 := Lib.hid hzw0; clear hzw0
  obtain ⟨Aw0, c_w0, rfl⟩ := HOw0.shape
  have ltAw0 := HOw0.lt
  have geAw0 := HOw0.base
  have HZw1 := Lib.hid hzw1; clear hzw1
  obtain ⟨Aw1, c_w1, rfl⟩ := HOw1.shape
  have ltAw1 := HOw1.lt
  have geAw1 := HOw1.base
  clear hb5
  go_wp2_with fail
  obtain ⟨b_w1, eb_w1⟩ : ∃ b, W5.heap.size = b := ⟨_, rfl⟩
  obtain ⟨W6, hW6⟩ : ∃ V, V = World.alloc W5 (.cells #[.float .f32 rw1_0, .float .f32 rw1_1, .float .f32 rw1_2, .slice Aw1 zw1.length c_w1] 79) := ⟨_, rfl⟩
  rw [← hW6, eb_w1]
  have hb6 : Below W5.heap.size W5 W6 := by rw [hW6]; exact (Below.refl _ _).alloc (Nat.le_refl _) _
  have cb_w1_0 : W6.cell? ⟨b_w1, 0, none⟩ = some (.float .f32 rw1_0) := by rw [hW6, ← eb_w1]; simp [go_sem]
  have cb_w1_1 : W6.cell? ⟨b_w1, 1, none⟩ = some (.float .f32 rw1_1) := by rw [hW6, ← eb_w1]; simp [go_sem]
  have cb_w1_2 : W6.cell? ⟨b_w1, 2, none⟩ = some (.float .f32 rw1_2) := by rw [hW6, ← eb_w1]; simp [go_sem]
  have cb_w1_3 : W6.cell? ⟨b_w1, 3, none⟩ = some (.slice Aw1 zw1.length c_w1) := by rw [hW6, ← eb_w1]; simp [go_sem]
  have ltb_w1 : b_w1 < W6.heap.size := by rw [hW6, ← eb_w1]; simp
  have lub_w1 := ltb_w1
  clear hW6
  have hs6 : W5.heap.size ≤ W6.heap.size := hb6.size
  have HB6 := below_next HB5 hz5 hb6
  have hz6 : w.heap.size ≤ W6.heap.size := Nat.le_trans hz5 hs6
  replace HO1 := HO1.below hb6
  replace HO2 := HO2.below hb6
  replace HOw0 := HOw0.below hb6
  replace HOw1 := HOw1.below hb6
  replace cp0_0 := (cell_below hb6 ltp0).trans cp0_0
  replace cp0_1 := (cell_below hb6 ltp0).trans cp0_1
  replace cp0_2 := (cell_below hb6 ltp0).trans cp0_2
  replace cp0_3 := (cell_below hb6 ltp0).trans cp0_3
  replace ltp0 := Nat.lt_of_lt_of_le ltp0 hb6.size
  clear hb6
  refine (laws_toLimiter _ (h0.below HB6) hn0).mono ?_
  rintro e_ W7 ⟨v3, rfl, HO3, hb7⟩
  obtain ⟨A3, c_3, rfl⟩ := HO3.shape_n HL0.out
  have hs7 : W6.heap.size ≤ W7.heap.size := hb7.size
  have HB7 := below_next HB6 hz6 hb7
  have hz7 : w.heap.size ≤ W7.heap.size := Nat.le_trans hz6 hs7
  replace HO1 := HO1.below hb7
  replace HO2 := HO2.below hb7
  replace HOw0 := HOw0.below hb7
  replace HOw1 := HOw1.below hb7
  replace cp0_0 := (cell_below hb7 ltp0).trans cp0_0
  replace cp0_1 := (cell_below hb7 ltp0).trans cp0_1
  replace cp0_2 := (cell_below hb7 ltp0).trans cp0_2
  replace cp0_3 := (cell_below hb7 ltp0).trans cp0_3
  replace ltp0 := Nat.lt_of_lt_of_le ltp0 hb7.size
  replace cb_w1_0 := (cell_below hb7 ltb_w1).trans cb_w1_0
  replace cb_w1_1 := (cell_below hb7 ltb_w1).trans cb_w1_1
  replace cb_w1_2 := (cell_below hb7 ltb_w1).trans cb_w1_2
  replace cb_w1_3 := (cell_below hb7 ltb_w1).trans cb_w1_3
  replace ltb_w1 := Nat.lt_of_lt_of_le ltb_w1 hb7.size
  have ltA3 := HO3.lt
  have geA3 := HO3.base
  clear hb7
  go_wp2_with fail
  obtain ⟨b_x0, eb_x0⟩ : ∃ b, W7.heap.size = b := ⟨_, rfl⟩
  obtain ⟨W8, hW8⟩ : ∃ V, V = World.alloc W7 (.cells #[.float .f32 a0_0, .float .f32 a0_1, .float .f32 a0_2, .slice A3 n0 c_3] 79) := ⟨_, rfl⟩
  rw [← hW8, eb_x0]
  have hb8 : Below W7.heap.size W7 W8 := by rw [hW8]; exact (Below.refl _ _).alloc (Nat.le_refl _) _
  have cb_x0_0 : W8.cell? ⟨b_x0, 0, none⟩ = some (.float .f32 a0_0) := by rw [hW8, ← eb_x0]; simp [go_sem]
  have cb_x0_1 : W8.cell? ⟨b_x0, 1, none⟩ = some (.float .f32 a0_1) := by rw [hW8, ← eb_x0]; simp [go_sem]
  have cb_x0_2 : W8.cell? ⟨b_x0, 2, none⟩ = some (.float .f32 a0_2) := by rw [hW8, ← eb_x0]; simp [go_sem]
  have cb_x0_3 : W8.cell? ⟨b_x0, 3, none⟩ = some (.slice A3 n0 c_3) := by rw [hW8, ← eb_x0]; simp [go_sem]
  have ltb_x0 : b_x0 < W8.heap.size := by rw [hW8, ← eb_x0]; simp
  have lub_x0 := ltb_x0
  clear hW8
  have hs8 : W7.heap.size ≤ W8.heap.size := hb8.size
  have HB8 := below_next HB7 hz7 hb8
  have hz8 : w.heap.size ≤ W8.heap.size := Nat.le_trans hz7 hs8
  replace HO1 := HO1.below hb8
  replace HO2 := HO2.below hb8
  replace HOw0 := HOw0.below hb8
  replace HOw1 := HOw1.below hb8
  replace HO3 := HO3.below hb8
  replace cp0_0 := (cell_below hb8 ltp0).trans cp0_0
  replace cp0_1 := (cell_below hb8 ltp0).trans cp0_1
  replace cp0_2 := (cell_below hb8 ltp0).trans cp0_2
  replace cp0_3 := (cell_below hb8 ltp0).trans cp0_3
  replace ltp0 := Nat.lt_of_lt_of_le ltp0 hb8.size
  replace cb_w1_0 := (cell_below hb8 ltb_w1).trans cb_w1_0
  replace cb_w1_1 := (cell_below hb8 ltb_w1).trans cb_w1_1
  replace cb_w1_2 := (cell_below hb8 ltb_w1).trans cb_w1_2
  replace cb_w1_3 := (cell_below hb8 ltb_w1).trans cb_w1_3
  replace ltb_w1 := Nat.lt_of_lt_of_le ltb_w1 hb8.size
  clear hb8
  refine (laws_toFloat32S _ (h1.below HB8) hn1).mono ?_
  rintro e_ W9 ⟨v4, rfl, HO4, hb9⟩
  obtain ⟨A4, c_4, rfl⟩ := HO4.shape_n HL1.out
  have hs9 : W8.heap.size ≤ W9.heap.size := hb9.size
  have HB9 := below_next HB8 hz8 hb9
  have hz9 : w.heap.size ≤ W9.heap.size := Nat.le_trans hz8 hs9
  replace HO1 := HO1.below hb9
  replace HO2 := HO2.below hb9
  replace HOw0 := HOw0.below hb9
  replace HOw1 := HOw1.below hb9
  replace HO3 := HO3.below hb9
  replace cp0_0 := (cell_below hb9 ltp0).trans cp0_0
  replace cp0_1 := (cell_below hb9 ltp0).trans cp0_1
  replace cp0_2 := (cell_below hb9 ltp0).trans cp0_2
  replace cp0_3 := (cell_below hb9 ltp0).trans cp0_3
  replace ltp0 := Nat.lt_of_lt_of_le ltp0 hb9.size
  replace cb_w1_0 := (cell_below hb9 ltb_w1).trans cb_w1_0
  replace cb_w1_1 := (cell_below hb9 ltb_w1).trans cb_w1_1
  replace cb_w1_2 := (cell_below hb9 ltb_w1).trans cb_w1_2
  replace cb_w1_3 := (cell_below hb9 ltb_w1).trans cb_w1_3
  replace ltb_w1 := Nat.lt_of_lt_of_le ltb_w1 hb9.size
  replace cb_x0_0 := (cell_below hb9 ltb_x0).trans cb_x0_0
  replace cb_x0_1 := (cell_below hb9 ltb_x0).trans cb_x0_1
  replace cb_x0_2 := (cell_below hb9 ltb_x0).trans cb_x0_2
  replace cb_x0_3 := (cell_below hb9 ltb_x0).trans cb_x0_3
  replace ltb_x0 := Nat.lt_of_lt_of_le ltb_x0 hb9.size
  have ltA4 := HO4.lt
  have geA4 := HO4.base
  clear hb9
  go_wp2_with fail
  refine (impl_RunLimiter _ hy0_0 hy0_1 hy0_2 (HO3.rd HL0.out) hn0 (HO4.rd HL1.out) hn1).mono ?_
  rintro e_ W10 ⟨vg0, zg0, rg1_0, rg1_1, rg1_2, vg1, zg1, rfl, HOg0, hzg0, hmg0, hrg1_0, hrg1_1, hrg1_2, HOg1, hzg1, hmg1, hdg, hb10⟩
  have hs10 : W9.heap.size ≤ W10.heap.size := hb10.size
  have HB10 := below_next HB9 hz9 hb10
  have hz10 : w.heap.size ≤ W10.heap.size := Nat.le_trans hz9 hs10
  replace HO1 := HO1.below hb10
  replace HO2 := HO2.below hb10
  replace HOw0 := HOw0.below hb10
  replace HOw1 := HOw1.below hb10
  replace HO3 := HO3.below hb10
  replace HO4 := HO4.below hb10
  replace cp0_0 := (cell_below hb10 ltp0).trans cp0_0
  replace cp0_1 := (cell_below hb10 ltp0).trans cp0_1
  replace cp0_2 := (cell_below hb10 ltp0).trans cp0_2
  replace cp0_3 := (cell_below hb10 ltp0).trans cp0_3
  replace ltp0 := Nat.lt_of_lt_of_le ltp0 hb10.size
  replace cb_w1_0 := (cell_below hb10 ltb_w1).trans cb_w1_0
  replace cb_w1_1 := (cell_below hb10 ltb_w1).trans cb_w1_1
  replace cb_w1_2 := (cell_below hb10 ltb_w1).trans cb_w1_2
  replace cb_w1_3 := (cell_below hb10 ltb_w1).trans cb_w1_3
  replace ltb_w1 := Nat.lt_of_lt_of_le ltb_w1 hb10.size
  replace cb_x0_0 := (cell_below hb10 ltb_x0).trans cb_x0_0
  replace cb_x0_1 := (cell_below hb10 ltb_x0).trans cb_x0_1
  replace cb_x0_2 := (cell_below hb10 ltb_x0).trans cb_x0_2
  replace cb_x0_3 := (cell_below hb10 ltb_x0).trans cb_x0_3
  replace ltb_x0 := Nat.lt_of_lt_of_le ltb_x0 hb10.size
  have HZg0 := Lib.hid hzg0; clear hzg0
  obtain ⟨Ag0, c_g0, rfl⟩ := HOg0.shape
  have ltAg0 := HOg0.lt
  have geAg0 := HOg0.base
  have HZg1 := Lib.hid hzg1; clear hzg1
  obtain ⟨Ag1, c_g1, rfl⟩ := HOg1.shape
  have ltAg1 := HOg1.lt
  have geAg1 := HOg1.base
  clear hb10
  go_wp2_with fail
  obtain ⟨b_g1, eb_g1⟩ : ∃ b, W10.heap.size = b := ⟨_, rfl⟩
  obtain ⟨W11, hW11⟩ : ∃ V, V = World.alloc W10 (.cells #[.float .f32 rg1_0, .float .f32 rg1_1, .float .f32 rg1_2, .slice Ag1 zg1.length c_g1] 79) := ⟨_, rfl⟩
  rw [← hW11, eb_g1]
  have hb11 : Below W10.heap.size W10 W11 := by rw [hW11]; exact (Below.refl _ _).alloc (Nat.le_refl _) _
  have cb_g1_0 : W11.cell? ⟨b_g1, 0, none⟩ = some (.float .f32 rg1_0) := by rw [hW11, ← eb_g1]; simp [go_sem]
  have cb_g1_1 : W11.cell? ⟨b_g1, 1, none⟩ = some (.float .f32 rg1_1) := by rw [hW11, ← eb_g1]; simp [go_sem]
  have cb_g1_2 : W11.cell? ⟨b_g1, 2, none⟩ = some (.float .f32 rg1_2) := by rw [hW11, ← eb_g1]; simp [go_sem]
  have cb_g1_3 : W11.cell? ⟨b_g1, 3, none⟩ = some (.slice Ag1 zg1.length c_g1) := by rw [hW11, ← eb_g1]; simp [go_sem]
  have ltb_g1 : b_g1 < W11.heap.size := by rw [hW11, ← eb_g1]; simp
  have lub_g1 := ltb_g1
  clear hW11
  have hs11 : W10.heap.size ≤ W11.heap.size := hb11.size
  have HB11 := below_next HB10 hz10 hb11
  have hz11 : w.heap.size ≤ W11.heap.size := Nat.le_trans hz10 hs11
  replace HO1 := HO1.below hb11
  replace HO2 := HO2.below hb11
  replace HOw0 := HOw0.below hb11
  replace HOw1 := HOw1.below hb11
  replace HO3 := HO3.below hb11
  replace HO4 := HO4.below hb11
  replace HOg0 := HOg0.below hb11
  replace HOg1 := HOg1.below hb11
  replace cp0_0 := (cell_below hb11 ltp0).trans cp0_0
  replace cp0_1 := (cell_below hb11 ltp0).trans cp0_1
  replace cp0_2 := (cell_below hb11 ltp0).trans cp0_2
  replace cp0_3 := (cell_below hb11 ltp0).trans cp0_3
  replace ltp0 := Nat.lt_of_lt_of_le ltp0 hb11.size
  replace cb_w1_0 := (cell_below hb11 ltb_w1).trans cb_w1_0
  replace cb_w1_1 := (cell_below hb11 ltb_w1).trans cb_w1_1
  replace cb_w1_2 := (cell_below hb11 ltb_w1).trans cb_w1_2
  replace cb_w1_3 := (cell_below hb11 ltb_w1).trans cb_w1_3
  replace ltb_w1 := Nat.lt_of_lt_of_le ltb_w1 hb11.size
  replace cb_x0_0 := (cell_below hb11 ltb_x0).trans cb_x0_0
  replace cb_x0_1 := (cell_below hb11 ltb_x0).trans cb_x0_1
  replace cb_x0_2 := (cell_below hb11 ltb_x0).trans cb_x0_2
  replace cb_x0_3 := (cell_below hb11 ltb_x0).trans cb_x0_3
  replace ltb_x0 := Nat.lt_of_lt_of_le ltb_x0 hb11.size
  clear hb11
  refine (RB.m (laws_eqFloat32S _ (HOg0.rd rfl) (HOw0.rd rfl) (by rw [HZg0.out, HZw0.out]) (by omega))).mono ?_
  rintro e_ W12 ⟨rfl, hb12⟩
  have hs12 : W11.heap.size ≤ W12.heap.size := hb12.size
  have HB12 := below_next HB11 hz11 hb12
  have hz12 : w.heap.size ≤ W12.heap.size := Nat.le_trans hz11 hs12
  replace HO1 := HO1.below hb12
  replace HO2 := HO2.below hb12
  replace HOw0 := HOw0.below hb12
  replace HOw1 := HOw1.below hb12
  replace HO3 := HO3.below hb12
  replace HO4 := HO4.below hb12
  replace HOg0 := HOg0.below hb12
  replace HOg1 := HOg1.below hb12
  replace cp0_0 := (cell_below hb12 ltp0).trans cp0_0
  replace cp0_1 := (cell_below hb12 ltp0).trans cp0_1
  replace cp0_2 := (cell_below hb12 ltp0).trans cp0_2
  replace cp0_3 := (cell_below hb12 ltp0).trans cp0_3
  replace ltp0 := Nat.lt_of_lt_of_le ltp0 hb12.size
  replace cb_w1_0 := (cell_below hb12 ltb_w1).trans cb_w1_0
  replace cb_w1_1 := (cell_below hb12 ltb_w1).trans cb_w1_1
  replace cb_w1_2 := (cell_below hb12 ltb_w1).trans cb_w1_2
  replace cb_w1_3 := (cell_below hb12 ltb_w1).trans cb_w1_3
  replace ltb_w1 := Nat.lt_of_lt_of_le ltb_w1 hb12.size
  replace cb_x0_0 := (cell_below hb12 ltb_x0).trans cb_x0_0
  replace cb_x0_1 := (cell_below hb12 ltb_x0).trans cb_x0_1
  replace cb_x0_2 := (cell_below hb12 ltb_x0).trans cb_x0_2
  replace cb_x0_3 := (cell_below hb12 ltb_x0).trans cb_x0_3
  replace ltb_x0 := Nat.lt_of_lt_of_le ltb_x0 hb12.size
  replace cb_g1_0 := (cell_below hb12 ltb_g1).trans cb_g1_0
  replace cb_g1_1 := (cell_below hb12 ltb_g1).trans cb_g1_1
  replace cb_g1_2 := (cell_below hb12 ltb_g1).trans cb_g1_2
  replace cb_g1_3 := (cell_below hb12 ltb_g1).trans cb_g1_3
  replace ltb_g1 := Nat.lt_of_lt_of_le ltb_g1 hb12.size
  clear hb12
  go_wp2_with fail
  refine (laws_eqLimiter _ hrg1_0 hrg1_1 hrg1_2 hrw1_0 hrw1_1 hrw1_2 (HOg1.rd rfl) (HOw1.rd rfl) (by rw [HZg1.out, HZw1.out]) (by omega)).mono ?_
  rintro e_ W13 ⟨rfl, hb13⟩
  have hs13 : W12.heap.size ≤ W13.heap.size := hb13.size
  have HB13 := below_next HB12 hz12 hb13
  have hz13 : w.heap.size ≤ W13.heap.size := Nat.le_trans hz12 hs13
  replace HO1 := HO1.below hb13
  replace HO2 := HO2.below hb13
  replace HOw0 := HOw0.below hb13
  replace HOw1 := HOw1.below hb13
  replace HO3 := HO3.below hb13
  replace HO4 := HO4.below hb13
  replace HOg0 := HOg0.below hb13
  replace HOg1 := HOg1.below hb13
  replace cp0_0 := (cell_below hb13 ltp0).trans cp0_0
  replace cp0_1 := (cell_below hb13 ltp0).trans cp0_1
  replace cp0_2 := (cell_below hb13 ltp0).trans cp0_2
  replace cp0_3 := (cell_below hb13 ltp0).trans cp0_3
  replace ltp0 := Nat.lt_of_lt_of_le ltp0 hb13.size
  replace cb_w1_0 := (cell_below hb13 ltb_w1).trans cb_w1_0
  replace cb_w1_1 := (cell_below hb13 ltb_w1).trans cb_w1_1
  replace cb_w1_2 := (cell_below hb13 ltb_w1).trans cb_w1_2
  replace cb_w1_3 := (cell_below hb13 ltb_w1).trans cb_w1_3
  replace ltb_w1 := Nat.lt_of_lt_of_le ltb_w1 hb13.size
  replace cb_x0_0 := (cell_below hb13 ltb_x0).trans cb_x0_0
  replace cb_x0_1 := (cell_below hb13 ltb_x0).trans cb_x0_1
  replace cb_x0_2 := (cell_below hb13 ltb_x0).trans cb_x0_2
  replace cb_x0_3 := (cell_below hb13 ltb_x0).trans cb_x0_3
  replace ltb_x0 := Nat.lt_of_lt_of_le ltb_x0 hb13.size
  replace cb_g1_0 := (cell_below hb13 ltb_g1).trans cb_g1_0
  replace cb_g1_1 := (cell_below hb13 ltb_g1).trans cb_g1_1
  replace cb_g1_2 := (cell_below hb13 ltb_g1).trans cb_g1_2
  replace cb_g1_3 := (cell_below hb13 ltb_g1).trans cb_g1_3
  replace ltb_g1 := Nat.lt_of_lt_of_le ltb_g1 hb13.size
  clear hb13
  go_wp2_with fail
  go_upto_region 13 with fail
  go_cut [67] (fun s wx => s = .bool false ∧ Below W13.heap.size W13 wx)
  case first =>
    go_region_with (first
      | (go_at_call 48; refine (laws_toLimiter _ (h0.below (below_drewN HB13 _)) hn0).mono ?_; rintro e_ wq ⟨vq, rfl, HOq, hbq⟩; obtain ⟨Aq, cq, rfl⟩ := HOq.shape_n HL0.out; replace hbq := below_undrawn hbq; have z0_ := (cell_below hbq ltb_x0).trans cb_x0_0; have z1_ := (cell_below hbq ltb_x0).trans cb_x0_1; have z2_ := (cell_below hbq ltb_x0).trans cb_x0_2; have z3_ := (cell_below hbq ltb_x0).trans cb_x0_3)
      | (go_at_call 50; refine (laws_eqLimiter _ hy0_0 hy0_1 hy0_2 hy0_0 hy0_1 hy0_2 ((HO3.below hbq).rd HL0.out) (HOq.rd HL0.out) rfl (by omega)).mono ?_; rintro e_ wr ⟨rfl, hbr⟩))
    all_goals (go_wp2_with fail; go_meet; exact ⟨rfl, below_next hbq hbq.size hbr⟩)
  obtain ⟨rfl, hb14⟩ := hcut
  have hs14 : W13.heap.size ≤ wc.heap.size := hb14.size
  have HB14 := below_next HB13 hz13 hb14
  have hz14 : w.heap.size ≤ wc.heap.size := Nat.le_trans hz13 hs14
  replace HO1 := HO1.below hb14
  replace HO2 := HO2.below hb14
  replace HOw0 := HOw0.below hb14
  replace HOw1 := HOw1.below hb14
  replace HO3 := HO3.below hb14
  replace HO4 := HO4.below hb14
  replace HOg0 := HOg0.below hb14
  replace HOg1 := HOg1.below hb14
  replace cp0_0 := (cell_below hb14 ltp0).trans cp0_0
  replace cp0_1 := (cell_below hb14 ltp0).trans cp0_1
  replace cp0_2 := (cell_below hb14 ltp0).trans cp0_2
  replace cp0_3 := (cell_below hb14 ltp0).trans cp0_3
  replace ltp0 := Nat.lt_of_lt_of_le ltp0 hb14.size
  replace cb_w1_0 := (cell_below hb14 ltb_w1).trans cb_w1_0
  replace cb_w1_1 := (cell_below hb14 ltb_w1).trans cb_w1_1
  replace cb_w1_2 := (cell_below hb14 ltb_w1).trans cb_w1_2
  replace cb_w1_3 := (cell_below hb14 ltb_w1).trans cb_w1_3
  replace ltb_w1 := Nat.lt_of_lt_of_le ltb_w1 hb14.size
  replace cb_x0_0 := (cell_below hb14 ltb_x0).trans cb_x0_0
  replace cb_x0_1 := (cell_below hb14 ltb_x0).trans cb_x0_1
  replace cb_x0_2 := (cell_below hb14 ltb_x0).trans cb_x0_2
  replace cb_x0_3 := (cell_below hb14 ltb_x0).trans cb_x0_3
  replace ltb_x0 := Nat.lt_of_lt_of_le ltb_x0 hb14.size
  replace cb_g1_0 := (cell_below hb14 ltb_g1).trans cb_g1_0
  replace cb_g1_1 := (cell_below hb14 ltb_g1).trans cb_g1_1
  replace cb_g1_2 := (cell_below hb14 ltb_g1).trans cb_g1_2
  replace cb_g1_3 := (cell_below hb14 ltb_g1).trans cb_g1_3
  replace ltb_g1 := Nat.lt_of_lt_of_le ltb_g1 hb14.size
  clear hb14
  go_wp2_with fail
  refine (laws_toFloat32S _ (h1.below HB14) hn1).mono ?_
  rintro e_ W15 ⟨v5, rfl, HO5, hb15⟩
  obtain ⟨A5, c_5, rfl⟩ := HO5.shape_n HL1.out
  have hs15 : wc.heap.size ≤ W15.heap.size := hb15.size
  have HB15 := below_next HB14 hz14 hb15
  have hz15 : w.heap.size ≤ W15.heap.size := Nat.le_trans hz14 hs15
  replace HO1 := HO1.below hb15
  replace HO2 := HO2.below hb15
  replace HOw0 := HOw0.below hb15
  replace HOw1 := HOw1.below hb15
  replace HO3 := HO3.below hb15
  replace HO4 := HO4.below hb15
  replace HOg0 := HOg0.below hb15
  replace HOg1 := HOg1.below hb15
  replace cp0_0 := (cell_below hb15 ltp0).trans cp0_0
  replace cp0_1 := (cell_below hb15 ltp0).trans cp0_1
  replace cp0_2 := (cell_below hb15 ltp0).trans cp0_2
  replace cp0_3 := (cell_below hb15 ltp0).trans cp0_3
  replace ltp0 := Nat.lt_of_lt_of_le ltp0 hb15.size
  replace cb_w1_0 := (cell_below hb15 ltb_w1).trans cb_w1_0
  replace cb_w1_1 := (cell_below hb15 ltb_w1).trans cb_w1_1
  replace cb_w1_2 := (cell_below hb15 ltb_w1).trans cb_w1_2
  replace cb_w1_3 := (cell_below hb15 ltb_w1).trans cb_w1_3
  replace ltb_w1 := Nat.lt_of_lt_of_le ltb_w1 hb15.size
  replace cb_x0_0 := (cell_below hb15 ltb_x0).trans cb_x0_0
  replace cb_x0_1 := (cell_below hb15 ltb_x0).trans cb_x0_1
  replace cb_x0_2 := (cell_below hb15 ltb_x0).trans cb_x0_2
  replace cb_x0_3 := (cell_below hb15 ltb_x0).trans cb_x0_3
  replace ltb_x0 := Nat.lt_of_lt_of_le ltb_x0 hb15.size
  replace cb_g1_0 := (cell_below hb15 ltb_g1).trans cb_g1_0
  replace cb_g1_1 := (cell_below hb15 ltb_g1).trans cb_g1_1
  replace cb_g1_2 := (cell_below hb15 ltb_g1).trans cb_g1_2
  replace cb_g1_3 := (cell_below hb15 ltb_g1).trans cb_g1_3
  replace ltb_g1 := Nat.lt_of_lt_of_le ltb_g1 hb15.size
  have ltA5 := HO5.lt
  have geA5 := HO5.base
  clear hb15
  go_wp2_with fail
  refine (RB.m (laws_eqFloat32S _ (HO4.rd HL1.out) (HO5.rd HL1.out) rfl (by omega))).mono ?_
  rintro e_ W16 ⟨rfl, hb16⟩
  have hs16 : W15.heap.size ≤ W16.heap.size := hb16.size
  have HB16 := below_next HB15 hz15 hb16
  have hz16 : w.heap.size ≤ W16.heap.size := Nat.le_trans hz15 hs16
  replace HO1 := HO1.below hb16
  replace HO2 := HO2.below hb16
  replace HOw0 := HOw0.below hb16
  replace HOw1 := HOw1.below hb16
  replace HO3 := HO3.below hb16
  replace HO4 := HO4.below hb16
  replace HOg0 := HOg0.below hb16
  replace HOg1 := HOg1.below hb16
  replace HO5 := HO5.below hb16
  replace cp0_0 := (cell_below hb16 ltp0).trans cp0_0
  replace cp0_1 := (cell_below hb16 ltp0).trans cp0_1
  replace cp0_2 := (cell_below hb16 ltp0).trans cp0_2
  replace cp0_3 := (cell_below hb16 ltp0).trans cp0_3
  replace ltp0 := Nat.lt_of_lt_of_le ltp0 hb16.size
  replace cb_w1_0 := (cell_below hb16 ltb_w1).trans cb_w1_0
  replace cb_w1_1 := (cell_below hb16 ltb_w1).trans cb_w1_1
  replace cb_w1_2 := (cell_below hb16 ltb_w1).trans cb_w1_2
  replace cb_w1_3 := (cell_below hb16 ltb_w1).trans cb_w1_3
  replace ltb_w1 := Nat.lt_of_lt_of_le ltb_w1 hb16.size
  replace cb_x0_0 := (cell_below hb16 ltb_x0).trans cb_x0_0
  replace cb_x0_1 := (cell_below hb16 ltb_x0).trans cb_x0_1
  replace cb_x0_2 := (cell_below hb16 ltb_x0).trans cb_x0_2
  replace cb_x0_3 := (cell_below hb16 ltb_x0).trans cb_x0_3
  replace ltb_x0 := Nat.lt_of_lt_of_le ltb_x0 hb16.size
  replace cb_g1_0 := (cell_below hb16 ltb_g1).trans cb_g1_0
  replace cb_g1_1 := (cell_below hb16 ltb_g1).trans cb_g1_1
  replace cb_g1_2 := (cell_below hb16 ltb_g1).trans cb_g1_2
  replace cb_g1_3 := (cell_below hb16 ltb_g1).trans cb_g1_3
  replace ltb_g1 := Nat.lt_of_lt_of_le ltb_g1 hb16.size
  clear hb16
  go_wp2_with fail
  refine (laws_markLimiter _ HO3 HL0.out (by omega) (by omega) (by omega)).mono ?_
  clear HO3
  rintro e_ W17 ⟨rfl, HO3, hg17⟩
  have hs17 : W16.heap.size ≤ W17.heap.size := hg17.size
  have HB17 := HB16.grown hg17 hz16 (fun k_ e_ => Nat.le_trans hz6 (geA3 k_ e_))
  have hz17 : w.heap.size ≤ W17.heap.size := Nat.le_trans hz16 hs17
  replace HO1 := HO1.other hg17 (own_apart ltA1 geA3 (by omega))
  replace HO2 := HO2.other hg17 (own_apart ltA2 geA3 (by omega))
  replace HOw0 := HOw0.other hg17 (own_apart ltAw0 geA3 (by omega))
  replace HOw1 := HOw1.other hg17 (own_apart ltAw1 geA3 (by omega))
  replace HO4 := HO4.other hg17 (own_apart' geA4 ltA3 (by omega))
  replace HOg0 := HOg0.other hg17 (own_apart' geAg0 ltA3 (by omega))
  replace HOg1 := HOg1.other hg17 (own_apart' geAg1 ltA3 (by omega))
  replace HO5 := HO5.other hg17 (own_apart' geA5 ltA3 (by omega))
  replace cp0_0 := (cell_grown hg17 ltp0 (fun e_ => by have h1_ := ltA3 _ e_; have h2_ := geA3 _ e_; omega)).trans cp0_0
  replace cp0_1 := (cell_grown hg17 ltp0 (fun e_ => by have h1_ := ltA3 _ e_; have h2_ := geA3 _ e_; omega)).trans cp0_1
  replace cp0_2 := (cell_grown hg17 ltp0 (fun e_ => by have h1_ := ltA3 _ e_; have h2_ := geA3 _ e_; omega)).trans cp0_2
  replace cp0_3 := (cell_grown hg17 ltp0 (fun e_ => by have h1_ := ltA3 _ e_; have h2_ := geA3 _ e_; omega)).trans cp0_3
  replace ltp0 := Nat.lt_of_lt_of_le ltp0 hg17.size
  replace cb_w1_0 := (cell_grown hg17 ltb_w1 (fun e_ => by have h1_ := ltA3 _ e_; have h2_ := geA3 _ e_; omega)).trans cb_w1_0
  replace cb_w1_1 := (cell_grown hg17 ltb_w1 (fun e_ => by have h1_ := ltA3 _ e_; have h2_ := geA3 _ e_; omega)).trans cb_w1_1
  replace cb_w1_2 := (cell_grown hg17 ltb_w1 (fun e_ => by have h1_ := ltA3 _ e_; have h2_ := geA3 _ e_; omega)).trans cb_w1_2
  replace cb_w1_3 := (cell_grown hg17 ltb_w1 (fun e_ => by have h1_ := ltA3 _ e_; have h2_ := geA3 _ e_; omega)).trans cb_w1_3
  replace ltb_w1 := Nat.lt_of_lt_of_le ltb_w1 hg17.size
  replace cb_x0_0 := (cell_grown hg17 ltb_x0 (fun e_ => by have h1_ := ltA3 _ e_; have h2_ := geA3 _ e_; omega)).trans cb_x0_0
  replace cb_x0_1 := (cell_grown hg17 ltb_x0 (fun e_ => by have h1_ := ltA3 _ e_; have h2_ := geA3 _ e_; omega)).trans cb_x0_1
  replace cb_x0_2 := (cell_grown hg17 ltb_x0 (fun e_ => by have h1_ := ltA3 _ e_; have h2_ := geA3 _ e_; omega)).trans cb_x0_2
  replace cb_x0_3 := (cell_grown hg17 ltb_x0 (fun e_ => by have h1_ := ltA3 _ e_; have h2_ := geA3 _ e_; omega)).trans cb_x0_3
  replace ltb_x0 := Nat.lt_of_lt_of_le ltb_x0 hg17.size
  replace cb_g1_0 := (cell_grown hg17 ltb_g1 (fun e_ => by have h1_ := ltA3 _ e_; have h2_ := geA3 _ e_; omega)).trans cb_g1_0
  replace cb_g1_1 := (cell_grown hg17 ltb_g1 (fun e_ => by have h1_ := ltA3 _ e_; have h2_ := geA3 _ e_; omega)).trans cb_g1_1
  replace cb_g1_2 := (cell_grown hg17 ltb_g1 (fun e_ => by have h1_ := ltA3 _ e_; have h2_ := geA3 _ e_; omega)).trans cb_g1_2
  replace cb_g1_3 := (cell_grown hg17 ltb_g1 (fun e_ => by have h1_ := ltA3 _ e_; have h2_ := geA3 _ e_; omega)).trans cb_g1_3
  replace ltb_g1 := Nat.lt_of_lt_of_le ltb_g1 hg17.size
  clear hg17
  go_wp2_with fail
  refine (laws_markFloat32S _ HO4 HL1.out (by omega) (by omega) (by omega)).mono ?_
  clear HO4
  rintro e_ W18 ⟨rfl, HO4, hg18⟩
  have hs18 : W17.heap.size ≤ W18.heap.size := hg18.size
  have HB18 := HB17.grown hg18 hz17 (fun k_ e_ => Nat.le_trans hz8 (geA4 k_ e_))
  have hz18 : w.heap.size ≤ W18.heap.size := Nat.le_trans hz17 hs18
  replace HO1 := HO1.other hg18 (own_apart ltA1 geA4 (by omega))
  replace HO2 := HO2.other hg18 (own_apart ltA2 geA4 (by omega))
  replace HOw0 := HOw0.other hg18 (own_apart ltAw0 geA4 (by omega))
  replace HOw1 := HOw1.other hg18 (own_apart ltAw1 geA4 (by omega))
  replace HO3 := HO3.other hg18 (own_apart ltA3 geA4 (by omega))
  replace HOg0 := HOg0.other hg18 (own_apart' geAg0 ltA4 (by omega))
  replace HOg1 := HOg1.other hg18 (own_apart' geAg1 ltA4 (by omega))
  replace HO5 := HO5.other hg18 (own_apart' geA5 ltA4 (by omega))
  replace cp0_0 := (cell_grown hg18 ltp0 (fun e_ => by have h1_ := ltA4 _ e_; have h2_ := geA4 _ e_; omega)).trans cp0_0
  replace cp0_1 := (cell_grown hg18 ltp0 (fun e_ => by have h1_ := ltA4 _ e_; have h2_ := geA4 _ e_; omega)).trans cp0_1
  replace cp0_2 := (cell_grown hg18 ltp0 (fun e_ => by have h1_ := ltA4 _ e_; have h2_ := geA4 _ e_; omega)).trans cp0_2
  replace cp0_3 := (cell_grown hg18 ltp0 (fun e_ => by have h1_ := ltA4 _ e_; have h2_ := geA4 _ e_; omega)).trans cp0_3
  replace ltp0 := Nat.lt_of_lt_of_le ltp0 hg18.size
  replace cb_w1_0 := (cell_grown hg18 ltb_w1 (fun e_ => by have h1_ := ltA4 _ e_; have h2_ := geA4 _ e_; omega)).trans cb_w1_0
  replace cb_w1_1 := (cell_grown hg18 ltb_w1 (fun e_ => by have h1_ := ltA4 _ e_; have h2_ := geA4 _ e_; omega)).trans cb_w1_1
  replace cb_w1_2 := (cell_grown hg18 ltb_w1 (fun e_ => by have h1_ := ltA4 _ e_; have h2_ := geA4 _ e_; omega)).trans cb_w1_2
  replace cb_w1_3 := (cell_grown hg18 ltb_w1 (fun e_ => by have h1_ := ltA4 _ e_; have h2_ := geA4 _ e_; omega)).trans cb_w1_3
  replace ltb_w1 := Nat.lt_of_lt_of_le ltb_w1 hg18.size
  replace cb_x0_0 := (cell_grown hg18 ltb_x0 (fun e_ => by have h1_ := ltA4 _ e_; have h2_ := geA4 _ e_; omega)).trans cb_x0_0
  replace cb_x0_1 := (cell_grown hg18 ltb_x0 (fun e_ => by have h1_ := ltA4 _ e_; have h2_ := geA4 _ e_; omega)).trans cb_x0_1
  replace cb_x0_2 := (cell_grown hg18 ltb_x0 (fun e_ => by have h1_ := ltA4 _ e_; have h2_ := geA4 _ e_; omega)).trans cb_x0_2
  replace cb_x0_3 := (cell_grown hg18 ltb_x0 (fun e_ => by have h1_ := ltA4 _ e_; have h2_ := geA4 _ e_; omega)).trans cb_x0_3
  replace ltb_x0 := Nat.lt_of_lt_of_le ltb_x0 hg18.size
  replace cb_g1_0 := (cell_grown hg18 ltb_g1 (fun e_ => by have h1_ := ltA4 _ e_; have h2_ := geA4 _ e_; omega)).trans cb_g1_0
  replace cb_g1_1 := (cell_grown hg18 ltb_g1 (fun e_ => by have h1_ := ltA4 _ e_; have h2_ := geA4 _ e_; omega)).trans cb_g1_1
  replace cb_g1_2 := (cell_grown hg18 ltb_g1 (fun e_ => by have h1_ := ltA4 _ e_; have h2_ := geA4 _ e_; omega)).trans cb_g1_2
  replace cb_g1_3 := (cell_grown hg18 ltb_g1 (fun e_ => by have h1_ := ltA4 _ e_; have h2_ := geA4 _ e_; omega)).trans cb_g1_3
  replace ltb_g1 := Nat.lt_of_lt_of_le ltb_g1 hg18.size
  clear hg18
  go_wp2_with fail
  refine (RB.m (laws_eqFloat32S _ (HOg0.rd rfl) (HOw0.rd rfl) (by rw [HZg0.out, HZw0.out]) (by omega))).mono ?_
  rintro e_ W19 ⟨rfl, hb19⟩
  have hs19 : W18.heap.size ≤ W19.heap.size := hb19.size
  have HB19 := below_next HB18 hz18 hb19
  have hz19 : w.heap.size ≤ W19.heap.size := Nat.le_trans hz18 hs19
  replace HO1 := HO1.below hb19
  replace HO2 := HO2.below hb19
  replace HOw0 := HOw0.below hb19
  replace HOw1 := HOw1.below hb19
  replace HO3 := HO3.below hb19
  replace HO4 := HO4.below hb19
  replace HOg0 := HOg0.below hb19
  replace HOg1 := HOg1.below hb19
  replace HO5 := HO5.below hb19
  replace cp0_0 := (cell_below hb19 ltp0).trans cp0_0
  replace cp0_1 := (cell_below hb19 ltp0).trans cp0_1
  replace cp0_2 := (cell_below hb19 ltp0).trans cp0_2
  replace cp0_3 := (cell_below hb19 ltp0).trans cp0_3
  replace ltp0 := Nat.lt_of_lt_of_le ltp0 hb19.size
  replace cb_w1_0 := (cell_below hb19 ltb_w1).trans cb_w1_0
  replace cb_w1_1 := (cell_below hb19 ltb_w1).trans cb_w1_1
  replace cb_w1_2 := (cell_below hb19 ltb_w1).trans cb_w1_2
  replace cb_w1_3 := (cell_below hb19 ltb_w1).trans cb_w1_3
  replace ltb_w1 := Nat.lt_of_lt_of_le ltb_w1 hb19.size
  replace cb_x0_0 := (cell_below hb19 ltb_x0).trans cb_x0_0
  replace cb_x0_1 := (cell_below hb19 ltb_x0).trans cb_x0_1
  replace cb_x0_2 := (cell_below hb19 ltb_x0).trans cb_x0_2
  replace cb_x0_3 := (cell_below hb19 ltb_x0).trans cb_x0_3
  replace ltb_x0 := Nat.lt_of_lt_of_le ltb_x0 hb19.size
  replace cb_g1_0 := (cell_below hb19 ltb_g1).trans cb_g1_0
  replace cb_g1_1 := (cell_below hb19 ltb_g1).trans cb_g1_1
  replace cb_g1_2 := (cell_below hb19 ltb_g1).trans cb_g1_2
  replace cb_g1_3 := (cell_below hb19 ltb_g1).trans cb_g1_3
  replace ltb_g1 := Nat.lt_of_lt_of_le ltb_g1 hb19.size
  clear hb19
  go_wp2_with fail
  refine (laws_eqLimiter _ hrg1_0 hrg1_1 hrg1_2 hrw1_0 hrw1_1 hrw1_2 (HOg1.rd rfl) (HOw1.rd rfl) (by rw [HZg1.out, HZw1.out]) (by omega)).mono ?_
  rintro e_ W20 ⟨rfl, hb20⟩
  have hs20 : W19.heap.size ≤ W20.heap.size := hb20.size
  have HB20 := below_next HB19 hz19 hb20
  have hz20 : w.heap.size ≤ W20.heap.size := Nat.le_trans hz19 hs20
  replace HO1 := HO1.below hb20
  replace HO2 := HO2.below hb20
  replace HOw0 := HOw0.below hb20
  replace HOw1 := HOw1.below hb20
  replace HO3 := HO3.below hb20
  replace HO4 := HO4.below hb20
  replace HOg0 := HOg0.below hb20
  replace HOg1 := HOg1.below hb20
  replace HO5 := HO5.below hb20
  replace cp0_0 := (cell_below hb20 ltp0).trans cp0_0
  replace cp0_1 := (cell_below hb20 ltp0).trans cp0_1
  replace cp0_2 := (cell_below hb20 ltp0).trans cp0_2
  replace cp0_3 := (cell_below hb20 ltp0).trans cp0_3
  replace ltp0 := Nat.lt_of_lt_of_le ltp0 hb20.size
  replace cb_w1_0 := (cell_below hb20 ltb_w1).trans cb_w1_0
  replace cb_w1_1 := (cell_below hb20 ltb_w1).trans cb_w1_1
  replace cb_w1_2 := (cell_below hb20 ltb_w1).trans cb_w1_2
  replace cb_w1_3 := (cell_below hb20 ltb_w1).trans cb_w1_3
  replace ltb_w1 := Nat.lt_of_lt_of_le ltb_w1 hb20.size
  replace cb_x0_0 := (cell_below hb20 ltb_x0).trans cb_x0_0
  replace cb_x0_1 := (cell_below hb20 ltb_x0).trans cb_x0_1
  replace cb_x0_2 := (cell_below hb20 ltb_x0).trans cb_x0_2
  replace cb_x0_3 := (cell_below hb20 ltb_x0).trans cb_x0_3
  replace ltb_x0 := Nat.lt_of_lt_of_le ltb_x0 hb20.size
  replace cb_g1_0 := (cell_below hb20 ltb_g1).trans cb_g1_0
  replace cb_g1_1 := (cell_below hb20 ltb_g1).trans cb_g1_1
  replace cb_g1_2 := (cell_below hb20 ltb_g1).trans cb_g1_2
  replace cb_g1_3 := (cell_below hb20 ltb_g1).trans cb_g1_3
  replace ltb_g1 := Nat.lt_of_lt_of_le ltb_g1 hb20.size
  clear hb20
  go_wp2_with fail
  refine (laws_markFloat32S _ HOg0 rfl (by omega) (by omega) (by omega)).mono ?_
  clear HOg0
  rintro e_ W21 ⟨rfl, HOg0, hg21⟩
  have hs21 : W20.heap.size ≤ W21.heap.size := hg21.size
  have HB21 := HB20.grown hg21 hz20 (fun k_ e_ => Nat.le_trans hz9 (geAg0 k_ e_))
  have hz21 : w.heap.size ≤ W21.heap.size := Nat.le_trans hz20 hs21
  replace HO1 := HO1.other hg21 (own_apart ltA1 geAg0 (by omega))
  replace HO2 := HO2.other hg21 (own_apart ltA2 geAg0 (by omega))
  replace HOw0 := HOw0.other hg21 (own_apart ltAw0 geAg0 (by omega))
  replace HOw1 := HOw1.other hg21 (own_apart ltAw1 geAg0 (by omega))
  replace HO3 := HO3.other hg21 (own_apart ltA3 geAg0 (by omega))
  replace HO4 := HO4.other hg21 (own_apart ltA4 geAg0 (by omega))
  replace HOg1 := HOg1.other hg21 (ne_swap hdg)
  replace HO5 := HO5.other hg21 (own_apart' geA5 ltAg0 (by omega))
  replace cp0_0 := (cell_grown hg21 ltp0 (fun e_ => by have h1_ := ltAg0 _ e_; have h2_ := geAg0 _ e_; omega)).trans cp0_0
  replace cp0_1 := (cell_grown hg21 ltp0 (fun e_ => by have h1_ := ltAg0 _ e_; have h2_ := geAg0 _ e_; omega)).trans cp0_1
  replace cp0_2 := (cell_grown hg21 ltp0 (fun e_ => by have h1_ := ltAg0 _ e_; have h2_ := geAg0 _ e_; omega)).trans cp0_2
  replace cp0_3 := (cell_grown hg21 ltp0 (fun e_ => by have h1_ := ltAg0 _ e_; have h2_ := geAg0 _ e_; omega)).trans cp0_3
  replace ltp0 := Nat.lt_of_lt_of_le ltp0 hg21.size
  replace cb_w1_0 := (cell_grown hg21 ltb_w1 (fun e_ => by have h1_ := ltAg0 _ e_; have h2_ := geAg0 _ e_; omega)).trans cb_w1_0
  replace cb_w1_1 := (cell_grown hg21 ltb_w1 (fun e_ => by have h1_ := ltAg0 _ e_; have h2_ := geAg0 _ e_; omega)).trans cb_w1_1
  replace cb_w1_2 := (cell_grown hg21 ltb_w1 (fun e_ => by have h1_ := ltAg0 _ e_; have h2_ := geAg0 _ e_; omega)).trans cb_w1_2
  replace cb_w1_3 := (cell_grown hg21 ltb_w1 (fun e_ => by have h1_ := ltAg0 _ e_; have h2_ := geAg0 _ e_; omega)).trans cb_w1_3
  replace ltb_w1 := Nat.lt_of_lt_of_le ltb_w1 hg21.size
  replace cb_x0_0 := (cell_grown hg21 ltb_x0 (fun e_ => by have h1_ := ltAg0 _ e_; have h2_ := geAg0 _ e_; omega)).trans cb_x0_0
  replace cb_x0_1 := (cell_grown hg21 ltb_x0 (fun e_ => by have h1_ := ltAg0 _ e_; have h2_ := geAg0 _ e_; omega)).trans cb_x0_1
  replace cb_x0_2 := (cell_grown hg21 ltb_x0 (fun e_ => by have h1_ := ltAg0 _ e_; have h2_ := geAg0 _ e_; omega)).trans cb_x0_2
  replace cb_x0_3 := (cell_grown hg21 ltb_x0 (fun e_ => by have h1_ := ltAg0 _ e_; have h2_ := geAg0 _ e_; omega)).trans cb_x0_3
  replace ltb_x0 := Nat.lt_of_lt_of_le ltb_x0 hg21.size
  replace cb_g1_0 := (cell_grown hg21 ltb_g1 (fun e_ => by have h1_ := ltAg0 _ e_; have h2_ := geAg0 _ e_; omega)).trans cb_g1_0
  replace cb_g1_1 := (cell_grown hg21 ltb_g1 (fun e_ => by have h1_ := ltAg0 _ e_; have h2_ := geAg0 _ e_; omega)).trans cb_g1_1
  replace cb_g1_2 := (cell_grown hg21 ltb_g1 (fun e_ => by have h1_ := ltAg0 _ e_; have h2_ := geAg0 _ e_; omega)).trans cb_g1_2
  replace cb_g1_3 := (cell_grown hg21 ltb_g1 (fun e_ => by have h1_ := ltAg0 _ e_; have h2_ := geAg0 _ e_; omega)).trans cb_g1_3
  replace ltb_g1 := Nat.lt_of_lt_of_le ltb_g1 hg21.size
  clear hg21
  go_wp2_with fail
  refine (laws_markLimiter _ HOg1 rfl (by omega) (by omega) (by omega)).mono ?_
  clear HOg1
  rintro e_ W22 ⟨rfl, HOg1, hg22⟩
  have hs22 : W21.heap.size ≤ W22.heap.size := hg22.size
  have HB22 := HB21.grown hg22 hz21 (fun k_ e_ => Nat.le_trans hz9 (geAg1 k_ e_))
  have hz22 : w.heap.size ≤ W22.heap.size := Nat.le_trans hz21 hs22
  replace HO1 := HO1.other hg22 (own_apart ltA1 geAg1 (by omega))
  replace HO2 := HO2.other hg22 (own_apart ltA2 geAg1 (by omega))
  replace HOw0 := HOw0.other hg22 (own_apart ltAw0 geAg1 (by omega))
  replace HOw1 := HOw1.other hg22 (own_apart ltAw1 geAg1 (by omega))
  replace HO3 := HO3.other hg22 (own_apart ltA3 geAg1 (by omega))
  replace HO4 := HO4.other hg22 (own_apart ltA4 geAg1 (by omega))
  replace HOg0 := HOg0.other hg22 hdg
  replace HO5 := HO5.other hg22 (own_apart' geA5 ltAg1 (by omega))
  replace cp0_0 := (cell_grown hg22 ltp0 (fun e_ => by have h1_ := ltAg1 _ e_; have h2_ := geAg1 _ e_; omega)).trans cp0_0
  replace cp0_1 := (cell_grown hg22 ltp0 (fun e_ => by have h1_ := ltAg1 _ e_; have h2_ := geAg1 _ e_; omega)).trans cp0_1
  replace cp0_2 := (cell_grown hg22 ltp0 (fun e_ => by have h1_ := ltAg1 _ e_; have h2_ := geAg1 _ e_; omega)).trans cp0_2
  replace cp0_3 := (cell_grown hg22 ltp0 (fun e_ => by have h1_ := ltAg1 _ e_; have h2_ := geAg1 _ e_; omega)).trans cp0_3
  replace ltp0 := Nat.lt_of_lt_of_le ltp0 hg22.size
  replace cb_w1_0 := (cell_grown hg22 ltb_w1 (fun e_ => by have h1_ := ltAg1 _ e_; have h2_ := geAg1 _ e_; omega)).trans cb_w1_0
  replace cb_w1_1 := (cell_grown hg22 ltb_w1 (fun e_ => by have h1_ := ltAg1 _ e_; have h2_ := geAg1 _ e_; omega)).trans cb_w1_1
  replace cb_w1_2 := (cell_grown hg22 ltb_w1 (fun e_ => by have h1_ := ltAg1 _ e_; have h2_ := geAg1 _ e_; omega)).trans cb_w1_2
  replace cb_w1_3 := (cell_grown hg22 ltb_w1 (fun e_ => by have h1_ := ltAg1 _ e_; have h2_ := geAg1 _ e_; omega)).trans cb_w1_3
  replace ltb_w1 := Nat.lt_of_lt_of_le ltb_w1 hg22.size
  replace cb_x0_0 := (cell_grown hg22 ltb_x0 (fun e_ => by have h1_ := ltAg1 _ e_; have h2_ := geAg1 _ e_; omega)).trans cb_x0_0
  replace cb_x0_1 := (cell_grown hg22 ltb_x0 (fun e_ => by have h1_ := ltAg1 _ e_; have h2_ := geAg1 _ e_; omega)).trans cb_x0_1
  replace cb_x0_2 := (cell_grown hg22 ltb_x0 (fun e_ => by have h1_ := ltAg1 _ e_; have h2_ := geAg1 _ e_; omega)).trans cb_x0_2
  replace cb_x0_3 := (cell_grown hg22 ltb_x0 (fun e_ => by have h1_ := ltAg1 _ e_; have h2_ := geAg1 _ e_; omega)).trans cb_x0_3
  replace ltb_x0 := Nat.lt_of_lt_of_le ltb_x0 hg22.size
  replace cb_g1_0 := (cell_grown hg22 ltb_g1 (fun e_ => by have h1_ := ltAg1 _ e_; have h2_ := geAg1 _ e_; omega)).trans cb_g1_0
  replace cb_g1_1 := (cell_grown hg22 ltb_g1 (fun e_ => by have h1_ := ltAg1 _ e_; have h2_ := geAg1 _ e_; omega)).trans cb_g1_1
  replace cb_g1_2 := (cell_grown hg22 ltb_g1 (fun e_ => by have h1_ := ltAg1 _ e_; have h2_ := geAg1 _ e_; omega)).trans cb_g1_2
  replace cb_g1_3 := (cell_grown hg22 ltb_g1 (fun e_ => by have h1_ := ltAg1 _ e_; have h2_ := geAg1 _ e_; omega)).trans cb_g1_3
  replace ltb_g1 := Nat.lt_of_lt_of_le ltb_g1 hg22.size
  clear hg22
  go_wp2_with fail
  refine (RH.m (laws_heldFloat32S _ (HOg0.rd (marks_length _ _)) (by omega) (by omega) (by omega))).mono ?_
  rintro e_ W23 ⟨rfl, hb23⟩
  have hs23 : W22.heap.size ≤ W23.heap.size := hb23.size
  have HB23 := below_next HB22 hz22 hb23
  have hz23 : w.heap.size ≤ W23.heap.size := Nat.le_trans hz22 hs23
  replace HO1 := HO1.below hb23
  replace HO2 := HO2.below hb23
  replace HOw0 := HOw0.below hb23
  replace HOw1 := HOw1.below hb23
  replace HO3 := HO3.below hb23
  replace HO4 := HO4.below hb23
  replace HOg0 := HOg0.below hb23
  replace HOg1 := HOg1.below hb23
  replace HO5 := HO5.below hb23
  replace cp0_0 := (cell_below hb23 ltp0).trans cp0_0
  replace cp0_1 := (cell_below hb23 ltp0).trans cp0_1
  replace cp0_2 := (cell_below hb23 ltp0).trans cp0_2
  replace cp0_3 := (cell_below hb23 ltp0).trans cp0_3
  replace ltp0 := Nat.lt_of_lt_of_le ltp0 hb23.size
  replace cb_w1_0 := (cell_below hb23 ltb_w1).trans cb_w1_0
  replace cb_w1_1 := (cell_below hb23 ltb_w1).trans cb_w1_1
  replace cb_w1_2 := (cell_below hb23 ltb_w1).trans cb_w1_2
  replace cb_w1_3 := (cell_below hb23 ltb_w1).trans cb_w1_3
  replace ltb_w1 := Nat.lt_of_lt_of_le ltb_w1 hb23.size
  replace cb_x0_0 := (cell_below hb23 ltb_x0).trans cb_x0_0
  replace cb_x0_1 := (cell_below hb23 ltb_x0).trans cb_x0_1
  replace cb_x0_2 := (cell_below hb23 ltb_x0).trans cb_x0_2
  replace cb_x0_3 := (cell_below hb23 ltb_x0).trans cb_x0_3
  replace ltb_x0 := Nat.lt_of_lt_of_le ltb_x0 hb23.size
  replace cb_g1_0 := (cell_below hb23 ltb_g1).trans cb_g1_0
  replace cb_g1_1 := (cell_below hb23 ltb_g1).trans cb_g1_1
  replace cb_g1_2 := (cell_below hb23 ltb_g1).trans cb_g1_2
  replace cb_g1_3 := (cell_below hb23 ltb_g1).trans cb_g1_3
  replace ltb_g1 := Nat.lt_of_lt_of_le ltb_g1 hb23.size
  clear hb23
  go_wp2_with fail
  refine (laws_heldLimiter _ (HOg1.rd (marks_length _ _)) (by omega) (by omega) (by omega)).mono ?_
  rintro e_ W24 ⟨rfl, hb24⟩
  have hs24 : W23.heap.size ≤ W24.heap.size := hb24.size
  have HB24 := below_next HB23 hz23 hb24
  have hz24 : w.heap.size ≤ W24.heap.size := Nat.le_trans hz23 hs24
  replace HO1 := HO1.below hb24
  replace HO2 := HO2.below hb24
  replace HOw0 := HOw0.below hb24
  replace HOw1 := HOw1.below hb24
  replace HO3 := HO3.below hb24
  replace HO4 := HO4.below hb24
  replace HOg0 := HOg0.below hb24
  replace HOg1 := HOg1.below hb24
  replace HO5 := HO5.below hb24
  replace cp0_0 := (cell_below hb24 ltp0).trans cp0_0
  replace cp0_1 := (cell_below hb24 ltp0).trans cp0_1
  replace cp0_2 := (cell_below hb24 ltp0).trans cp0_2
  replace cp0_3 := (cell_below hb24 ltp0).trans cp0_3
  replace ltp0 := Nat.lt_of_lt_of_le ltp0 hb24.size
  replace cb_w1_0 := (cell_below hb24 ltb_w1).trans cb_w1_0
  replace cb_w1_1 := (cell_below hb24 ltb_w1).trans cb_w1_1
  replace cb_w1_2 := (cell_below hb24 ltb_w1).trans cb_w1_2
  replace cb_w1_3 := (cell_below hb24 ltb_w1).trans cb_w1_3
  replace ltb_w1 := Nat.lt_of_lt_of_le ltb_w1 hb24.size
  replace cb_x0_0 := (cell_below hb24 ltb_x0).trans cb_x0_0
  replace cb_x0_1 := (cell_below hb24 ltb_x0).trans cb_x0_1
  replace cb_x0_2 := (cell_below hb24 ltb_x0).trans cb_x0_2
  replace cb_x0_3 := (cell_below hb24 ltb_x0).trans cb_x0_3
  replace ltb_x0 := Nat.lt_of_lt_of_le ltb_x0 hb24.size
  replace cb_g1_0 := (cell_below hb24 ltb_g1).trans cb_g1_0
  replace cb_g1_1 := (cell_below hb24 ltb_g1).trans cb_g1_1
  replace cb_g1_2 := (cell_below hb24 ltb_g1).trans cb_g1_2
  replace cb_g1_3 := (cell_below hb24 ltb_g1).trans cb_g1_3
  replace ltb_g1 := Nat.lt_of_lt_of_le ltb_g1 hb24.size
  clear hb24
  go_wp2_with fail
  refine (laws_toLimiter _ (h0.below HB24) hn0).mono ?_
  rintro e_ W25 ⟨v6, rfl, HO6, hb25⟩
  obtain ⟨A6, c_6, rfl⟩ := HO6.shape_n HL0.out
  have hs25 : W24.heap.size ≤ W25.heap.size := hb25.size
  have HB25 := below_next HB24 hz24 hb25
  have hz25 : w.heap.size ≤ W25.heap.size := Nat.le_trans hz24 hs25
  replace HO1 := HO1.below hb25
  replace HO2 := HO2.below hb25
  replace HOw0 := HOw0.below hb25
  replace HOw1 := HOw1.below hb25
  replace HO3 := HO3.below hb25
  replace HO4 := HO4.below hb25
  replace HOg0 := HOg0.below hb25
  replace HOg1 := HOg1.below hb25
  replace HO5 := HO5.below hb25
  replace cp0_0 := (cell_below hb25 ltp0).trans cp0_0
  replace cp0_1 := (cell_below hb25 ltp0).trans cp0_1
  replace cp0_2 := (cell_below hb25 ltp0).trans cp0_2
  replace cp0_3 := (cell_below hb25 ltp0).trans cp0_3
  replace ltp0 := Nat.lt_of_lt_of_le ltp0 hb25.size
  replace cb_w1_0 := (cell_below hb25 ltb_w1).trans cb_w1_0
  replace cb_w1_1 := (cell_below hb25 ltb_w1).trans cb_w1_1
  replace cb_w1_2 := (cell_below hb25 ltb_w1).trans cb_w1_2
  replace cb_w1_3 := (cell_below hb25 ltb_w1).trans cb_w1_3
  replace ltb_w1 := Nat.lt_of_lt_of_le ltb_w1 hb25.size
  replace cb_x0_0 := (cell_below hb25 ltb_x0).trans cb_x0_0
  replace cb_x0_1 := (cell_below hb25 ltb_x0).trans cb_x0_1
  replace cb_x0_2 := (cell_below hb25 ltb_x0).trans cb_x0_2
  replace cb_x0_3 := (cell_below hb25 ltb_x0).trans cb_x0_3
  replace ltb_x0 := Nat.lt_of_lt_of_le ltb_x0 hb25.size
  replace cb_g1_0 := (cell_below hb25 ltb_g1).trans cb_g1_0
  replace cb_g1_1 := (cell_below hb25 ltb_g1).trans cb_g1_1
  replace cb_g1_2 := (cell_below hb25 ltb_g1).trans cb_g1_2
  replace cb_g1_3 := (cell_below hb25 ltb_g1).trans cb_g1_3
  replace ltb_g1 := Nat.lt_of_lt_of_le ltb_g1 hb25.size
  have ltA6 := HO6.lt
  have geA6 := HO6.base
  clear hb25
  go_wp2_with fail
  refine (laws_toFloat32S _ (h1.below HB25) hn1).mono ?_
  rintro e_ W26 ⟨v7, rfl, HO7, hb26⟩
  obtain ⟨A7, c_7, rfl⟩ := HO7.shape_n HL1.out
  have hs26 : W25.heap.size ≤ W26.heap.size := hb26.size
  have HB26 := below_next HB25 hz25 hb26
  have hz26 : w.heap.size ≤ W26.heap.size := Nat.le_trans hz25 hs26
  replace HO1 := HO1.below hb26
  replace HO2 := HO2.below hb26
  replace HOw0 := HOw0.below hb26
  replace HOw1 := HOw1.below hb26
  replace HO3 := HO3.below hb26
  replace HO4 := HO4.below hb26
  replace HOg0 := HOg0.below hb26
  replace HOg1 := HOg1.below hb26
  replace HO5 := HO5.below hb26
  replace HO6 := HO6.below hb26
  replace cp0_0 := (cell_below hb26 ltp0).trans cp0_0
  replace cp0_1 := (cell_below hb26 ltp0).trans cp0_1
  replace cp0_2 := (cell_below hb26 ltp0).trans cp0_2
  replace cp0_3 := (cell_below hb26 ltp0).trans cp0_3
  replace ltp0 := Nat.lt_of_lt_of_le ltp0 hb26.size
  replace cb_w1_0 := (cell_below hb26 ltb_w1).trans cb_w1_0
  replace cb_w1_1 := (cell_below hb26 ltb_w1).trans cb_w1_1
  replace cb_w1_2 := (cell_below hb26 ltb_w1).trans cb_w1_2
  replace cb_w1_3 := (cell_below hb26 ltb_w1).trans cb_w1_3
  replace ltb_w1 := Nat.lt_of_lt_of_le ltb_w1 hb26.size
  replace cb_x0_0 := (cell_below hb26 ltb_x0).trans cb_x0_0
  replace cb_x0_1 := (cell_below hb26 ltb_x0).trans cb_x0_1
  replace cb_x0_2 := (cell_below hb26 ltb_x0).trans cb_x0_2
  replace cb_x0_3 := (cell_below hb26 ltb_x0).trans cb_x0_3
  replace ltb_x0 := Nat.lt_of_lt_of_le ltb_x0 hb26.size
  replace cb_g1_0 := (cell_below hb26 ltb_g1).trans cb_g1_0
  replace cb_g1_1 := (cell_below hb26 ltb_g1).trans cb_g1_1
  replace cb_g1_2 := (cell_below hb26 ltb_g1).trans cb_g1_2
  replace cb_g1_3 := (cell_below hb26 ltb_g1).trans cb_g1_3
  replace ltb_g1 := Nat.lt_of_lt_of_le ltb_g1 hb26.size
  have ltA7 := HO7.lt
  have geA7 := HO7.base
  clear hb26
  go_wp2_with fail
  refine (impl_RunLimiter _ hy0_0 hy0_1 hy0_2 (HO6.rd HL0.out) hn0 (HO7.rd HL1.out) hn1).mono ?_
  rintro e_ W27 ⟨vh0, zh0, rh1_0, rh1_1, rh1_2, vh1, zh1, rfl, HOh0, hzh0, hmh0, hrh1_0, hrh1_1, hrh1_2, HOh1, hzh1, hmh1, hdh, hb27⟩
  have hs27 : W26.heap.size ≤ W27.heap.size := hb27.size
  have HB27 := below_next HB26 hz26 hb27
  have hz27 : w.heap.size ≤ W27.heap.size := Nat.le_trans hz26 hs27
  replace HO1 := HO1.below hb27
  replace HO2 := HO2.below hb27
  replace HOw0 := HOw0.below hb27
  replace HOw1 := HOw1.below hb27
  replace HO3 := HO3.below hb27
  replace HO4 := HO4.below hb27
  replace HOg0 := HOg0.below hb27
  replace HOg1 := HOg1.below hb27
  replace HO5 := HO5.below hb27
  replace HO6 := HO6.below hb27
  replace HO7 := HO7.below hb27
  replace cp0_0 := (cell_below hb27 ltp0).trans cp0_0
  replace cp0_1 := (cell_below hb27 ltp0).trans cp0_1
  replace cp0_2 := (cell_below hb27 ltp0).trans cp0_2
  replace cp0_3 := (cell_below hb27 ltp0).trans cp0_3
  replace ltp0 := Nat.lt_of_lt_of_le ltp0 hb27.size
  replace cb_w1_0 := (cell_below hb27 ltb_w1).trans cb_w1_0
  replace cb_w1_1 := (cell_below hb27 ltb_w1).trans cb_w1_1
  replace cb_w1_2 := (cell_below hb27 ltb_w1).trans cb_w1_2
  replace cb_w1_3 := (cell_below hb27 ltb_w1).trans cb_w1_3
  replace ltb_w1 := Nat.lt_of_lt_of_le ltb_w1 hb27.size
  replace cb_x0_0 := (cell_below hb27 ltb_x0).trans cb_x0_0
  replace cb_x0_1 := (cell_below hb27 ltb_x0).trans cb_x0_1
  replace cb_x0_2 := (cell_below hb27 ltb_x0).trans cb_x0_2
  replace cb_x0_3 := (cell_below hb27 ltb_x0).trans cb_x0_3
  replace ltb_x0 := Nat.lt_of_lt_of_le ltb_x0 hb27.size
  replace cb_g1_0 := (cell_below hb27 ltb_g1).trans cb_g1_0
  replace cb_g1_1 := (cell_below hb27 ltb_g1).trans cb_g1_1
  replace cb_g1_2 := (cell_below hb27 ltb_g1).trans cb_g1_2
  replace cb_g1_3 := (cell_below hb27 ltb_g1).trans cb_g1_3
  replace ltb_g1 := Nat.lt_of_lt_of_le ltb_g1 hb27.size
  have HZh0 := Lib.hid hzh0; clear hzh0
  obtain ⟨Ah0, c_h0, rfl⟩ := HOh0.shape
  have ltAh0 := HOh0.lt
  have geAh0 := HOh0.base
  have HZh1 := Lib.hid hzh1; clear hzh1
  obtain ⟨Ah1, c_h1, rfl⟩ := HOh1.shape
  have ltAh1 := HOh1.lt
  have geAh1 := HOh1.base
  clear hb27
  go_wp2_with fail
  obtain ⟨b_h1, eb_h1⟩ : ∃ b, W27.heap.size = b := ⟨_, rfl⟩
  obtain ⟨W28, hW28⟩ : ∃ V, V = World.alloc W27 (.cells #[.float .f32 rh1_0, .float .f32 rh1_1, .float .f32 rh1_2, .slice Ah1 zh1.length c_h1] 79) := ⟨_, rfl⟩
  rw [← hW28, eb_h1]
  have hb28 : Below W27.heap.size W27 W28 := by rw [hW28]; exact (Below.refl _ _).alloc (Nat.le_refl _) _
  have cb_h1_0 : W28.cell? ⟨b_h1, 0, none⟩ = some (.float .f32 rh1_0) := by rw [hW28, ← eb_h1]; simp [go_sem]
  have cb_h1_1 : W28.cell? ⟨b_h1, 1, none⟩ = some (.float .f32 rh1_1) := by rw [hW28, ← eb_h1]; simp [go_sem]
  have cb_h1_2 : W28.cell? ⟨b_h1, 2, none⟩ = some (.float .f32 rh1_2) := by rw [hW28, ← eb_h1]; simp [go_sem]
  have cb_h1_3 : W28.cell? ⟨b_h1, 3, none⟩ = some (.slice Ah1 zh1.length c_h1) := by rw [hW28, ← eb_h1]; simp [go_sem]
  have ltb_h1 : b_h1 < W28.heap.size := by rw [hW28, ← eb_h1]; simp
  have lub_h1 := ltb_h1
  clear hW28
  have hs28 : W27.heap.size ≤ W28.heap.size := hb28.size
  have HB28 := below_next HB27 hz27 hb28
  have hz28 : w.heap.size ≤ W28.heap.size := Nat.le_trans hz27 hs28
  replace HO1 := HO1.below hb28
  replace HO2 := HO2.below hb28
  replace HOw0 := HOw0.below hb28
  replace HOw1 := HOw1.below hb28
  replace HO3 := HO3.below hb28
  replace HO4 := HO4.below hb28
  replace HOg0 := HOg0.below hb28
  replace HOg1 := HOg1.below hb28
  replace HO5 := HO5.below hb28
  replace HO6 := HO6.below hb28
  replace HO7 := HO7.below hb28
  replace HOh0 := HOh0.below hb28
  replace HOh1 := HOh1.below hb28
  replace cp0_0 := (cell_below hb28 ltp0).trans cp0_0
  replace cp0_1 := (cell_below hb28 ltp0).trans cp0_1
  replace cp0_2 := (cell_below hb28 ltp0).trans cp0_2
  replace cp0_3 := (cell_below hb28 ltp0).trans cp0_3
  replace ltp0 := Nat.lt_of_lt_of_le ltp0 hb28.size
  replace cb_w1_0 := (cell_below hb28 ltb_w1).trans cb_w1_0
  replace cb_w1_1 := (cell_below hb28 ltb_w1).trans cb_w1_1
  replace cb_w1_2 := (cell_below hb28 ltb_w1).trans cb_w1_2
  replace cb_w1_3 := (cell_below hb28 ltb_w1).trans cb_w1_3
  replace ltb_w1 := Nat.lt_of_lt_of_le ltb_w1 hb28.size
  replace cb_x0_0 := (cell_below hb28 ltb_x0).trans cb_x0_0
  replace cb_x0_1 := (cell_below hb28 ltb_x0).trans cb_x0_1
  replace cb_x0_2 := (cell_below hb28 ltb_x0).trans cb_x0_2
  replace cb_x0_3 := (cell_below hb28 ltb_x0).trans cb_x0_3
  replace ltb_x0 := Nat.lt_of_lt_of_le ltb_x0 hb28.size
  replace cb_g1_0 := (cell_below hb28 ltb_g1).trans cb_g1_0
  replace cb_g1_1 := (cell_below hb28 ltb_g1).trans cb_g1_1
  replace cb_g1_2 := (cell_below hb28 ltb_g1).trans cb_g1_2
  replace cb_g1_3 := (cell_below hb28 ltb_g1).trans cb_g1_3
  replace ltb_g1 := Nat.lt_of_lt_of_le ltb_g1 hb28.size
  clear hb28
  refine (RB.m (laws_eqFloat32S _ (HOh0.rd rfl) (HOw0.rd rfl) (by rw [HZh0.out, HZw0.out]) (by omega))).mono ?_
  rintro e_ W29 ⟨rfl, hb29⟩
  have hs29 : W28.heap.size ≤ W29.heap.size := hb29.size
  have HB29 := below_next HB28 hz28 hb29
  have hz29 : w.heap.size ≤ W29.heap.size := Nat.le_trans hz28 hs29
  replace HO1 := HO1.below hb29
  replace HO2 := HO2.below hb29
  replace HOw0 := HOw0.below hb29
  replace HOw1 := HOw1.below hb29
  replace HO3 := HO3.below hb29
  replace HO4 := HO4.below hb29
  replace HOg0 := HOg0.below hb29
  replace HOg1 := HOg1.below hb29
  replace HO5 := HO5.below hb29
  replace HO6 := HO6.below hb29
  replace HO7 := HO7.below hb29
  replace HOh0 := HOh0.below hb29
  replace HOh1 := HOh1.below hb29
  replace cp0_0 := (cell_below hb29 ltp0).trans cp0_0
  replace cp0_1 := (cell_below hb29 ltp0).trans cp0_1
  replace cp0_2 := (cell_below hb29 ltp0).trans cp0_2
  replace cp0_3 := (cell_below hb29 ltp0).trans cp0_3
  replace ltp0 := Nat.lt_of_lt_of_le ltp0 hb29.size
  replace cb_w1_0 := (cell_below hb29 ltb_w1).trans cb_w1_0
  replace cb_w1_1 := (cell_below hb29 ltb_w1).trans cb_w1_1
  replace cb_w1_2 := (cell_below hb29 ltb_w1).trans cb_w1_2
  replace cb_w1_3 := (cell_below hb29 ltb_w1).trans cb_w1_3
  replace ltb_w1 := Nat.lt_of_lt_of_le ltb_w1 hb29.size
  replace cb_x0_0 := (cell_below hb29 ltb_x0).trans cb_x0_0
  replace cb_x0_1 := (cell_below hb29 ltb_x0).trans cb_x0_1
  replace cb_x0_2 := (cell_below hb29 ltb_x0).trans cb_x0_2
  replace cb_x0_3 := (cell_below hb29 ltb_x0).trans cb_x0_3
  replace ltb_x0 := Nat.lt_of_lt_of_le ltb_x0 hb29.size
  replace cb_g1_0 := (cell_below hb29 ltb_g1).trans cb_g1_0
  replace cb_g1_1 := (cell_below hb29 ltb_g1).trans cb_g1_1
  replace cb_g1_2 := (cell_below hb29 ltb_g1).trans cb_g1_2
  replace cb_g1_3 := (cell_below hb29 ltb_g1).trans cb_g1_3
  replace ltb_g1 := Nat.lt_of_lt_of_le ltb_g1 hb29.size
  replace cb_h1_0 := (cell_below hb29 ltb_h1).trans cb_h1_0
  replace cb_h1_1 := (cell_below hb29 ltb_h1).trans cb_h1_1
  replace cb_h1_2 := (cell_below hb29 ltb_h1).trans cb_h1_2
  replace cb_h1_3 := (cell_below hb29 ltb_h1).trans cb_h1_3
  replace ltb_h1 := Nat.lt_of_lt_of_le ltb_h1 hb29.size
  clear hb29
  go_wp2_with fail
  refine (laws_eqLimiter _ hrh1_0 hrh1_1 hrh1_2 hrw1_0 hrw1_1 hrw1_2 (HOh1.rd rfl) (HOw1.rd rfl) (by rw [HZh1.out, HZw1.out]) (by omega)).mono ?_
  rintro e_ W30 ⟨rfl, hb30⟩
  have hs30 : W29.heap.size ≤ W30.heap.size := hb30.size
  have HB30 := below_next HB29 hz29 hb30
  have hz30 : w.heap.size ≤ W30.heap.size := Nat.le_trans hz29 hs30
  replace HO1 := HO1.below hb30
  replace HO2 := HO2.below hb30
  replace HOw0 := HOw0.below hb30
  replace HOw1 := HOw1.below hb30
  replace HO3 := HO3.below hb30
  replace HO4 := HO4.below hb30
  replace HOg0 := HOg0.below hb30
  replace HOg1 := HOg1.below hb30
  replace HO5 := HO5.below hb30
  replace HO6 := HO6.below hb30
  replace HO7 := HO7.below hb30
  replace HOh0 := HOh0.below hb30
  replace HOh1 := HOh1.below hb30
  replace cp0_0 := (cell_below hb30 ltp0).trans cp0_0
  replace cp0_1 := (cell_below hb30 ltp0).trans cp0_1
  replace cp0_2 := (cell_below hb30 ltp0).trans cp0_2
  replace cp0_3 := (cell_below hb30 ltp0).trans cp0_3
  replace ltp0 := Nat.lt_of_lt_of_le ltp0 hb30.size
  replace cb_w1_0 := (cell_below hb30 ltb_w1).trans cb_w1_0
  replace cb_w1_1 := (cell_below hb30 ltb_w1).trans cb_w1_1
  replace cb_w1_2 := (cell_below hb30 ltb_w1).trans cb_w1_2
  replace cb_w1_3 := (cell_below hb30 ltb_w1).trans cb_w1_3
  replace ltb_w1 := Nat.lt_of_lt_of_le ltb_w1 hb30.size
  replace cb_x0_0 := (cell_below hb30 ltb_x0).trans cb_x0_0
  replace cb_x0_1 := (cell_below hb30 ltb_x0).trans cb_x0_1
  replace cb_x0_2 := (cell_below hb30 ltb_x0).trans cb_x0_2
  replace cb_x0_3 := (cell_below hb30 ltb_x0).trans cb_x0_3
  replace ltb_x0 := Nat.lt_of_lt_of_le ltb_x0 hb30.size
  replace cb_g1_0 := (cell_below hb30 ltb_g1).trans cb_g1_0
  replace cb_g1_1 := (cell_below hb30 ltb_g1).trans cb_g1_1
  replace cb_g1_2 := (cell_below hb30 ltb_g1).trans cb_g1_2
  replace cb_g1_3 := (cell_below hb30 ltb_g1).trans cb_g1_3
  replace ltb_g1 := Nat.lt_of_lt_of_le ltb_g1 hb30.size
  replace cb_h1_0 := (cell_below hb30 ltb_h1).trans cb_h1_0
  replace cb_h1_1 := (cell_below hb30 ltb_h1).trans cb_h1_1
  replace cb_h1_2 := (cell_below hb30 ltb_h1).trans cb_h1_2
  replace cb_h1_3 := (cell_below hb30 ltb_h1).trans cb_h1_3
  replace ltb_h1 := Nat.lt_of_lt_of_le ltb_h1 hb30.size
  clear hb30
  go_wp2_with fail
  refine (RH.m (laws_heldFloat32S _ (HOg0.rd (marks_length _ _)) (by omega) (by omega) (by omega))).mono ?_
  rintro e_ W31 ⟨rfl, hb31⟩
  have hs31 : W30.heap.size ≤ W31.heap.size := hb31.size
  have HB31 := below_next HB30 hz30 hb31
  have hz31 : w.heap.size ≤ W31.heap.size := Nat.le_trans hz30 hs31
  replace HO1 := HO1.below hb31
  replace HO2 := HO2.below hb31
  replace HOw0 := HOw0.below hb31
  replace HOw1 := HOw1.below hb31
  replace HO3 := HO3.below hb31
  replace HO4 := HO4.below hb31
  replace HOg0 := HOg0.below hb31
  replace HOg1 := HOg1.below hb31
  replace HO5 := HO5.below hb31
  replace HO6 := HO6.below hb31
  replace HO7 := HO7.below hb31
  replace HOh0 := HOh0.below hb31
  replace HOh1 := HOh1.below hb31
  replace cp0_0 := (cell_below hb31 ltp0).trans cp0_0
  replace cp0_1 := (cell_below hb31 ltp0).trans cp0_1
  replace cp0_2 := (cell_below hb31 ltp0).trans cp0_2
  replace cp0_3 := (cell_below hb31 ltp0).trans cp0_3
  replace ltp0 := Nat.lt_of_lt_of_le ltp0 hb31.size
  replace cb_w1_0 := (cell_below hb31 ltb_w1).trans cb_w1_0
  replace cb_w1_1 := (cell_below hb31 ltb_w1).trans cb_w1_1
  replace cb_w1_2 := (cell_below hb31 ltb_w1).trans cb_w1_2
  replace cb_w1_3 := (cell_below hb31 ltb_w1).trans cb_w1_3
  replace ltb_w1 := Nat.lt_of_lt_of_le ltb_w1 hb31.size
  replace cb_x0_0 := (cell_below hb31 ltb_x0).trans cb_x0_0
  replace cb_x0_1 := (cell_below hb31 ltb_x0).trans cb_x0_1
  replace cb_x0_2 := (cell_below hb31 ltb_x0).trans cb_x0_2
  replace cb_x0_3 := (cell_below hb31 ltb_x0).trans cb_x0_3
  replace ltb_x0 := Nat.lt_of_lt_of_le ltb_x0 hb31.size
  replace cb_g1_0 := (cell_below hb31 ltb_g1).trans cb_g1_0
  replace cb_g1_1 := (cell_below hb31 ltb_g1).trans cb_g1_1
  replace cb_g1_2 := (cell_below hb31 ltb_g1).trans cb_g1_2
  replace cb_g1_3 := (cell_below hb31 ltb_g1).trans cb_g1_3
  replace ltb_g1 := Nat.lt_of_lt_of_le ltb_g1 hb31.size
  replace cb_h1_0 := (cell_below hb31 ltb_h1).trans cb_h1_0
  replace cb_h1_1 := (cell_below hb31 ltb_h1).trans cb_h1_1
  replace cb_h1_2 := (cell_below hb31 ltb_h1).trans cb_h1_2
  replace cb_h1_3 := (cell_below hb31 ltb_h1).trans cb_h1_3
  replace ltb_h1 := Nat.lt_of_lt_of_le ltb_h1 hb31.size
  clear hb31
  go_wp2_with fail
  refine (laws_heldLimiter _ (HOg1.rd (marks_length _ _)) (by omega) (by omega) (by omega)).mono ?_
  rintro e_ W32 ⟨rfl, hb32⟩
  have hs32 : W31.heap.size ≤ W32.heap.size := hb32.size
  have HB32 := below_next HB31 hz31 hb32
  have hz32 : w.heap.size ≤ W32.heap.size := Nat.le_trans hz31 hs32
  replace HO1 := HO1.below hb32
  replace HO2 := HO2.below hb32
  replace HOw0 := HOw0.below hb32
  replace HOw1 := HOw1.below hb32
  replace HO3 := HO3.below hb32
  replace HO4 := HO4.below hb32
  replace HOg0 := HOg0.below hb32
  replace HOg1 := HOg1.below hb32
  replace HO5 := HO5.below hb32
  replace HO6 := HO6.below hb32
  replace HO7 := HO7.below hb32
  replace HOh0 := HOh0.below hb32
  replace HOh1 := HOh1.below hb32
  replace cp0_0 := (cell_below hb32 ltp0).trans cp0_0
  replace cp0_1 := (cell_below hb32 ltp0).trans cp0_1
  replace cp0_2 := (cell_below hb32 ltp0).trans cp0_2
  replace cp0_3 := (cell_below hb32 ltp0).trans cp0_3
  replace ltp0 := Nat.lt_of_lt_of_le ltp0 hb32.size
  replace cb_w1_0 := (cell_below hb32 ltb_w1).trans cb_w1_0
  replace cb_w1_1 := (cell_below hb32 ltb_w1).trans cb_w1_1
  replace cb_w1_2 := (cell_below hb32 ltb_w1).trans cb_w1_2
  replace cb_w1_3 := (cell_below hb32 ltb_w1).trans cb_w1_3
  replace ltb_w1 := Nat.lt_of_lt_of_le ltb_w1 hb32.size
  replace cb_x0_0 := (cell_below hb32 ltb_x0).trans cb_x0_0
  replace cb_x0_1 := (cell_below hb32 ltb_x0).trans cb_x0_1
  replace cb_x0_2 := (cell_below hb32 ltb_x0).trans cb_x0_2
  replace cb_x0_3 := (cell_below hb32 ltb_x0).trans cb_x0_3
  replace ltb_x0 := Nat.lt_of_lt_of_le ltb_x0 hb32.size
  replace cb_g1_0 := (cell_below hb32 ltb_g1).trans cb_g1_0
  replace cb_g1_1 := (cell_below hb32 ltb_g1).trans cb_g1_1
  replace cb_g1_2 := (cell_below hb32 ltb_g1).trans cb_g1_2
  replace cb_g1_3 := (cell_below hb32 ltb_g1).trans cb_g1_3
  replace ltb_g1 := Nat.lt_of_lt_of_le ltb_g1 hb32.size
  replace cb_h1_0 := (cell_below hb32 ltb_h1).trans cb_h1_0
  replace cb_h1_1 := (cell_below hb32 ltb_h1).trans cb_h1_1
  replace cb_h1_2 := (cell_below hb32 ltb_h1).trans cb_h1_2
  replace cb_h1_3 := (cell_below hb32 ltb_h1).trans cb_h1_3
  replace ltb_h1 := Nat.lt_of_lt_of_le ltb_h1 hb32.size
  clear hb32
  go_wp2_with fail
  go_ret
  exact ⟨rfl, HB32⟩
end Go.Proofs.Ytbaokmapgdnhlaa
