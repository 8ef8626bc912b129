/- The walk of the law on taps. Conditions: none. -/
import Derived.Test.YtbaokmapgdnhlaaM3
set_option linter.unusedVariables false
set_option linter.unusedSimpArgs false
namespace Go.Proofs.Ytbaokmapgdnhlaa
open Go.RowKit
set_option maxHeartbeats 4000000 in
set_option maxRecDepth 100000 in
theorem runTaps_walk (a0 : Option Addr) (n0 c0 : Nat) (l0 : List Value) (a1 : Option Addr) (n1 c1 : Nat) (l1 : List Value) (a2 : Option Addr) (n2 c2 : Nat) (l2 : List Value) (w : World) (w0 : Row w [.i64, .f32] a0 n0 l0) (w1 : Row w [.f32] a1 n1 l1) (w2 : Row w [.f32] a2 n2 l2) :
    Calls Try.prog 6 #[.slice a0 n0 c0, .slice a1 n1 c1, .slice a2 n2 c2] w fun e w' => e = .returned (.bool true) ∧ Below w.heap.size w w' := by
  obtain ⟨x0_0, x0_1, h0⟩ := w0.rdTap
  obtain ⟨x1, h1⟩ := w1.rd
  obtain ⟨x2, h2⟩ := w2.rd
  rcases Nat.lt_or_ge 1048576 n1 with hn1 | hn1
  · go_enter Try.func6, Try.ntmps6
    go_wp2_with fail
    go_ret
    exact ⟨rfl, by (repeat (first | exact Below.refl _ _ | (with_reducible assumption) | refine below_drewN ?_ _ | refine Below.drew ?_ | refine Below.alloc ?_ (by simp; try omega) _))⟩
  rcases Nat.lt_or_ge 1048576 n2 with hn2 | hn2
  · go_enter Try.func6, Try.ntmps6
    go_wp2_with fail
    go_ret
    exact ⟨rfl, by (repeat (first | exact Below.refl _ _ | (with_reducible assumption) | refine below_drewN ?_ _ | refine Below.drew ?_ | refine Below.alloc ?_ (by simp; try omega) _))⟩
  rcases Nat.lt_or_ge 1048576 n0 with hn0 | hn0
  · go_enter Try.func6, Try.ntmps6
    go_wp2_with fail
    refine (laws_szTapS _ (by omega) h0.most).mono ?_
    rintro e w' ⟨rfl, rfl⟩
    rw [if_pos (by omega : ((1048576 : Int) < (n0 : Int)))]
    go_wp2_with fail
    go_ret
    exact ⟨rfl, by (repeat (first | exact Below.refl _ _ | (with_reducible assumption) | refine below_drewN ?_ _ | refine Below.drew ?_ | refine Below.alloc ?_ (by simp; try omega) _))⟩
  have hl0 : n0 = n0 := rfl
  have hl1 := h1.len
  have hl2 := h2.len
  have HL0 := Lib.hid hl0; clear hl0
  have HL1 := Lib.hid hl1; clear hl1
  have HL2 := Lib.hid hl2; clear hl2
  have HB0 : Below w.heap.size w w := Below.refl _ _
  have hz0 : w.heap.size ≤ w.heap.size := Nat.le_refl _
  go_enter Try.func6, Try.ntmps6
  go_wp2_with fail
  refine (laws_szTapS _ (by omega) h0.most).mono ?_
  rintro e w' ⟨rfl, rfl⟩
  rw [if_neg (by omega : ¬ ((1048576 : Int) < (n0 : Int)))]
  go_wp2_with fail
  refine (laws_toTapS _ (h0.below HB0) hn0).mono ?_
  rintro e_ W1 ⟨v1, rfl, HO1, hb1⟩
  obtain ⟨A1, c_1, rfl⟩ := HO1.shape_n (m := n0) rfl
  have hs1 : w.heap.size ≤ W1.heap.size := hb1.size
  have HB1 := below_next HB0 hz0 hb1
  have hz1 : w.heap.size ≤ W1.heap.size := Nat.le_trans hz0 hs1
  have ltA1 := HO1.lt
  have geA1 := HO1.base
  clear hb1
  go_wp2_with fail
  refine (laws_toFloat32S _ (h1.below HB1) hn1).mono ?_
  rintro e_ W2 ⟨v2, rfl, HO2, hb2⟩
  obtain ⟨A2, c_2, rfl⟩ := HO2.shape_n HL1.out
  have hs2 : W1.heap.size ≤ W2.heap.size := hb2.size
  have HB2 := below_next HB1 hz1 hb2
  have hz2 : w.heap.size ≤ W2.heap.size := Nat.le_trans hz1 hs2
  replace HO1 := HO1.below hb2
  have ltA2 := HO2.lt
  have geA2 := HO2.base
  clear hb2
  go_wp2_with fail
  refine (laws_toFloat32S _ (h2.below HB2) hn2).mono ?_
  rintro e_ W3 ⟨v3, rfl, HO3, hb3⟩
  obtain ⟨A3, c_3, rfl⟩ := HO3.shape_n HL2.out
  have hs3 : W2.heap.size ≤ W3.heap.size := hb3.size
  have HB3 := below_next HB2 hz2 hb3
  have hz3 : w.heap.size ≤ W3.heap.size := Nat.le_trans hz2 hs3
  replace HO1 := HO1.below hb3
  replace HO2 := HO2.below hb3
  have ltA3 := HO3.lt
  have geA3 := HO3.base
  clear hb3
  go_wp2_with fail
  refine (spec_RunTaps _ (HO1.rd rfl) hn0 (HO2.rd HL1.out) hn1 (HO3.rd HL2.out) hn2).mono ?_
  rintro e_ W4 ⟨vw0, zw0, vw1, zw1, rfl, HOw0, hzw0, hmw0, HOw1, hzw1, hmw1, hdw, hb4⟩
  have hs4 : W3.heap.size ≤ W4.heap.size := hb4.size
  have HB4 := below_next HB3 hz3 hb4
  have hz4 : w.heap.size ≤ W4.heap.size := Nat.le_trans hz3 hs4
  replace HO1 := HO1.below hb4
  replace HO2 := HO2.below hb4
  replace HO3 := HO3.below hb4
  have HZw0 := Lib.hid hzw0; clear hzw0
  obtain ⟨Aw0, c_w0, rfl⟩ := HOw0.shape
  have ltAw0 := HOw0.lt
  have geAw0 := HOw0.base
  have HZw1 := Lib.hid hzw1; clear hzw1
  obtain ⟨Aw1, c_w1, rfl⟩ := HOw1.shape
  have ltAw1 := HOw1.lt
  have geAw1 := HOw1.base
  clear hb4
  go_wp2_with fail
  refine (laws_toTapS _ (h0.below HB4) hn0).mono ?_
  rintro e_ W5 ⟨v4, rfl, HO4, hb5⟩
  obtain ⟨A4, c_4, rfl⟩ := HO4.shape_n (m := n0) rfl
  have hs5 : W4.heap.size ≤ W5.heap.size := hb5.size
  have HB5 := below_next HB4 hz4 hb5
  have hz5 : w.heap.size ≤ W5.heap.size := Nat.le_trans hz4 hs5
  replace HO1 := HO1.below hb5
  replace HO2 := HO2.below hb5
  replace HO3 := HO3.below hb5
  replace HOw0 := HOw0.below hb5
  replace HOw1 := HOw1.below hb5
  have ltA4 := HO4.lt
  have geA4 := HO4.base
  clear hb5
  go_wp2_with fail
  refine (laws_toFloat32S _ (h1.below HB5) hn1).mono ?_
  rintro e_ W6 ⟨v5, rfl, HO5, hb6⟩
  obtain ⟨A5, c_5, rfl⟩ := HO5.shape_n HL1.out
  have hs6 : W5.heap.size ≤ W6.heap.size := hb6.size
  have HB6 := below_next HB5 hz5 hb6
  have hz6 : w.heap.size ≤ W6.heap.size := Nat.le_trans hz5 hs6
  replace HO1 := HO1.below hb6
  replace HO2 := HO2.below hb6
  replace HO3 := HO3.below hb6
  replace HOw0 := HOw0.below hb6
  replace HOw1 := HOw1.below hb6
  replace HO4 := HO4.below hb6
  have ltA5 := HO5.lt
  have geA5 := HO5.base
  clear hb6
  go_wp2_with fail
  refine (laws_toFloat32S _ (h2.below HB6) hn2).mono ?_
  rintro e_ W7 ⟨v6, rfl, HO6, hb7⟩
  obtain ⟨A6, c_6, rfl⟩ := HO6.shape_n HL2.out
  have hs7 : W6.heap.size ≤ W7.heap.size := hb7.size
  have HB7 := below_next HB6 hz6 hb7
  have hz7 : w.heap.size ≤ W7.heap.size := Nat.le_trans hz6 hs7
  replace HO1 := HO1.below hb7
  replace HO2 := HO2.below hb7
  replace HO3 := HO3.below hb7
  replace HOw0 := HOw0.below hb7
  replace HOw1 := HOw1.below hb7
  replace HO4 := HO4.below hb7
  replace HO5 := HO5.below hb7
  have ltA6 := HO6.lt
  have geA6 := HO6.base
  clear hb7
  go_wp2_with fail
  refine (impl_RunTaps _ (HO4.rd rfl) hn0 (HO5.rd HL1.out) hn1 (HO6.rd HL2.out) hn2).mono ?_
  rintro e_ W8 ⟨vg0, zg0, vg1, zg1, rfl, HOg0, hzg0, hmg0, HOg1, hzg1, hmg1, hdg, hb8⟩
  have hs8 : W7.heap.size ≤ W8.heap.size := hb8.size
  have HB8 := below_next HB7 hz7 hb8
  have hz8 : w.heap.size ≤ W8.heap.size := Nat.le_trans hz7 hs8
  replace HO1 := HO1.below hb8
  replace HO2 := HO2.below hb8
  replace HO3 := HO3.below hb8
  replace HOw0 := HOw0.below hb8
  replace HOw1 := HOw1.below hb8
  replace HO4 := HO4.below hb8
  replace HO5 := HO5.below hb8
  replace HO6 := HO6.below hb8
  have HZg0 := Lib.hid hzg0; clear hzg0
  obtain ⟨Ag0, c_g0, rfl⟩ := HOg0.shape
  have ltAg0 := HOg0.lt
  have geAg0 := HOg0.base
  have HZg1 := Lib.hid hzg1; clear hzg1
  obtain ⟨Ag1, c_g1, rfl⟩ := HOg1.shape
  have ltAg1 := HOg1.lt
  have geAg1 := HOg1.base
  clear hb8
  go_wp2_with fail
  refine (RB.m (laws_eqFloat32S _ (HOg0.rd rfl) (HOw0.rd rfl) (by rw [HZg0.out, HZw0.out]) (by omega))).mono ?_
  rintro e_ W9 ⟨rfl, hb9⟩
  have hs9 : W8.heap.size ≤ W9.heap.size := hb9.size
  have HB9 := below_next HB8 hz8 hb9
  have hz9 : w.heap.size ≤ W9.heap.size := Nat.le_trans hz8 hs9
  replace HO1 := HO1.below hb9
  replace HO2 := HO2.below hb9
  replace HO3 := HO3.below hb9
  replace HOw0 := HOw0.below hb9
  replace HOw1 := HOw1.below hb9
  replace HO4 := HO4.below hb9
  replace HO5 := HO5.below hb9
  replace HO6 := HO6.below hb9
  replace HOg0 := HOg0.below hb9
  replace HOg1 := HOg1.below hb9
  clear hb9
  go_wp2_with fail
  refine (RB.m (laws_eqFloat32S _ (HOg1.rd rfl) (HOw1.rd rfl) (by rw [HZg1.out, HZw1.out]) (by omega))).mono ?_
  rintro e_ W10 ⟨rfl, hb10⟩
  have hs10 : W9.heap.size ≤ W10.heap.size := hb10.size
  have HB10 := below_next HB9 hz9 hb10
  have hz10 : w.heap.size ≤ W10.heap.size := Nat.le_trans hz9 hs10
  replace HO1 := HO1.below hb10
  replace HO2 := HO2.below hb10
  replace HO3 := HO3.below hb10
  replace HOw0 := HOw0.below hb10
  replace HOw1 := HOw1.below hb10
  replace HO4 := HO4.below hb10
  replace HO5 := HO5.below hb10
  replace HO6 := HO6.below hb10
  replace HOg0 := HOg0.below hb10
  replace HOg1 := HOg1.below hb10
  clear hb10
  go_wp2_with fail
  refine (laws_toTapS _ (h0.below HB10) hn0).mono ?_
  rintro e_ W11 ⟨v7, rfl, HO7, hb11⟩
  obtain ⟨A7, c_7, rfl⟩ := HO7.shape_n (m := n0) rfl
  have hs11 : W10.heap.size ≤ W11.heap.size := hb11.size
  have HB11 := below_next HB10 hz10 hb11
  have hz11 : w.heap.size ≤ W11.heap.size := Nat.le_trans hz10 hs11
  replace HO1 := HO1.below hb11
  replace HO2 := HO2.below hb11
  replace HO3 := HO3.below hb11
  replace HOw0 := HOw0.below hb11
  replace HOw1 := HOw1.below hb11
  replace HO4 := HO4.below hb11
  replace HO5 := HO5.below hb11
  replace HO6 := HO6.below hb11
  replace HOg0 := HOg0.below hb11
  replace HOg1 := HOg1.below hb11
  have ltA7 := HO7.lt
  have geA7 := HO7.base
  clear hb11
  go_wp2_with fail
  refine (laws_eqTapS _ (HO4.rd rfl) (HO7.rd rfl) (by omega)).mono ?_
  rintro e_ W12 ⟨rfl, hb12⟩
  have hs12 : W11.heap.size ≤ W12.heap.size := hb12.size
  have HB12 := below_next HB11 hz11 hb12
  have hz12 : w.heap.size ≤ W12.heap.size := Nat.le_trans hz11 hs12
  replace HO1 := HO1.below hb12
  replace HO2 := HO2.below hb12
  replace HO3 := HO3.below hb12
  replace HOw0 := HOw0.below hb12
  replace HOw1 := HOw1.below hb12
  replace HO4 := HO4.below hb12
  replace HO5 := HO5.below hb12
  replace HO6 := HO6.below hb12
  replace HOg0 := HOg0.below hb12
  replace HOg1 := HOg1.below hb12
  replace HO7 := HO7.below hb12
  clear hb12
  go_wp2_with fail
  refine (laws_toFloat32S _ (h1.below HB12) hn1).mono ?_
  rintro e_ W13 ⟨v8, rfl, HO8, hb13⟩
  obtain ⟨A8, c_8, rfl⟩ := HO8.shape_n HL1.out
  have hs13 : W12.heap.size ≤ W13.heap.size := hb13.size
  have HB13 := below_next HB12 hz12 hb13
  have hz13 : w.heap.size ≤ W13.heap.size := Nat.le_trans hz12 hs13
  replace HO1 := HO1.below hb13
  replace HO2 := HO2.below hb13
  replace HO3 := HO3.below hb13
  replace HOw0 := HOw0.below hb13
  replace HOw1 := HOw1.below hb13
  replace HO4 := HO4.below hb13
  replace HO5 := HO5.below hb13
  replace HO6 := HO6.below hb13
  replace HOg0 := HOg0.below hb13
  replace HOg1 := HOg1.below hb13
  replace HO7 := HO7.below hb13
  have ltA8 := HO8.lt
  have geA8 := HO8.base
  clear hb13
  go_wp2_with fail
  refine (RB.m (laws_eqFloat32S _ (HO5.rd HL1.out) (HO8.rd HL1.out) rfl (by omega))).mono ?_
  rintro e_ W14 ⟨rfl, hb14⟩
  have hs14 : W13.heap.size ≤ W14.heap.size := hb14.size
  have HB14 := below_next HB13 hz13 hb14
  have hz14 : w.heap.size ≤ W14.heap.size := Nat.le_trans hz13 hs14
  replace HO1 := HO1.below hb14
  replace HO2 := HO2.below hb14
  replace HO3 := HO3.below hb14
  replace HOw0 := HOw0.below hb14
  replace HOw1 := HOw1.below hb14
  replace HO4 := HO4.below hb14
  replace HO5 := HO5.below hb14
  replace HO6 := HO6.below hb14
  replace HOg0 := HOg0.below hb14
  replace HOg1 := HOg1.below hb14
  replace HO7 := HO7.below hb14
  replace HO8 := HO8.below hb14
  clear hb14
  go_wp2_with fail
  refine (laws_toFloat32S _ (h2.below HB14) hn2).mono ?_
  rintro e_ W15 ⟨v9, rfl, HO9, hb15⟩
  obtain ⟨A9, c_9, rfl⟩ := HO9.shape_n HL2.out
  have hs15 : W14.heap.size ≤ W15.heap.size := hb15.size
  have HB15 := below_next HB14 hz14 hb15
  have hz15 : w.heap.size ≤ W15.heap.size := Nat.le_trans hz14 hs15
  replace HO1 := HO1.below hb15
  replace HO2 := HO2.below hb15
  replace HO3 := HO3.below hb15
  replace HOw0 := HOw0.below hb15
  replace HOw1 := HOw1.below hb15
  replace HO4 := HO4.below hb15
  replace HO5 := HO5.below hb15
  replace HO6 := HO6.below hb15
  replace HOg0 := HOg0.below hb15
  replace HOg1 := HOg1.below hb15
  replace HO7 := HO7.below hb15
  replace HO8 := HO8.below hb15
  have ltA9 := HO9.lt
  have geA9 := HO9.base
  clear hb15
  go_wp2_with fail
  refine (RB.m (laws_eqFloat32S _ (HO6.rd HL2.out) (HO9.rd HL2.out) rfl (by omega))).mono ?_
  rintro e_ W16 ⟨rfl, hb16⟩
  have hs16 : W15.heap.size ≤ W16.heap.size := hb16.size
  have HB16 := below_next HB15 hz15 hb16
  have hz16 : w.heap.size ≤ W16.heap.size := Nat.le_trans hz15 hs16
  replace HO1 := HO1.below hb16
  replace HO2 := HO2.below hb16
  replace HO3 := HO3.below hb16
  replace HOw0 := HOw0.below hb16
  replace HOw1 := HOw1.below hb16
  replace HO4 := HO4.below hb16
  replace HO5 := HO5.below hb16
  replace HO6 := HO6.below hb16
  replace HOg0 := HOg0.below hb16
  replace HOg1 := HOg1.below hb16
  replace HO7 := HO7.below hb16
  replace HO8 := HO8.below hb16
  replace HO9 := HO9.below hb16
  clear hb16
  go_wp2_with fail
  refine (laws_markTapS _ HO4 rfl (by omega) (by omega) (by omega)).mono ?_
  clear HO4
  rintro e_ W17 ⟨rfl, -, hg17⟩
  have hs17 : W16.heap.size ≤ W17.heap.size := hg17.size
  have HB17 := HB16.grown hg17 hz16 (fun k_ e_ => Nat.le_trans hz4 (geA4 k_ e_))
  have hz17 : w.heap.size ≤ W17.heap.size := Nat.le_trans hz16 hs17
  replace HO1 := HO1.other hg17 (own_apart ltA1 geA4 (by omega))
  replace HO2 := HO2.other hg17 (own_apart ltA2 geA4 (by omega))
  replace HO3 := HO3.other hg17 (own_apart ltA3 geA4 (by omega))
  replace HOw0 := HOw0.other hg17 (own_apart ltAw0 geA4 (by omega))
  replace HOw1 := HOw1.other hg17 (own_apart ltAw1 geA4 (by omega))
  replace HO5 := HO5.other hg17 (own_apart' geA5 ltA4 (by omega))
  replace HO6 := HO6.other hg17 (own_apart' geA6 ltA4 (by omega))
  replace HOg0 := HOg0.other hg17 (own_apart' geAg0 ltA4 (by omega))
  replace HOg1 := HOg1.other hg17 (own_apart' geAg1 ltA4 (by omega))
  replace HO7 := HO7.other hg17 (own_apart' geA7 ltA4 (by omega))
  replace HO8 := HO8.other hg17 (own_apart' geA8 ltA4 (by omega))
  replace HO9 := HO9.other hg17 (own_apart' geA9 ltA4 (by omega))
  clear hg17
  go_wp2_with fail
  refine (laws_markFloat32S _ HO5 HL1.out (by omega) (by omega) (by omega)).mono ?_
  clear HO5
  rintro e_ W18 ⟨rfl, HO5, hg18⟩
  have hs18 : W17.heap.size ≤ W18.heap.size := hg18.size
  have HB18 := HB17.grown hg18 hz17 (fun k_ e_ => Nat.le_trans hz5 (geA5 k_ e_))
  have hz18 : w.heap.size ≤ W18.heap.size := Nat.le_trans hz17 hs18
  replace HO1 := HO1.other hg18 (own_apart ltA1 geA5 (by omega))
  replace HO2 := HO2.other hg18 (own_apart ltA2 geA5 (by omega))
  replace HO3 := HO3.other hg18 (own_apart ltA3 geA5 (by omega))
  replace HOw0 := HOw0.other hg18 (own_apart ltAw0 geA5 (by omega))
  replace HOw1 := HOw1.other hg18 (own_apart ltAw1 geA5 (by omega))
  replace HO6 := HO6.other hg18 (own_apart' geA6 ltA5 (by omega))
  replace HOg0 := HOg0.other hg18 (own_apart' geAg0 ltA5 (by omega))
  replace HOg1 := HOg1.other hg18 (own_apart' geAg1 ltA5 (by omega))
  replace HO7 := HO7.other hg18 (own_apart' geA7 ltA5 (by omega))
  replace HO8 := HO8.other hg18 (own_apart' geA8 ltA5 (by omega))
  replace HO9 := HO9.other hg18 (own_apart' geA9 ltA5 (by omega))
  clear hg18
  go_wp2_with fail
  refine (laws_markFloat32S _ HO6 HL2.out (by omega) (by omega) (by omega)).mono ?_
  clear HO6
  rintro e_ W19 ⟨rfl, HO6, hg19⟩
  have hs19 : W18.heap.size ≤ W19.heap.size := hg19.size
  have HB19 := HB18.grown hg19 hz18 (fun k_ e_ => Nat.le_trans hz6 (geA6 k_ e_))
  have hz19 : w.heap.size ≤ W19.heap.size := Nat.le_trans hz18 hs19
  replace HO1 := HO1.other hg19 (own_apart ltA1 geA6 (by omega))
  replace HO2 := HO2.other hg19 (own_apart ltA2 geA6 (by omega))
  replace HO3 := HO3.other hg19 (own_apart ltA3 geA6 (by omega))
  replace HOw0 := HOw0.other hg19 (own_apart ltAw0 geA6 (by omega))
  replace HOw1 := HOw1.other hg19 (own_apart ltAw1 geA6 (by omega))
  replace HO5 := HO5.other hg19 (own_apart ltA5 geA6 (by omega))
  replace HOg0 := HOg0.other hg19 (own_apart' geAg0 ltA6 (by omega))
  replace HOg1 := HOg1.other hg19 (own_apart' geAg1 ltA6 (by omega))
  replace HO7 := HO7.other hg19 (own_apart' geA7 ltA6 (by omega))
  replace HO8 := HO8.other hg19 (own_apart' geA8 ltA6 (by omega))
  replace HO9 := HO9.other hg19 (own_apart' geA9 ltA6 (by omega))
  clear hg19
  go_wp2_with fail
  refine (RB.m (laws_eqFloat32S _ (HOg0.rd rfl) (HOw0.rd rfl) (by rw [HZg0.out, HZw0.out]) (by omega))).mono ?_
  rintro e_ W20 ⟨rfl, hb20⟩
  have hs20 : W19.heap.size ≤ W20.heap.size := hb20.size
  have HB20 := below_next HB19 hz19 hb20
  have hz20 : w.heap.size ≤ W20.heap.size := Nat.le_trans hz19 hs20
  replace HO1 := HO1.below hb20
  replace HO2 := HO2.below hb20
  replace HO3 := HO3.below hb20
  replace HOw0 := HOw0.below hb20
  replace HOw1 := HOw1.below hb20
  replace HO5 := HO5.below hb20
  replace HO6 := HO6.below hb20
  replace HOg0 := HOg0.below hb20
  replace HOg1 := HOg1.below hb20
  replace HO7 := HO7.below hb20
  replace HO8 := HO8.below hb20
  replace HO9 := HO9.below hb20
  clear hb20
  go_wp2_with fail
  refine (RB.m (laws_eqFloat32S _ (HOg1.rd rfl) (HOw1.rd rfl) (by rw [HZg1.out, HZw1.out]) (by omega))).mono ?_
  rintro e_ W21 ⟨rfl, hb21⟩
  have hs21 : W20.heap.size ≤ W21.heap.size := hb21.size
  have HB21 := below_next HB20 hz20 hb21
  have hz21 : w.heap.size ≤ W21.heap.size := Nat.le_trans hz20 hs21
  replace HO1 := HO1.below hb21
  replace HO2 := HO2.below hb21
  replace HO3 := HO3.below hb21
  replace HOw0 := HOw0.below hb21
  replace HOw1 := HOw1.below hb21
  replace HO5 := HO5.below hb21
  replace HO6 := HO6.below hb21
  replace HOg0 := HOg0.below hb21
  replace HOg1 := HOg1.below hb21
  replace HO7 := HO7.below hb21
  replace HO8 := HO8.below hb21
  replace HO9 := HO9.below hb21
  clear hb21
  go_wp2_with fail
  refine (laws_markFloat32S _ HOg0 rfl (by omega) (by omega) (by omega)).mono ?_
  clear HOg0
  rintro e_ W22 ⟨rfl, HOg0, hg22⟩
  have hs22 : W21.heap.size ≤ W22.heap.size := hg22.size
  have HB22 := HB21.grown hg22 hz21 (fun k_ e_ => Nat.le_trans hz7 (geAg0 k_ e_))
  have hz22 : w.heap.size ≤ W22.heap.size := Nat.le_trans hz21 hs22
  replace HO1 := HO1.other hg22 (own_apart ltA1 geAg0 (by omega))
  replace HO2 := HO2.other hg22 (own_apart ltA2 geAg0 (by omega))
  replace HO3 := HO3.other hg22 (own_apart ltA3 geAg0 (by omega))
  replace HOw0 := HOw0.other hg22 (own_apart ltAw0 geAg0 (by omega))
  replace HOw1 := HOw1.other hg22 (own_apart ltAw1 geAg0 (by omega))
  replace HO5 := HO5.other hg22 (own_apart ltA5 geAg0 (by omega))
  replace HO6 := HO6.other hg22 (own_apart ltA6 geAg0 (by omega))
  replace HOg1 := HOg1.other hg22 (ne_swap hdg)
  replace HO7 := HO7.other hg22 (own_apart' geA7 ltAg0 (by omega))
  replace HO8 := HO8.other hg22 (own_apart' geA8 ltAg0 (by omega))
  replace HO9 := HO9.other hg22 (own_apart' geA9 ltAg0 (by omega))
  clear hg22
  go_wp2_with fail
  refine (laws_markFloat32S _ HOg1 rfl (by omega) (by omega) (by omega)).mono ?_
  clear HOg1
  rintro e_ W23 ⟨rfl, HOg1, hg23⟩
  have hs23 : W22.heap.size ≤ W23.heap.size := hg23.size
  have HB23 := HB22.grown hg23 hz22 (fun k_ e_ => Nat.le_trans hz7 (geAg1 k_ e_))
  have hz23 : w.heap.size ≤ W23.heap.size := Nat.le_trans hz22 hs23
  replace HO1 := HO1.other hg23 (own_apart ltA1 geAg1 (by omega))
  replace HO2 := HO2.other hg23 (own_apart ltA2 geAg1 (by omega))
  replace HO3 := HO3.other hg23 (own_apart ltA3 geAg1 (by omega))
  replace HOw0 := HOw0.other hg23 (own_apart ltAw0 geAg1 (by omega))
  replace HOw1 := HOw1.other hg23 (own_apart ltAw1 geAg1 (by omega))
  replace HO5 := HO5.other hg23 (own_apart ltA5 geAg1 (by omega))
  replace HO6 := HO6.other hg23 (own_apart ltA6 geAg1 (by omega))
  replace HOg0 := HOg0.other hg23 hdg
  replace HO7 := HO7.other hg23 (own_apart' geA7 ltAg1 (by omega))
  replace HO8 := HO8.other hg23 (own_apart' geA8 ltAg1 (by omega))
  replace HO9 := HO9.other hg23 (own_apart' geA9 ltAg1 (by omega))
  clear hg23
  go_wp2_with fail
  refine (RH.m (laws_heldFloat32S _ (HOg0.rd (marks_length _ _)) (by omega) (by omega) (by omega))).mono ?_
  rintro e_ W24 ⟨rfl, hb24⟩
  have hs24 : W23.heap.size ≤ W24.heap.size := hb24.size
  have HB24 := below_next HB23 hz23 hb24
  have hz24 : w.heap.size ≤ W24.heap.size := Nat.le_trans hz23 hs24
  replace HO1 := HO1.below hb24
  replace HO2 := HO2.below hb24
  replace HO3 := HO3.below hb24
  replace HOw0 := HOw0.below hb24
  replace HOw1 := HOw1.below hb24
  replace HO5 := HO5.below hb24
  replace HO6 := HO6.below hb24
  replace HOg0 := HOg0.below hb24
  replace HOg1 := HOg1.below hb24
  replace HO7 := HO7.below hb24
  replace HO8 := HO8.below hb24
  replace HO9 := HO9.below hb24
  clear hb24
  go_wp2_with fail
  refine (RH.m (laws_heldFloat32S _ (HOg1.rd (marks_length _ _)) (by omega) (by omega) (by omega))).mono ?_
  rintro e_ W25 ⟨rfl, hb25⟩
  have hs25 : W24.heap.size ≤ W25.heap.size := hb25.size
  have HB25 := below_next HB24 hz24 hb25
  have hz25 : w.heap.size ≤ W25.heap.size := Nat.le_trans hz24 hs25
  replace HO1 := HO1.below hb25
  replace HO2 := HO2.below hb25
  replace HO3 := HO3.below hb25
  replace HOw0 := HOw0.below hb25
  replace HOw1 := HOw1.below hb25
  replace HO5 := HO5.below hb25
  replace HO6 := HO6.below hb25
  replace HOg0 := HOg0.below hb25
  replace HOg1 := HOg1.below hb25
  replace HO7 := HO7.below hb25
  replace HO8 := HO8.below hb25
  replace HO9 := HO9.below hb25
  clear hb25
  go_wp2_with fail
  refine (laws_toTapS _ (h0.below HB25) hn0).mono ?_
  rintro e_ W26 ⟨v10, rfl, HO10, hb26⟩
  obtain ⟨A10, c_10, rfl⟩ := HO10.shape_n (m := n0) rfl
  have hs26 : W25.heap.size ≤ W26.heap.size := hb26.size
  have HB26 := below_next HB25 hz25 hb26
  have hz26 : w.heap.size ≤ W26.heap.size := Nat.le_trans hz25 hs26
  replace HO1 := HO1.below hb26
  replace HO2 := HO2.below hb26
  replace HO3 := HO3.below hb26
  replace HOw0 := HOw0.below hb26
  replace HOw1 := HOw1.below hb26
  replace HO5 := HO5.below hb26
  replace HO6 := HO6.below hb26
  replace HOg0 := HOg0.below hb26
  replace HOg1 := HOg1.below hb26
  replace HO7 := HO7.below hb26
  replace HO8 := HO8.below hb26
  replace HO9 := HO9.below hb26
  have ltA10 := HO10.lt
  have geA10 := HO10.base
  clear hb26
  go_wp2_with fail
  refine (laws_toFloat32S _ (h1.below HB26) hn1).mono ?_
  rintro e_ W27 ⟨v11, rfl, HO11, hb27⟩
  obtain ⟨A11, c_11, rfl⟩ := HO11.shape_n HL1.out
  have hs27 : W26.heap.size ≤ W27.heap.size := hb27.size
  have HB27 := below_next HB26 hz26 hb27
  have hz27 : w.heap.size ≤ W27.heap.size := Nat.le_trans hz26 hs27
  replace HO1 := HO1.below hb27
  replace HO2 := HO2.below hb27
  replace HO3 := HO3.below hb27
  replace HOw0 := HOw0.below hb27
  replace HOw1 := HOw1.below hb27
  replace HO5 := HO5.below hb27
  replace HO6 := HO6.below hb27
  replace HOg0 := HOg0.below hb27
  replace HOg1 := HOg1.below hb27
  replace HO7 := HO7.below hb27
  replace HO8 := HO8.below hb27
  replace HO9 := HO9.below hb27
  replace HO10 := HO10.below hb27
  have ltA11 := HO11.lt
  have geA11 := HO11.base
  clear hb27
  go_wp2_with fail
  refine (laws_toFloat32S _ (h2.below HB27) hn2).mono ?_
  rintro e_ W28 ⟨v12, rfl, HO12, hb28⟩
  obtain ⟨A12, c_12, rfl⟩ := HO12.shape_n HL2.out
  have hs28 : W27.heap.size ≤ W28.heap.size := hb28.size
  have HB28 := below_next HB27 hz27 hb28
  have hz28 : w.heap.size ≤ W28.heap.size := Nat.le_trans hz27 hs28
  replace HO1 := HO1.below hb28
  replace HO2 := HO2.below hb28
  replace HO3 := HO3.below hb28
  replace HOw0 := HOw0.below hb28
  replace HOw1 := HOw1.below hb28
  replace HO5 := HO5.below hb28
  replace HO6 := HO6.below hb28
  replace HOg0 := HOg0.below hb28
  replace HOg1 := HOg1.below hb28
  replace HO7 := HO7.below hb28
  replace HO8 := HO8.below hb28
  replace HO9 := HO9.below hb28
  replace HO10 := HO10.below hb28
  replace HO11 := HO11.below hb28
  have ltA12 := HO12.lt
  have geA12 := HO12.base
  clear hb28
  go_wp2_with fail
  refine (impl_RunTaps _ (HO10.rd rfl) hn0 (HO11.rd HL1.out) hn1 (HO12.rd HL2.out) hn2).mono ?_
  rintro e_ W29 ⟨vh0, zh0, vh1, zh1, rfl, HOh0, hzh0, hmh0, HOh1, hzh1, hmh1, hdh, hb29⟩
  have hs29 : W28.heap.size ≤ W29.heap.size := hb29.size
  have HB29 := below_next HB28 hz28 hb29
  have hz29 : w.heap.size ≤ W29.heap.size := Nat.le_trans hz28 hs29
  replace HO1 := HO1.below hb29
  replace HO2 := HO2.below hb29
  replace HO3 := HO3.below hb29
  replace HOw0 := HOw0.below hb29
  replace HOw1 := HOw1.below hb29
  replace HO5 := HO5.below hb29
  replace HO6 := HO6.below hb29
  replace HOg0 := HOg0.below hb29
  replace HOg1 := HOg1.below hb29
  replace HO7 := HO7.below hb29
  replace HO8 := HO8.below hb29
  replace HO9 := HO9.below hb29
  replace HO10 := HO10.below hb29
  replace HO11 := HO11.below hb29
  replace HO12 := HO12.below hb29
  have HZh0 := Lib.hid hzh0; clear hzh0
  obtain ⟨Ah0, c_h0, rfl⟩ := HOh0.shape
  have ltAh0 := HOh0.lt
  have geAh0 := HOh0.base
  have HZh1 := Lib.hid hzh1; clear hzh1
  obtain ⟨Ah1, c_h1, rfl⟩ := HOh1.shape
  have ltAh1 := HOh1.lt
  have geAh1 := HOh1.base
  clear hb29
  go_wp2_with fail
  refine (RB.m (laws_eqFloat32S _ (HOh0.rd rfl) (HOw0.rd rfl) (by rw [HZh0.out, HZw0.out]) (by omega))).mono ?_
  rintro e_ W30 ⟨rfl, hb30⟩
  have hs30 : W29.heap.size ≤ W30.heap.size := hb30.size
  have HB30 := below_next HB29 hz29 hb30
  have hz30 : w.heap.size ≤ W30.heap.size := Nat.le_trans hz29 hs30
  replace HO1 := HO1.below hb30
  replace HO2 := HO2.below hb30
  replace HO3 := HO3.below hb30
  replace HOw0 := HOw0.below hb30
  replace HOw1 := HOw1.below hb30
  replace HO5 := HO5.below hb30
  replace HO6 := HO6.below hb30
  replace HOg0 := HOg0.below hb30
  replace HOg1 := HOg1.below hb30
  replace HO7 := HO7.below hb30
  replace HO8 := HO8.below hb30
  replace HO9 := HO9.below hb30
  replace HO10 := HO10.below hb30
  replace HO11 := HO11.below hb30
  replace HO12 := HO12.below hb30
  replace HOh0 := HOh0.below hb30
  replace HOh1 := HOh1.below hb30
  clear hb30
  go_wp2_with fail
  refine (RB.m (laws_eqFloat32S _ (HOh1.rd rfl) (HOw1.rd rfl) (by rw [HZh1.out, HZw1.out]) (by omega))).mono ?_
  rintro e_ W31 ⟨rfl, hb31⟩
  have hs31 : W30.heap.size ≤ W31.heap.size := hb31.size
  have HB31 := below_next HB30 hz30 hb31
  have hz31 : w.heap.size ≤ W31.heap.size := Nat.le_trans hz30 hs31
  replace HO1 := HO1.below hb31
  replace HO2 := HO2.below hb31
  replace HO3 := HO3.below hb31
  replace HOw0 := HOw0.below hb31
  replace HOw1 := HOw1.below hb31
  replace HO5 := HO5.below hb31
  replace HO6 := HO6.below hb31
  replace HOg0 := HOg0.below hb31
  replace HOg1 := HOg1.below hb31
  replace HO7 := HO7.below hb31
  replace HO8 := HO8.below hb31
  replace HO9 := HO9.below hb31
  replace HO10 := HO10.below hb31
  replace HO11 := HO11.below hb31
  replace HO12 := HO12.below hb31
  replace HOh0 := HOh0.below hb31
  replace HOh1 := HOh1.below hb31
  clear hb31
  go_wp2_with fail
  refine (RH.m (laws_heldFloat32S _ (HOg0.rd (marks_length _ _)) (by omega) (by omega) (by omega))).mono ?_
  rintro e_ W32 ⟨rfl, hb32⟩
  have hs32 : W31.heap.size ≤ W32.heap.size := hb32.size
  have HB32 := below_next HB31 hz31 hb32
  have hz32 : w.heap.size ≤ W32.heap.size := Nat.le_trans hz31 hs32
  replace HO1 := HO1.below hb32
  replace HO2 := HO2.below hb32
  replace HO3 := HO3.below hb32
  replace HOw0 := HOw0.below hb32
  replace HOw1 := HOw1.below hb32
  replace HO5 := HO5.below hb32
  replace HO6 := HO6.below hb32
  replace HOg0 := HOg0.below hb32
  replace HOg1 := HOg1.below hb32
  replace HO7 := HO7.below hb32
  replace HO8 := HO8.below hb32
  replace HO9 := HO9.below hb32
  replace HO10 := HO10.below hb32
  replace HO11 := HO11.below hb32
  replace HO12 := HO12.below hb32
  replace HOh0 := HOh0.below hb32
  replace HOh1 := HOh1.below hb32
  clear hb32
  go_wp2_with fail
  refine (RH.m (laws_heldFloat32S _ (HOg1.rd (marks_length _ _)) (by omega) (by omega) (by omega))).mono ?_
  rintro e_ W33 ⟨rfl, hb33⟩
  have hs33 : W32.heap.size ≤ W33.heap.size := hb33.size
  have HB33 := below_next HB32 hz32 hb33
  have hz33 : w.heap.size ≤ W33.heap.size := Nat.le_trans hz32 hs33
  replace HO1 := HO1.below hb33
  replace HO2 := HO2.below hb33
  replace HO3 := HO3.below hb33
  replace HOw0 := HOw0.below hb33
  replace HOw1 := HOw1.below hb33
  replace HO5 := HO5.below hb33
  replace HO6 := HO6.below hb33
  replace HOg0 := HOg0.below hb33
  replace HOg1 := HOg1.below hb33
  replace HO7 := HO7.below hb33
  replace HO8 := HO8.below hb33
  replace HO9 := HO9.below hb33
  replace HO10 := HO10.below hb33
  replace HO11 := HO11.below hb33
  replace HO12 := HO12.below hb33
  replace HOh0 := HOh0.below hb33
  replace HOh1 := HOh1.below hb33
  clear hb33
  go_wp2_with fail
  go_ret
  exact ⟨rfl, HB33⟩
end Go.Proofs.Ytbaokmapgdnhlaa
