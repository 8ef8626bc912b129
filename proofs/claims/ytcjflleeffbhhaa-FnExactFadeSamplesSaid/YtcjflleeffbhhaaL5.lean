/- The walk of the law on fades. Conditions: none beside the contracts' own. -/
import Derived.Test.YtcjflleeffbhhaaL2
set_option linter.unusedVariables false
set_option linter.unusedSimpArgs false
namespace Go.Proofs.Ytcjflleeffbhhaa
open Go.RowKit

/-! ### Fades -/
def fadeC (n : Nat) (F T : Option Nat) (i : Nat) (X : Option Nat) : Option Nat := fmul X (fadd F (fmul (fsub T F) (fop .quo .f32 (some (floatOfInt .f32 (i : Int))) (some (floatOfInt .f32 (n : Int))))))
theorem idx_snoc {xs : List Nat} {k : Nat} {X : Option Nat} (f : Nat → Option Nat → Option Nat) (h : (clss xs)[k]? = some X) : ((clss xs).take (k + 1)).mapIdx f = ((clss xs).take k).mapIdx f ++ [f k X] := by
  have hk : k < (clss xs).length := by
    rcases Nat.lt_or_ge k (clss xs).length with h1 | h1
    · exact h1
    · rw [List.getElem?_eq_none h1] at h; cases h
  rw [clss_snoc h, List.mapIdx_concat, List.length_take, Nat.min_eq_left (Nat.le_of_lt hk)]
def fadeNC (n : Nat) (X : List (Option Nat)) (F T : Option Nat) : List (Option Nat) := if few n = true then X.mapIdx (fadeC n F T) else []
set_option maxHeartbeats 800000 in
theorem spec_FadeSamples {A : Option Addr} {n c : Nat} {xs : List Nat} {p q : Nat} {F T : Option Nat} (w : World) (h : Rd w A n xs) (hn : n ≤ 1048576) (hp : Fl .f32 p F) (hq : Fl .f32 q T) : Calls Try.prog 34 #[.slice A n c, .float .f32 p, .float .f32 q] w (RSB (fadeNC n (clss xs) F T) (few n) w) := by
  unfold fadeNC
  cases hf : few n <;> simp only [Bool.false_eq_true, if_true, if_false]
  · go_enter Try.func34, Try.ntmps34
    go_wp2_with (go_at_call 47; refine (spec_l01Few hn _).mono ?_; rintro e w' ⟨rfl, rfl⟩)
    go_ret2
    exact ⟨_, _, rfl, .nil _ _ _, rfl, by simp, Below.refl _ _⟩
  · go_enter Try.func34, Try.ntmps34
    go_wp2_with (go_at_call 47; refine (spec_l01Few hn _).mono ?_; rintro e w' ⟨rfl, rfl⟩)
    clear hf
    go_loopw [8, 9] (fun v i w' => ∃ k zs, k ≤ n ∧ i = .int .i64 (k : Nat) ∧ Of w' w.heap.size v zs ∧ Hid (clss zs = ((clss xs).take k).mapIdx (fadeC n F T)) ∧ Below w.heap.size w w') (fun _ i _ => n - (intOf i).toNat)
    case atStart => exact ⟨0, [], Nat.zero_le _, rfl, .empty _ _ _ (Nat.le_refl _), Lib.hid rfl, (Below.refl _ _).alloc (Nat.le_refl _) _⟩
    case round =>
      obtain ⟨k, zs, hk, rfl, ho, hz, hb⟩ := hrel
      by_cases hlt : k < n
      · obtain ⟨ad, x, X, rfl, hc, hx, hxk, hX⟩ := (h.below hb).at_ hlt
        have hzl := len_of hz.out (m := 1048576) (by rw [List.length_mapIdx, List.length_take]; omega)
        have hi := intF_fl (k : Int)
        have hm := intF_fl (n : Int)
        have hv := fun w1 w2 w3 w4 w5 => hx.fr (hp.fr ((hq.fr hp .sub w1).fr (hi.fr hm .quo w2) .mul w3) .add w4) .mul w5
        have HV := Lib.hid hv
        clear hv hi hm
        go_wp2_with (at_builtin; refine ap_float w.heap.size rfl _ _ 22 23 rfl Try.underlying22 info_f32 _ zs _ rfl rfl (ho.drewN _) (HV.out _ _ _ _ _).wf (below_drewN hb _) hb.size (by omega) ?_; intro v1 w1 ho1 hb1 _ _)
        exact ⟨⟨k + 1, _, by omega, by go_num, ho1, Lib.hid (by rw [idx_snoc _ hX]; exact clss_push hz.out (HV.out _ _ _ _ _)), hb1⟩, by simp [intOf]; omega⟩
      · go_wp2
        go_ret2
        have hz1 := hz.out
        rw [clss_all h.len hk hlt] at hz1
        exact ⟨_, _, rfl, ho, hz1, len_of hz1 (by rw [List.length_mapIdx, clss_length, h.len]; exact hn), hb⟩
set_option maxHeartbeats 800000 in
theorem impl_FadeSamples {A : Option Addr} {n c : Nat} {xs : List Nat} {p q : Nat} {F T : Option Nat} (w : World) (h : Rd w A n xs) (hn : n ≤ 1048576) (hp : Fl .f32 p F) (hq : Fl .f32 q T) : Calls Try.prog 35 #[.slice A n c, .float .f32 p, .float .f32 q] w (RSB (fadeNC n (clss xs) F T) (few n) w) := by
  unfold fadeNC
  cases hf : few n <;> simp only [Bool.false_eq_true, if_true, if_false]
  · go_enter Try.func35, Try.ntmps35
    go_wp2_with (go_at_call 49; refine (impl_areSamples hn _).mono ?_; rintro e w' ⟨rfl, rfl⟩)
    go_ret2
    exact ⟨_, _, rfl, .nil _ _ _, rfl, by simp, Below.refl _ _⟩
  · go_enter Try.func35, Try.ntmps35
    go_wp2_with (go_at_call 49; refine (impl_areSamples hn _).mono ?_; rintro e w' ⟨rfl, rfl⟩)
    clear hf
    go_loopw [8, 17] (fun v i w' => ∃ k zs, k ≤ n ∧ i = .int .i64 (k : Nat) ∧ Of w' w.heap.size v zs ∧ Hid (clss zs = ((clss xs).take k).mapIdx (fadeC n F T)) ∧ Below w.heap.size w w') (fun _ i _ => n - (intOf i).toNat)
    case atStart => exact ⟨0, [], Nat.zero_le _, rfl, .nil _ _ _, Lib.hid rfl, Below.refl _ _⟩
    case round =>
      obtain ⟨k, zs, hk, rfl, ho, hz, hb⟩ := hrel
      by_cases hlt : k < n
      · obtain ⟨ad, x, X, rfl, hc, hx, hxk, hX⟩ := (h.below hb).at_ hlt
        have hzl := len_of hz.out (m := 1048576) (by rw [List.length_mapIdx, List.length_take]; omega)
        have hi := intF_fl (k : Int)
        have hm := intF_fl (n : Int)
        have hv := fun w1 w2 w3 w4 w5 => hx.fr (hp.fr ((hq.fr hp .sub w1).fr (hi.fr hm .quo w2) .mul w3) .add w4) .mul w5
        have HV := Lib.hid hv
        clear hv hi hm
        go_wp2_with (at_builtin; refine ap_float w.heap.size rfl _ _ 22 23 rfl Try.underlying22 info_f32 _ zs _ rfl rfl (ho.drewN _) (HV.out _ _ _ _ _).wf (below_drewN hb _) hb.size (by omega) ?_; intro v1 w1 ho1 hb1 _ _)
        exact ⟨⟨k + 1, _, by omega, by go_num, ho1, Lib.hid (by rw [idx_snoc _ hX]; exact clss_push hz.out (HV.out _ _ _ _ _)), hb1⟩, by simp [intOf]; omega⟩
      · go_wp2
        go_ret2
        have hz1 := hz.out
        rw [clss_all h.len hk hlt] at hz1
        exact ⟨_, _, rfl, ho, hz1, len_of hz1 (by rw [List.length_mapIdx, clss_length, h.len]; exact hn), hb⟩
set_option maxHeartbeats 4000000 in
set_option maxRecDepth 100000 in
theorem fadeSamples_walk (a0 : Option Addr) (n0 c0 : Nat) (l0 : List Value) (a1 : Nat) (a2 : Nat) (w : World) (w0 : Row w [.f32] a0 n0 l0) (w1 : a1 < 2 ^ FloatKind.f32.format.width) (w2 : a2 < 2 ^ FloatKind.f32.format.width) :
    Calls Try.prog 10 #[.slice a0 n0 c0, .float .f32 a1, .float .f32 a2] w fun e w' => e = .returned (.bool true) ∧ Below w.heap.size w w' := by
  obtain ⟨x0, h0⟩ := w0.rd
  rcases Nat.lt_or_ge 1048576 n0 with hn0 | hn0
  · go_enter Try.func10, Try.ntmps10
    go_wp2_with fail
    go_ret
    exact ⟨rfl, Below.refl _ _⟩
  have hl0 := h0.len
  have hy1 := Fl.self w1
  have hy2 := Fl.self w2
  have HL0 := Lib.hid hl0; clear hl0
  have HB0 : Below w.heap.size w w := Below.refl _ _
  have hz0 : w.heap.size ≤ w.heap.size := Nat.le_refl _
  go_enter Try.func10, Try.ntmps10
  go_wp2_with fail
  refine (laws_toFloat32S _ (h0.below HB0) hn0).mono ?_
  rintro e_ W1 ⟨v1, rfl, HO1, hb1⟩
  obtain ⟨A1, c_1, rfl⟩ := HO1.shape_n HL0.out
  have hs1 : w.heap.size ≤ W1.heap.size := hb1.size
  have HB1 := below_next HB0 hz0 hb1
  have hz1 : w.heap.size ≤ W1.heap.size := Nat.le_trans hz0 hs1
  have ltA1 := HO1.lt
  have geA1 := HO1.base
  clear hb1
  go_wp2_with fail
  refine (spec_FadeSamples _ (HO1.rd HL0.out) hn0 hy1 hy2).mono ?_
  rintro e_ W2 ⟨vw0, zw0, rfl, HOw0, hzw0, hmw0, hb2⟩
  have hs2 : W1.heap.size ≤ W2.heap.size := hb2.size
  have HB2 := below_next HB1 hz1 hb2
  have hz2 : w.heap.size ≤ W2.heap.size := Nat.le_trans hz1 hs2
  replace HO1 := HO1.below hb2
  have HZw0 := Lib.hid hzw0; clear hzw0
  obtain ⟨Aw0, c_w0, rfl⟩ := HOw0.shape
  have ltAw0 := HOw0.lt
  have geAw0 := HOw0.base
  clear hb2
  go_wp2_with fail
  refine (laws_toFloat32S _ (h0.below HB2) hn0).mono ?_
  rintro e_ W3 ⟨v2, rfl, HO2, hb3⟩
  obtain ⟨A2, c_2, rfl⟩ := HO2.shape_n HL0.out
  have hs3 : W2.heap.size ≤ W3.heap.size := hb3.size
  have HB3 := below_next HB2 hz2 hb3
  have hz3 : w.heap.size ≤ W3.heap.size := Nat.le_trans hz2 hs3
  replace HO1 := HO1.below hb3
  replace HOw0 := HOw0.below hb3
  have ltA2 := HO2.lt
  have geA2 := HO2.base
  clear hb3
  go_wp2_with fail
  refine (impl_FadeSamples _ (HO2.rd HL0.out) hn0 hy1 hy2).mono ?_
  rintro e_ W4 ⟨vg0, zg0, rfl, HOg0, hzg0, hmg0, hb4⟩
  have hs4 : W3.heap.size ≤ W4.heap.size := hb4.size
  have HB4 := below_next HB3 hz3 hb4
  have hz4 : w.heap.size ≤ W4.heap.size := Nat.le_trans hz3 hs4
  replace HO1 := HO1.below hb4
  replace HOw0 := HOw0.below hb4
  replace HO2 := HO2.below hb4
  have HZg0 := Lib.hid hzg0; clear hzg0
  obtain ⟨Ag0, c_g0, rfl⟩ := HOg0.shape
  have ltAg0 := HOg0.lt
  have geAg0 := HOg0.base
  clear hb4
  go_wp2_with fail
  refine (RB.m (laws_eqFloat32S _ (HOg0.rd rfl) (HOw0.rd rfl) (by rw [HZg0.out, HZw0.out]) (by omega))).mono ?_
  rintro e_ W5 ⟨rfl, hb5⟩
  have hs5 : W4.heap.size ≤ W5.heap.size := hb5.size
  have HB5 := below_next HB4 hz4 hb5
  have hz5 : w.heap.size ≤ W5.heap.size := Nat.le_trans hz4 hs5
  replace HO1 := HO1.below hb5
  replace HOw0 := HOw0.below hb5
  replace HO2 := HO2.below hb5
  replace HOg0 := HOg0.below hb5
  clear hb5
  go_wp2_with fail
  refine (laws_toFloat32S _ (h0.below HB5) hn0).mono ?_
  rintro e_ W6 ⟨v3, rfl, HO3, hb6⟩
  obtain ⟨A3, c_3, rfl⟩ := HO3.shape_n HL0.out
  have hs6 : W5.heap.size ≤ W6.heap.size := hb6.size
  have HB6 := below_next HB5 hz5 hb6
  have hz6 : w.heap.size ≤ W6.heap.size := Nat.le_trans hz5 hs6
  replace HO1 := HO1.below hb6
  replace HOw0 := HOw0.below hb6
  replace HO2 := HO2.below hb6
  replace HOg0 := HOg0.below hb6
  have ltA3 := HO3.lt
  have geA3 := HO3.base
  clear hb6
  go_wp2_with fail
  refine (RB.m (laws_eqFloat32S _ (HO2.rd HL0.out) (HO3.rd HL0.out) rfl (by omega))).mono ?_
  rintro e_ W7 ⟨rfl, hb7⟩
  have hs7 : W6.heap.size ≤ W7.heap.size := hb7.size
  have HB7 := below_next HB6 hz6 hb7
  have hz7 : w.heap.size ≤ W7.heap.size := Nat.le_trans hz6 hs7
  replace HO1 := HO1.below hb7
  replace HOw0 := HOw0.below hb7
  replace HO2 := HO2.below hb7
  replace HOg0 := HOg0.below hb7
  replace HO3 := HO3.below hb7
  clear hb7
  go_wp2_with fail
  refine (laws_markFloat32S _ HO2 HL0.out (by omega) (by omega) (by omega)).mono ?_
  clear HO2
  rintro e_ W8 ⟨rfl, HO2, hg8⟩
  have hs8 : W7.heap.size ≤ W8.heap.size := hg8.size
  have HB8 := HB7.grown hg8 hz7 (fun k_ e_ => Nat.le_trans hz2 (geA2 k_ e_))
  have hz8 : w.heap.size ≤ W8.heap.size := Nat.le_trans hz7 hs8
  replace HO1 := HO1.other hg8 (own_apart ltA1 geA2 (by omega))
  replace HOw0 := HOw0.other hg8 (own_apart ltAw0 geA2 (by omega))
  replace HOg0 := HOg0.other hg8 (own_apart' geAg0 ltA2 (by omega))
  replace HO3 := HO3.other hg8 (own_apart' geA3 ltA2 (by omega))
  clear hg8
  go_wp2_with fail
  refine (RB.m (laws_eqFloat32S _ (HOg0.rd rfl) (HOw0.rd rfl) (by rw [HZg0.out, HZw0.out]) (by omega))).mono ?_
  rintro e_ W9 ⟨rfl, hb9⟩
  have hs9 : W8.heap.size ≤ W9.heap.size := hb9.size
  have HB9 := below_next HB8 hz8 hb9
  have hz9 : w.heap.size ≤ W9.heap.size := Nat.le_trans hz8 hs9
  replace HO1 := HO1.below hb9
  replace HOw0 := HOw0.below hb9
  replace HO2 := HO2.below hb9
  replace HOg0 := HOg0.below hb9
  replace HO3 := HO3.below hb9
  clear hb9
  go_wp2_with fail
  refine (laws_markFloat32S _ HOg0 rfl (by omega) (by omega) (by omega)).mono ?_
  clear HOg0
  rintro e_ W10 ⟨rfl, HOg0, hg10⟩
  have hs10 : W9.heap.size ≤ W10.heap.size := hg10.size
  have HB10 := HB9.grown hg10 hz9 (fun k_ e_ => Nat.le_trans hz3 (geAg0 k_ e_))
  have hz10 : w.heap.size ≤ W10.heap.size := Nat.le_trans hz9 hs10
  replace HO1 := HO1.other hg10 (own_apart ltA1 geAg0 (by omega))
  replace HOw0 := HOw0.other hg10 (own_apart ltAw0 geAg0 (by omega))
  replace HO2 := HO2.other hg10 (own_apart ltA2 geAg0 (by omega))
  replace HO3 := HO3.other hg10 (own_apart' geA3 ltAg0 (by omega))
  clear hg10
  go_wp2_with fail
  refine (RH.m (laws_heldFloat32S _ (HOg0.rd (marks_length _ _)) (by omega) (by omega) (by omega))).mono ?_
  rintro e_ W11 ⟨rfl, hb11⟩
  have hs11 : W10.heap.size ≤ W11.heap.size := hb11.size
  have HB11 := below_next HB10 hz10 hb11
  have hz11 : w.heap.size ≤ W11.heap.size := Nat.le_trans hz10 hs11
  replace HO1 := HO1.below hb11
  replace HOw0 := HOw0.below hb11
  replace HO2 := HO2.below hb11
  replace HOg0 := HOg0.below hb11
  replace HO3 := HO3.below hb11
  clear hb11
  go_wp2_with fail
  refine (laws_toFloat32S _ (h0.below HB11) hn0).mono ?_
  rintro e_ W12 ⟨v4, rfl, HO4, hb12⟩
  obtain ⟨A4, c_4, rfl⟩ := HO4.shape_n HL0.out
  have hs12 : W11.heap.size ≤ W12.heap.size := hb12.size
  have HB12 := below_next HB11 hz11 hb12
  have hz12 : w.heap.size ≤ W12.heap.size := Nat.le_trans hz11 hs12
  replace HO1 := HO1.below hb12
  replace HOw0 := HOw0.below hb12
  replace HO2 := HO2.below hb12
  replace HOg0 := HOg0.below hb12
  replace HO3 := HO3.below hb12
  have ltA4 := HO4.lt
  have geA4 := HO4.base
  clear hb12
  go_wp2_with fail
  refine (impl_FadeSamples _ (HO4.rd HL0.out) hn0 hy1 hy2).mono ?_
  rintro e_ W13 ⟨vh0, zh0, rfl, HOh0, hzh0, hmh0, hb13⟩
  have hs13 : W12.heap.size ≤ W13.heap.size := hb13.size
  have HB13 := below_next HB12 hz12 hb13
  have hz13 : w.heap.size ≤ W13.heap.size := Nat.le_trans hz12 hs13
  replace HO1 := HO1.below hb13
  replace HOw0 := HOw0.below hb13
  replace HO2 := HO2.below hb13
  replace HOg0 := HOg0.below hb13
  replace HO3 := HO3.below hb13
  replace HO4 := HO4.below hb13
  have HZh0 := Lib.hid hzh0; clear hzh0
  obtain ⟨Ah0, c_h0, rfl⟩ := HOh0.shape
  have ltAh0 := HOh0.lt
  have geAh0 := HOh0.base
  clear hb13
  go_wp2_with fail
  refine (RB.m (laws_eqFloat32S _ (HOh0.rd rfl) (HOw0.rd rfl) (by rw [HZh0.out, HZw0.out]) (by omega))).mono ?_
  rintro e_ W14 ⟨rfl, hb14⟩
  have hs14 : W13.heap.size ≤ W14.heap.size := hb14.size
  have HB14 := below_next HB13 hz13 hb14
  have hz14 : w.heap.size ≤ W14.heap.size := Nat.le_trans hz13 hs14
  replace HO1 := HO1.below hb14
  replace HOw0 := HOw0.below hb14
  replace HO2 := HO2.below hb14
  replace HOg0 := HOg0.below hb14
  replace HO3 := HO3.below hb14
  replace HO4 := HO4.below hb14
  replace HOh0 := HOh0.below hb14
  clear hb14
  go_wp2_with fail
  refine (RH.m (laws_heldFloat32S _ (HOg0.rd (marks_length _ _)) (by omega) (by omega) (by omega))).mono ?_
  rintro e_ W15 ⟨rfl, hb15⟩
  have hs15 : W14.heap.size ≤ W15.heap.size := hb15.size
  have HB15 := below_next HB14 hz14 hb15
  have hz15 : w.heap.size ≤ W15.heap.size := Nat.le_trans hz14 hs15
  replace HO1 := HO1.below hb15
  replace HOw0 := HOw0.below hb15
  replace HO2 := HO2.below hb15
  replace HOg0 := HOg0.below hb15
  replace HO3 := HO3.below hb15
  replace HO4 := HO4.below hb15
  replace HOh0 := HOh0.below hb15
  clear hb15
  go_wp2_with fail
  go_ret
  exact ⟨rfl, HB15⟩
end Go.Proofs.Ytcjflleeffbhhaa
