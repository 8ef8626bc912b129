/- The walks over slices of samples, third part: sums of two lists, products of two lists. Conditions: none beside the contracts' own. -/
import Derived.Test.YtcjflleeffbhhaaL1
set_option linter.unusedVariables false
set_option linter.unusedSimpArgs false
namespace Go.Proofs.Ytcjflleeffbhhaa
open Go.RowKit

def dotC (l m : List (Option Nat)) : Option Nat := (l.zip m).foldl (fun s p => fadd s (fmul p.1 p.2)) (some 0)
theorem zip_snoc {xs ys : List Nat} {k : Nat} {X Y : Option Nat} (h : (clss xs)[k]? = some X) (h' : (clss ys)[k]? = some Y) : ((clss xs).zip (clss ys)).take (k + 1) = ((clss xs).zip (clss ys)).take k ++ [(X, Y)] := by
  have hz : ((clss xs).zip (clss ys))[k]? = some (X, Y) := by rw [List.getElem?_zip_eq_some]; exact ⟨h, h'⟩
  obtain ⟨hk, he⟩ := List.getElem?_eq_some_iff.1 hz
  rw [take_snoc _ _ hk, he]
theorem zip_all {xs ys : List Nat} {n k : Nat} (hl : xs.length = n) (hl' : ys.length = n) (h1 : k ≤ n) (h2 : ¬ k < n) : ((clss xs).zip (clss ys)).take k = (clss xs).zip (clss ys) :=
  List.take_of_length_le (by rw [List.length_zip, clss_length, clss_length]; omega)
def dotT (l : List (Option Nat × Option Nat)) : Option Nat := l.foldl (fun s p => fadd s (fmul p.1 p.2)) (some 0)
theorem dotT_snoc (l : List (Option Nat × Option Nat)) (X Y : Option Nat) : dotT (l ++ [(X, Y)]) = fadd (dotT l) (fmul X Y) := by simp [dotT]
set_option maxHeartbeats 800000 in
theorem spec_l01Dot {A B : Option Addr} {n c d : Nat} {xs ys : List Nat} (w : World) (h : Rd w A n xs) (h' : Rd w B n ys) (hn : n ≤ 1048576) : Calls Try.prog 53 #[.slice A n c, .slice B n d] w (RF .f32 (dotC (clss xs) (clss ys)) w) := by
  go_enter Try.func53, Try.ntmps53
  go_wp2
  go_loopw [5, 6] (fun s i w' => ∃ k m r, k ≤ n ∧ i = .int .i64 (k : Nat) ∧ s = .float .f32 r ∧ Fl .f32 r (dotT (((clss xs).zip (clss ys)).take k)) ∧ w' = w.drewN m) (fun _ i _ => n - (intOf i).toNat)
  case atStart => exact ⟨0, 0, 0, Nat.zero_le _, rfl, rfl, zero_fl, rfl⟩
  case round =>
    obtain ⟨k, m, r, hk, rfl, rfl, hr, rfl⟩ := hrel
    by_cases hlt : k < n
    · obtain ⟨ad, x, X, rfl, hc, hx, _, hX⟩ := h.at_ hlt
      obtain ⟨bd, y, Y, rfl, hc', hy, _, hY⟩ := h'.at_ hlt
      go_wp2
      go_region
      all_goals go_wp2
      all_goals exact ⟨⟨k + 1, _, _, by omega, by go_num, rfl, by rw [zip_snoc hX hY, dotT_snoc]; exact (by repeat (first | (with_reducible assumption) | exact Fl.of_lit (by decide) (by decide) | apply Fl.fr | apply Fl.cw | apply Fl.cn)), rfl⟩, by simp [intOf]; omega⟩
    · go_wp2
      go_ret
      exact ⟨_, _, rfl, by rwa [zip_all h.len h'.len hk hlt] at hr, rfl⟩
set_option maxHeartbeats 800000 in
theorem impl_dot {A B : Option Addr} {n c d : Nat} {xs ys : List Nat} (w : World) (h : Rd w A n xs) (h' : Rd w B n ys) (hn : n ≤ 1048576) : Calls Try.prog 54 #[.slice A n c, .slice B n d] w (RF .f32 (dotC (clss xs) (clss ys)) w) := by
  go_enter Try.func54, Try.ntmps54
  go_wp2
  go_loopw [5, 9] (fun s i w' => ∃ k m r, k ≤ n ∧ i = .int .i64 (k : Nat) ∧ s = .float .f32 r ∧ Fl .f32 r (dotT (((clss xs).zip (clss ys)).take k)) ∧ w' = w.drewN m) (fun _ i _ => n - (intOf i).toNat)
  case atStart => exact ⟨0, 0, 0, Nat.zero_le _, rfl, rfl, zero_fl, rfl⟩
  case round =>
    obtain ⟨k, m, r, hk, rfl, rfl, hr, rfl⟩ := hrel
    by_cases hlt : k < n
    · obtain ⟨ad, x, X, rfl, hc, hx, _, hX⟩ := h.at_ hlt
      obtain ⟨bd, y, Y, rfl, hc', hy, _, hY⟩ := h'.at_ hlt
      go_wp2
      go_region
      all_goals go_wp2
      all_goals exact ⟨⟨k + 1, _, _, by omega, by go_num, rfl, by rw [zip_snoc hX hY, dotT_snoc]; exact (by repeat (first | (with_reducible assumption) | exact Fl.of_lit (by decide) (by decide) | apply Fl.fr | apply Fl.cw | apply Fl.cn)), rfl⟩, by simp [intOf]; omega⟩
    · go_wp2
      go_ret
      exact ⟨_, _, rfl, by rwa [zip_all h.len h'.len hk hlt] at hr, rfl⟩
def fewTwo (n m : Nat) : Bool := few n && decide (n = m)
def dotNC (n m : Nat) (X Y : List (Option Nat)) : Option Nat := if fewTwo n m = true then dotC X Y else some 0
theorem few_two {n m : Nat} (h : fewTwo n m = true) : few n = true ∧ n = m := by simpa [fewTwo] using h
theorem few_not {n m : Nat} (h : fewTwo n m = false) : few n = false ∨ (few n = true ∧ ((n : Int) != (m : Int)) = true) := by
  cases hf : few n
  · exact .inl rfl
  · refine .inr ⟨rfl, ?_⟩
    simp only [fewTwo, hf, Bool.true_and, decide_eq_false_iff_not] at h
    rw [bne_iff_ne]; omega
set_option maxHeartbeats 400000 in
theorem spec_DotNumbers {A B : Option Addr} {n m c d : Nat} {xs ys : List Nat} (w : World) (h : Rd w A n xs) (hn : n ≤ 1048576) (h' : Rd w B m ys) (hm : m ≤ 1048576) :
    Calls Try.prog 22 #[.slice A n c, .slice B m d] w (RFBM (dotNC n m (clss xs) (clss ys)) (fewTwo n m) w) := by
  unfold dotNC
  cases hf : fewTwo n m <;> simp only [Bool.false_eq_true, if_true, if_false]
  · rcases few_not hf with h1 | ⟨h1, h2⟩
    all_goals
      clear hf
      go_enter Try.func22, Try.ntmps22
      go_wp2_with (go_at_call 47; refine (spec_l01Few hn _).mono ?_; rintro e w' ⟨rfl, rfl⟩)
      go_ret2
      exact ⟨_, rfl, zero_fl, Below.refl _ _⟩
  · obtain ⟨h1, rfl⟩ := few_two hf
    clear hf
    go_enter Try.func22, Try.ntmps22
    go_wp2_with (first | (go_at_call 47; refine (spec_l01Few hn _).mono ?_; rintro e w' ⟨rfl, rfl⟩) | (go_at_call 53; refine (spec_l01Dot _ h h' hn).mono ?_; rintro e w' ⟨r, q, rfl, hr, rfl⟩))
    go_ret2
    exact ⟨_, rfl, hr, below_draws _ _⟩
set_option maxHeartbeats 400000 in
theorem impl_DotNumbers {A B : Option Addr} {n m c d : Nat} {xs ys : List Nat} (w : World) (h : Rd w A n xs) (hn : n ≤ 1048576) (h' : Rd w B m ys) (hm : m ≤ 1048576) :
    Calls Try.prog 23 #[.slice A n c, .slice B m d] w (RFBM (dotNC n m (clss xs) (clss ys)) (fewTwo n m) w) := by
  unfold dotNC
  cases hf : fewTwo n m <;> simp only [Bool.false_eq_true, if_true, if_false]
  · rcases few_not hf with h1 | ⟨h1, h2⟩
    all_goals
      clear hf
      go_enter Try.func23, Try.ntmps23
      go_wp2_with (go_at_call 49; refine (impl_areSamples hn _).mono ?_; rintro e w' ⟨rfl, rfl⟩)
      go_ret2
      exact ⟨_, rfl, zero_fl, Below.refl _ _⟩
  · obtain ⟨h1, rfl⟩ := few_two hf
    clear hf
    go_enter Try.func23, Try.ntmps23
    go_wp2_with (first | (go_at_call 49; refine (impl_areSamples hn _).mono ?_; rintro e w' ⟨rfl, rfl⟩) | (go_at_call 54; refine (impl_dot _ h h' hn).mono ?_; rintro e w' ⟨r, q, rfl, hr, rfl⟩))
    go_ret2
    exact ⟨_, rfl, hr, below_draws _ _⟩
set_option maxHeartbeats 4000000 in
set_option maxRecDepth 100000 in
theorem dotNumbers_walk (a0 : Option Addr) (n0 c0 : Nat) (l0 : List Value) (a1 : Option Addr) (n1 c1 : Nat) (l1 : List Value) (w : World) (w0 : Row w [.f32] a0 n0 l0) (w1 : Row w [.f32] a1 n1 l1) :
    Calls Try.prog 5 #[.slice a0 n0 c0, .slice a1 n1 c1] w fun e w' => e = .returned (.bool true) ∧ Below w.heap.size w w' := by
  obtain ⟨x0, h0⟩ := w0.rd
  obtain ⟨x1, h1⟩ := w1.rd
  rcases Nat.lt_or_ge 1048576 n0 with hn0 | hn0
  · go_enter Try.func5, Try.ntmps5
    go_wp2_with fail
    go_ret
    exact ⟨rfl, Below.refl _ _⟩
  rcases Nat.lt_or_ge 1048576 n1 with hn1 | hn1
  · go_enter Try.func5, Try.ntmps5
    go_wp2_with fail
    go_ret
    exact ⟨rfl, Below.refl _ _⟩
  have hl0 := h0.len
  have hl1 := h1.len
  have HL0 := Lib.hid hl0; clear hl0
  have HL1 := Lib.hid hl1; clear hl1
  have HB0 : Below w.heap.size w w := Below.refl _ _
  have hz0 : w.heap.size ≤ w.heap.size := Nat.le_refl _
  go_enter Try.func5, Try.ntmps5
  go_wp2_with fail
  refine (laws_toFloat32S _ (h0.below HB0) hn0).mono ?_
  rintro e_ W1 ⟨v1, rfl, HO1, hb1⟩
  obtain ⟨A1, c_1, rfl⟩ := HO1.shape_n HL0.out
  have hs1 : w.heap.size ≤ W1.heap.size := hb1.size
  have HB1 := below_next HB0 hz0 hb1
  have hz1 : w.heap.size ≤ W1.heap.size := Nat.le_trans hz0 hs1
  have ltA1 := HO1.lt
  have geA1 := HO1.base
  clear hb1
  go_wp2_with fail
  refine (laws_toFloat32S _ (h1.below HB1) hn1).mono ?_
  rintro e_ W2 ⟨v2, rfl, HO2, hb2⟩
  obtain ⟨A2, c_2, rfl⟩ := HO2.shape_n HL1.out
  have hs2 : W1.heap.size ≤ W2.heap.size := hb2.size
  have HB2 := below_next HB1 hz1 hb2
  have hz2 : w.heap.size ≤ W2.heap.size := Nat.le_trans hz1 hs2
  replace HO1 := HO1.below hb2
  have ltA2 := HO2.lt
  have geA2 := HO2.base
  clear hb2
  go_wp2_with fail
  refine (spec_DotNumbers _ (HO1.rd HL0.out) hn0 (HO2.rd HL1.out) hn1).mono ?_
  rintro e_ W3 ⟨rw0, rfl, hrw0, hb3⟩
  have hs3 : W2.heap.size ≤ W3.heap.size := hb3.size
  have HB3 := below_next HB2 hz2 hb3
  have hz3 : w.heap.size ≤ W3.heap.size := Nat.le_trans hz2 hs3
  replace HO1 := HO1.below hb3
  replace HO2 := HO2.below hb3
  clear hb3
  go_wp2_with fail
  refine (laws_toFloat32S _ (h0.below HB3) hn0).mono ?_
  rintro e_ W4 ⟨v3, rfl, HO3, hb4⟩
  obtain ⟨A3, c_3, rfl⟩ := HO3.shape_n HL0.out
  have hs4 : W3.heap.size ≤ W4.heap.size := hb4.size
  have HB4 := below_next HB3 hz3 hb4
  have hz4 : w.heap.size ≤ W4.heap.size := Nat.le_trans hz3 hs4
  replace HO1 := HO1.below hb4
  replace HO2 := HO2.below hb4
  have ltA3 := HO3.lt
  have geA3 := HO3.base
  clear hb4
  go_wp2_with fail
  refine (laws_toFloat32S _ (h1.below HB4) hn1).mono ?_
  rintro e_ W5 ⟨v4, rfl, HO4, hb5⟩
  obtain ⟨A4, c_4, rfl⟩ := HO4.shape_n HL1.out
  have hs5 : W4.heap.size ≤ W5.heap.size := hb5.size
  have HB5 := below_next HB4 hz4 hb5
  have hz5 : w.heap.size ≤ W5.heap.size := Nat.le_trans hz4 hs5
  replace HO1 := HO1.below hb5
  replace HO2 := HO2.below hb5
  replace HO3 := HO3.below hb5
  have ltA4 := HO4.lt
  have geA4 := HO4.base
  clear hb5
  go_wp2_with fail
  refine (impl_DotNumbers _ (HO3.rd HL0.out) hn0 (HO4.rd HL1.out) hn1).mono ?_
  rintro e_ W6 ⟨rg0, rfl, hrg0, hb6⟩
  have hs6 : W5.heap.size ≤ W6.heap.size := hb6.size
  have HB6 := below_next HB5 hz5 hb6
  have hz6 : w.heap.size ≤ W6.heap.size := Nat.le_trans hz5 hs6
  replace HO1 := HO1.below hb6
  replace HO2 := HO2.below hb6
  replace HO3 := HO3.below hb6
  replace HO4 := HO4.below hb6
  clear hb6
  go_wp2_with fail
  refine (RB.m (laws_sameFloat (hrg0.cw _) (hrw0.cw _) _)).mono ?_
  rintro e_ W7 ⟨rfl, hb7⟩
  replace hb7 := below_undrawn hb7
  have hs7 : W6.heap.size ≤ W7.heap.size := hb7.size
  have HB7 := below_next HB6 hz6 hb7
  have hz7 : w.heap.size ≤ W7.heap.size := Nat.le_trans hz6 hs7
  replace HO1 := HO1.below hb7
  replace HO2 := HO2.below hb7
  replace HO3 := HO3.below hb7
  replace HO4 := HO4.below hb7
  clear hb7
  go_wp2_with fail
  refine (laws_toFloat32S _ (h0.below HB7) hn0).mono ?_
  rintro e_ W8 ⟨v5, rfl, HO5, hb8⟩
  obtain ⟨A5, c_5, rfl⟩ := HO5.shape_n HL0.out
  have hs8 : W7.heap.size ≤ W8.heap.size := hb8.size
  have HB8 := below_next HB7 hz7 hb8
  have hz8 : w.heap.size ≤ W8.heap.size := Nat.le_trans hz7 hs8
  replace HO1 := HO1.below hb8
  replace HO2 := HO2.below hb8
  replace HO3 := HO3.below hb8
  replace HO4 := HO4.below hb8
  have ltA5 := HO5.lt
  have geA5 := HO5.base
  clear hb8
  go_wp2_with fail
  refine (RB.m (laws_eqFloat32S _ (HO3.rd HL0.out) (HO5.rd HL0.out) rfl (by omega))).mono ?_
  rintro e_ W9 ⟨rfl, hb9⟩
  have hs9 : W8.heap.size ≤ W9.heap.size := hb9.size
  have HB9 := below_next HB8 hz8 hb9
  have hz9 : w.heap.size ≤ W9.heap.size := Nat.le_trans hz8 hs9
  replace HO1 := HO1.below hb9
  replace HO2 := HO2.below hb9
  replace HO3 := HO3.below hb9
  replace HO4 := HO4.below hb9
  replace HO5 := HO5.below hb9
  clear hb9
  go_wp2_with fail
  refine (laws_toFloat32S _ (h1.below HB9) hn1).mono ?_
  rintro e_ W10 ⟨v6, rfl, HO6, hb10⟩
  obtain ⟨A6, c_6, rfl⟩ := HO6.shape_n HL1.out
  have hs10 : W9.heap.size ≤ W10.heap.size := hb10.size
  have HB10 := below_next HB9 hz9 hb10
  have hz10 : w.heap.size ≤ W10.heap.size := Nat.le_trans hz9 hs10
  replace HO1 := HO1.below hb10
  replace HO2 := HO2.below hb10
  replace HO3 := HO3.below hb10
  replace HO4 := HO4.below hb10
  replace HO5 := HO5.below hb10
  have ltA6 := HO6.lt
  have geA6 := HO6.base
  clear hb10
  go_wp2_with fail
  refine (RB.m (laws_eqFloat32S _ (HO4.rd HL1.out) (HO6.rd HL1.out) rfl (by omega))).mono ?_
  rintro e_ W11 ⟨rfl, hb11⟩
  have hs11 : W10.heap.size ≤ W11.heap.size := hb11.size
  have HB11 := below_next HB10 hz10 hb11
  have hz11 : w.heap.size ≤ W11.heap.size := Nat.le_trans hz10 hs11
  replace HO1 := HO1.below hb11
  replace HO2 := HO2.below hb11
  replace HO3 := HO3.below hb11
  replace HO4 := HO4.below hb11
  replace HO5 := HO5.below hb11
  replace HO6 := HO6.below hb11
  clear hb11
  go_wp2_with fail
  go_ret
  exact ⟨rfl, HB11⟩

/-! ### Mixed -/
def mixT (l : List (Option Nat × Option Nat)) : List (Option Nat) := l.map fun p => fadd p.1 p.2
theorem mixT_snoc (l : List (Option Nat × Option Nat)) (X Y : Option Nat) : mixT (l ++ [(X, Y)]) = mixT l ++ [fadd X Y] := by simp [mixT]
def mixNC (n m : Nat) (X Y : List (Option Nat)) : List (Option Nat) := if fewTwo n m = true then mixT (X.zip Y) else []
set_option maxHeartbeats 800000 in
theorem spec_l01Mix {A B : Option Addr} {n c d : Nat} {xs ys : List Nat} (w : World) (h : Rd w A n xs) (h' : Rd w B n ys) (hn : n ≤ 1048576) : Calls Try.prog 57 #[.slice A n c, .slice B n d] w (RO (mixT ((clss xs).zip (clss ys))) w) := by
  go_enter Try.func57, Try.ntmps57
  go_wp2
  go_loopw [5, 6] (fun v i w' => ∃ k zs, k ≤ n ∧ i = .int .i64 (k : Nat) ∧ Of w' w.heap.size v zs ∧ Hid (clss zs = mixT (((clss xs).zip (clss ys)).take k)) ∧ Below w.heap.size w w') (fun _ i _ => n - (intOf i).toNat)
  case atStart => exact ⟨0, [], Nat.zero_le _, rfl, .empty _ _ _ (Nat.le_refl _), Lib.hid rfl, (Below.refl _ _).alloc (Nat.le_refl _) _⟩
  case round =>
    obtain ⟨k, zs, hk, rfl, ho, hz, hb⟩ := hrel
    by_cases hlt : k < n
    · obtain ⟨ad, x, X, rfl, hc, hx, _, hX⟩ := (h.below hb).at_ hlt
      obtain ⟨bd, y, Y, rfl, hc', hy, _, hY⟩ := (h'.below hb).at_ hlt
      have hzl := len_of hz.out (m := 1048576) (by rw [mixT, List.length_map, List.length_take]; omega)
      go_wp2
      go_region_law (refine ap_float_step w.heap.size rfl _ _ 22 23 rfl Try.underlying22 info_f32 _ zs _ rfl rfl (ho.drewN _) (hx.fr hy _ _).wf (below_drewN hb _) hb.size (by omega) ?_; intro v1 w1 ho1 hb1 _ _)
      all_goals go_wp2
      all_goals exact ⟨⟨k + 1, _, by omega, by go_num, ho1, Lib.hid (by rw [zip_snoc hX hY, mixT_snoc]; exact clss_push hz.out (hx.fr hy _ _)), hb1⟩, by simp [intOf]; omega⟩
    · go_wp2
      go_ret
      exact ⟨_, _, rfl, ho, by rw [hz.out, zip_all h.len h'.len hk hlt], hb⟩
set_option maxHeartbeats 400000 in
theorem spec_MixSamples {A B : Option Addr} {n m c d : Nat} {xs ys : List Nat} (w : World) (h : Rd w A n xs) (hn : n ≤ 1048576) (h' : Rd w B m ys) (hm : m ≤ 1048576) :
    Calls Try.prog 28 #[.slice A n c, .slice B m d] w (RSB (mixNC n m (clss xs) (clss ys)) (fewTwo n m) w) := by
  unfold mixNC
  cases hf : fewTwo n m <;> simp only [Bool.false_eq_true, if_true, if_false]
  · rcases few_not hf with h1 | ⟨h1, h2⟩
    all_goals
      clear hf
      go_enter Try.func28, Try.ntmps28
      go_wp2_with (go_at_call 47; refine (spec_l01Few hn _).mono ?_; rintro e w' ⟨rfl, rfl⟩)
      go_ret2
      exact ⟨_, _, rfl, .nil _ _ _, rfl, by simp, Below.refl _ _⟩
  · obtain ⟨h1, rfl⟩ := few_two hf
    clear hf
    go_enter Try.func28, Try.ntmps28
    go_wp2_with (first | (go_at_call 47; refine (spec_l01Few hn _).mono ?_; rintro e w' ⟨rfl, rfl⟩) | (go_at_call 57; refine (spec_l01Mix _ h h' hn).mono ?_; rintro e w' ⟨v1, zs, rfl, ho, hz, hb⟩))
    go_ret2
    exact ⟨_, _, rfl, ho, hz, len_of hz (by rw [mixT, List.length_map, List.length_zip, clss_length, h.len]; omega), hb⟩
set_option maxHeartbeats 1600000 in
theorem impl_MixSamples {A B : Option Addr} {n m c d : Nat} {xs ys : List Nat} (w : World) (h : Rd w A n xs) (hn : n ≤ 1048576) (h' : Rd w B m ys) (hm : m ≤ 1048576) :
    Calls Try.prog 29 #[.slice A n c, .slice B m d] w (RSB (mixNC n m (clss xs) (clss ys)) (fewTwo n m) w) := by
  unfold mixNC
  cases hf : fewTwo n m <;> simp only [Bool.false_eq_true, if_true, if_false]
  · rcases few_not hf with h1 | ⟨h1, h2⟩
    all_goals
      clear hf
      go_enter Try.func29, Try.ntmps29
      go_wp2_with (go_at_call 49; refine (impl_areSamples hn _).mono ?_; rintro e w' ⟨rfl, rfl⟩)
      go_ret2
      exact ⟨_, _, rfl, .nil _ _ _, rfl, by simp, Below.refl _ _⟩
  · obtain ⟨h1, rfl⟩ := few_two hf
    clear hf
    go_enter Try.func29, Try.ntmps29
    go_wp2_with (go_at_call 49; refine (impl_areSamples hn _).mono ?_; rintro e w' ⟨rfl, rfl⟩)
    clear h1
    go_loopw [6, 20] (fun v i w' => ∃ k zs, k ≤ n ∧ i = .int .i64 (k : Nat) ∧ Of w' w.heap.size v zs ∧ Hid (clss zs = mixT (((clss xs).zip (clss ys)).take k)) ∧ Below w.heap.size w w') (fun _ i _ => n - (intOf i).toNat)
    case atStart => exact ⟨0, [], Nat.zero_le _, rfl, .nil _ _ _, Lib.hid rfl, Below.refl _ _⟩
    case round =>
      obtain ⟨k, zs, hk, rfl, ho, hz, hb⟩ := hrel
      by_cases hlt : k < n
      · obtain ⟨ad, x, X, rfl, hc, hx, _, hX⟩ := (h.below hb).at_ hlt
        obtain ⟨bd, y, Y, rfl, hc', hy, _, hY⟩ := (h'.below hb).at_ hlt
        have hzl := len_of hz.out (m := 1048576) (by rw [mixT, List.length_map, List.length_take]; omega)
        go_wp2
        go_region_law (refine ap_float_step w.heap.size rfl _ _ 22 23 rfl Try.underlying22 info_f32 _ zs _ rfl rfl (ho.drewN _) (hx.fr hy _ _).wf (below_drewN hb _) hb.size (by omega) ?_; intro v1 w1 ho1 hb1 _ _)
        all_goals go_wp2
        all_goals exact ⟨⟨k + 1, _, by omega, by go_num, ho1, Lib.hid (by rw [zip_snoc hX hY, mixT_snoc]; exact clss_push hz.out (hx.fr hy _ _)), hb1⟩, by simp [intOf]; omega⟩
      · go_wp2
        go_ret2
        have hz1 := hz.out
        rw [zip_all h.len h'.len hk hlt] at hz1
        exact ⟨_, _, rfl, ho, hz1, len_of hz1 (by rw [mixT, List.length_map, List.length_zip, clss_length, h.len]; omega), hb⟩
set_option maxHeartbeats 4000000 in
set_option maxRecDepth 100000 in
theorem mixSamples_walk (a0 : Option Addr) (n0 c0 : Nat) (l0 : List Value) (a1 : Option Addr) (n1 c1 : Nat) (l1 : List Value) (w : World) (w0 : Row w [.f32] a0 n0 l0) (w1 : Row w [.f32] a1 n1 l1) :
    Calls Try.prog 7 #[.slice a0 n0 c0, .slice a1 n1 c1] w fun e w' => e = .returned (.bool true) ∧ Below w.heap.size w w' := by
  obtain ⟨x0, h0⟩ := w0.rd
  obtain ⟨x1, h1⟩ := w1.rd
  rcases Nat.lt_or_ge 1048576 n0 with hn0 | hn0
  · go_enter Try.func7, Try.ntmps7
    go_wp2_with fail
    go_ret
    exact ⟨rfl, Below.refl _ _⟩
  rcases Nat.lt_or_ge 1048576 n1 with hn1 | hn1
  · go_enter Try.func7, Try.ntmps7
    go_wp2_with fail
    go_ret
    exact ⟨rfl, Below.refl _ _⟩
  have hl0 := h0.len
  have hl1 := h1.len
  have HL0 := Lib.hid hl0; clear hl0
  have HL1 := Lib.hid hl1; clear hl1
  have HB0 : Below w.heap.size w w := Below.refl _ _
  have hz0 : w.heap.size ≤ w.heap.size := Nat.le_refl _
  go_enter Try.func7, Try.ntmps7
  go_wp2_with fail
  refine (laws_toFloat32S _ (h0.below HB0) hn0).mono ?_
  rintro e_ W1 ⟨v1, rfl, HO1, hb1⟩
  obtain ⟨A1, c_1, rfl⟩ := HO1.shape_n HL0.out
  have hs1 : w.heap.size ≤ W1.heap.size := hb1.size
  have HB1 := below_next HB0 hz0 hb1
  have hz1 : w.heap.size ≤ W1.heap.size := Nat.le_trans hz0 hs1
  have ltA1 := HO1.lt
  have geA1 := HO1.base
  clear hb1
  go_wp2_with fail
  refine (laws_toFloat32S _ (h1.below HB1) hn1).mono ?_
  rintro e_ W2 ⟨v2, rfl, HO2, hb2⟩
  obtain ⟨A2, c_2, rfl⟩ := HO2.shape_n HL1.out
  have hs2 : W1.heap.size ≤ W2.heap.size := hb2.size
  have HB2 := below_next HB1 hz1 hb2
  have hz2 : w.heap.size ≤ W2.heap.size := Nat.le_trans hz1 hs2
  replace HO1 := HO1.below hb2
  have ltA2 := HO2.lt
  have geA2 := HO2.base
  clear hb2
  go_wp2_with fail
  refine (spec_MixSamples _ (HO1.rd HL0.out) hn0 (HO2.rd HL1.out) hn1).mono ?_
  rintro e_ W3 ⟨vw0, zw0, rfl, HOw0, hzw0, hmw0, hb3⟩
  have hs3 : W2.heap.size ≤ W3.heap.size := hb3.size
  have HB3 := below_next HB2 hz2 hb3
  have hz3 : w.heap.size ≤ W3.heap.size := Nat.le_trans hz2 hs3
  replace HO1 := HO1.below hb3
  replace HO2 := HO2.below hb3
  have HZw0 := Lib.hid hzw0; clear hzw0
  obtain ⟨Aw0, c_w0, rfl⟩ := HOw0.shape
  have ltAw0 := HOw0.lt
  have geAw0 := HOw0.base
  clear hb3
  go_wp2_with fail
  refine (laws_toFloat32S _ (h0.below HB3) hn0).mono ?_
  rintro e_ W4 ⟨v3, rfl, HO3, hb4⟩
  obtain ⟨A3, c_3, rfl⟩ := HO3.shape_n HL0.out
  have hs4 : W3.heap.size ≤ W4.heap.size := hb4.size
  have HB4 := below_next HB3 hz3 hb4
  have hz4 : w.heap.size ≤ W4.heap.size := Nat.le_trans hz3 hs4
  replace HO1 := HO1.below hb4
  replace HO2 := HO2.below hb4
  replace HOw0 := HOw0.below hb4
  have ltA3 := HO3.lt
  have geA3 := HO3.base
  clear hb4
  go_wp2_with fail
  refine (laws_toFloat32S _ (h1.below HB4) hn1).mono ?_
  rintro e_ W5 ⟨v4, rfl, HO4, hb5⟩
  obtain ⟨A4, c_4, rfl⟩ := HO4.shape_n HL1.out
  have hs5 : W4.heap.size ≤ W5.heap.size := hb5.size
  have HB5 := below_next HB4 hz4 hb5
  have hz5 : w.heap.size ≤ W5.heap.size := Nat.le_trans hz4 hs5
  replace HO1 := HO1.below hb5
  replace HO2 := HO2.below hb5
  replace HOw0 := HOw0.below hb5
  replace HO3 := HO3.below hb5
  have ltA4 := HO4.lt
  have geA4 := HO4.base
  clear hb5
  go_wp2_with fail
  refine (impl_MixSamples _ (HO3.rd HL0.out) hn0 (HO4.rd HL1.out) hn1).mono ?_
  rintro e_ W6 ⟨vg0, zg0, rfl, HOg0, hzg0, hmg0, hb6⟩
  have hs6 : W5.heap.size ≤ W6.heap.size := hb6.size
  have HB6 := below_next HB5 hz5 hb6
  have hz6 : w.heap.size ≤ W6.heap.size := Nat.le_trans hz5 hs6
  replace HO1 := HO1.below hb6
  replace HO2 := HO2.below hb6
  replace HOw0 := HOw0.below hb6
  replace HO3 := HO3.below hb6
  replace HO4 := HO4.below hb6
  have HZg0 := Lib.hid hzg0; clear hzg0
  obtain ⟨Ag0, c_g0, rfl⟩ := HOg0.shape
  have ltAg0 := HOg0.lt
  have geAg0 := HOg0.base
  clear hb6
  go_wp2_with fail
  refine (RB.m (laws_eqFloat32S _ (HOg0.rd rfl) (HOw0.rd rfl) (by rw [HZg0.out, HZw0.out]) (by omega))).mono ?_
  rintro e_ W7 ⟨rfl, hb7⟩
  have hs7 : W6.heap.size ≤ W7.heap.size := hb7.size
  have HB7 := below_next HB6 hz6 hb7
  have hz7 : w.heap.size ≤ W7.heap.size := Nat.le_trans hz6 hs7
  replace HO1 := HO1.below hb7
  replace HO2 := HO2.below hb7
  replace HOw0 := HOw0.below hb7
  replace HO3 := HO3.below hb7
  replace HO4 := HO4.below hb7
  replace HOg0 := HOg0.below hb7
  clear hb7
  go_wp2_with fail
  refine (laws_toFloat32S _ (h0.below HB7) hn0).mono ?_
  rintro e_ W8 ⟨v5, rfl, HO5, hb8⟩
  obtain ⟨A5, c_5, rfl⟩ := HO5.shape_n HL0.out
  have hs8 : W7.heap.size ≤ W8.heap.size := hb8.size
  have HB8 := below_next HB7 hz7 hb8
  have hz8 : w.heap.size ≤ W8.heap.size := Nat.le_trans hz7 hs8
  replace HO1 := HO1.below hb8
  replace HO2 := HO2.below hb8
  replace HOw0 := HOw0.below hb8
  replace HO3 := HO3.below hb8
  replace HO4 := HO4.below hb8
  replace HOg0 := HOg0.below hb8
  have ltA5 := HO5.lt
  have geA5 := HO5.base
  clear hb8
  go_wp2_with fail
  refine (RB.m (laws_eqFloat32S _ (HO3.rd HL0.out) (HO5.rd HL0.out) rfl (by omega))).mono ?_
  rintro e_ W9 ⟨rfl, hb9⟩
  have hs9 : W8.heap.size ≤ W9.heap.size := hb9.size
  have HB9 := below_next HB8 hz8 hb9
  have hz9 : w.heap.size ≤ W9.heap.size := Nat.le_trans hz8 hs9
  replace HO1 := HO1.below hb9
  replace HO2 := HO2.below hb9
  replace HOw0 := HOw0.below hb9
  replace HO3 := HO3.below hb9
  replace HO4 := HO4.below hb9
  replace HOg0 := HOg0.below hb9
  replace HO5 := HO5.below hb9
  clear hb9
  go_wp2_with fail
  refine (laws_toFloat32S _ (h1.below HB9) hn1).mono ?_
  rintro e_ W10 ⟨v6, rfl, HO6, hb10⟩
  obtain ⟨A6, c_6, rfl⟩ := HO6.shape_n HL1.out
  have hs10 : W9.heap.size ≤ W10.heap.size := hb10.size
  have HB10 := below_next HB9 hz9 hb10
  have hz10 : w.heap.size ≤ W10.heap.size := Nat.le_trans hz9 hs10
  replace HO1 := HO1.below hb10
  replace HO2 := HO2.below hb10
  replace HOw0 := HOw0.below hb10
  replace HO3 := HO3.below hb10
  replace HO4 := HO4.below hb10
  replace HOg0 := HOg0.below hb10
  replace HO5 := HO5.below hb10
  have ltA6 := HO6.lt
  have geA6 := HO6.base
  clear hb10
  go_wp2_with fail
  refine (RB.m (laws_eqFloat32S _ (HO4.rd HL1.out) (HO6.rd HL1.out) rfl (by omega))).mono ?_
  rintro e_ W11 ⟨rfl, hb11⟩
  have hs11 : W10.heap.size ≤ W11.heap.size := hb11.size
  have HB11 := below_next HB10 hz10 hb11
  have hz11 : w.heap.size ≤ W11.heap.size := Nat.le_trans hz10 hs11
  replace HO1 := HO1.below hb11
  replace HO2 := HO2.below hb11
  replace HOw0 := HOw0.below hb11
  replace HO3 := HO3.below hb11
  replace HO4 := HO4.below hb11
  replace HOg0 := HOg0.below hb11
  replace HO5 := HO5.below hb11
  replace HO6 := HO6.below hb11
  clear hb11
  go_wp2_with fail
  refine (laws_markFloat32S _ HO3 HL0.out (by omega) (by omega) (by omega)).mono ?_
  clear HO3
  rintro e_ W12 ⟨rfl, HO3, hg12⟩
  have hs12 : W11.heap.size ≤ W12.heap.size := hg12.size
  have HB12 := HB11.grown hg12 hz11 (fun k_ e_ => Nat.le_trans hz3 (geA3 k_ e_))
  have hz12 : w.heap.size ≤ W12.heap.size := Nat.le_trans hz11 hs12
  replace HO1 := HO1.other hg12 (own_apart ltA1 geA3 (by omega))
  replace HO2 := HO2.other hg12 (own_apart ltA2 geA3 (by omega))
  replace HOw0 := HOw0.other hg12 (own_apart ltAw0 geA3 (by omega))
  replace HO4 := HO4.other hg12 (own_apart' geA4 ltA3 (by omega))
  replace HOg0 := HOg0.other hg12 (own_apart' geAg0 ltA3 (by omega))
  replace HO5 := HO5.other hg12 (own_apart' geA5 ltA3 (by omega))
  replace HO6 := HO6.other hg12 (own_apart' geA6 ltA3 (by omega))
  clear hg12
  go_wp2_with fail
  refine (laws_markFloat32S _ HO4 HL1.out (by omega) (by omega) (by omega)).mono ?_
  clear HO4
  rintro e_ W13 ⟨rfl, HO4, hg13⟩
  have hs13 : W12.heap.size ≤ W13.heap.size := hg13.size
  have HB13 := HB12.grown hg13 hz12 (fun k_ e_ => Nat.le_trans hz4 (geA4 k_ e_))
  have hz13 : w.heap.size ≤ W13.heap.size := Nat.le_trans hz12 hs13
  replace HO1 := HO1.other hg13 (own_apart ltA1 geA4 (by omega))
  replace HO2 := HO2.other hg13 (own_apart ltA2 geA4 (by omega))
  replace HOw0 := HOw0.other hg13 (own_apart ltAw0 geA4 (by omega))
  replace HO3 := HO3.other hg13 (own_apart ltA3 geA4 (by omega))
  replace HOg0 := HOg0.other hg13 (own_apart' geAg0 ltA4 (by omega))
  replace HO5 := HO5.other hg13 (own_apart' geA5 ltA4 (by omega))
  replace HO6 := HO6.other hg13 (own_apart' geA6 ltA4 (by omega))
  clear hg13
  go_wp2_with fail
  refine (RB.m (laws_eqFloat32S _ (HOg0.rd rfl) (HOw0.rd rfl) (by rw [HZg0.out, HZw0.out]) (by omega))).mono ?_
  rintro e_ W14 ⟨rfl, hb14⟩
  have hs14 : W13.heap.size ≤ W14.heap.size := hb14.size
  have HB14 := below_next HB13 hz13 hb14
  have hz14 : w.heap.size ≤ W14.heap.size := Nat.le_trans hz13 hs14
  replace HO1 := HO1.below hb14
  replace HO2 := HO2.below hb14
  replace HOw0 := HOw0.below hb14
  replace HO3 := HO3.below hb14
  replace HO4 := HO4.below hb14
  replace HOg0 := HOg0.below hb14
  replace HO5 := HO5.below hb14
  replace HO6 := HO6.below hb14
  clear hb14
  go_wp2_with fail
  refine (laws_markFloat32S _ HOg0 rfl (by omega) (by omega) (by omega)).mono ?_
  clear HOg0
  rintro e_ W15 ⟨rfl, HOg0, hg15⟩
  have hs15 : W14.heap.size ≤ W15.heap.size := hg15.size
  have HB15 := HB14.grown hg15 hz14 (fun k_ e_ => Nat.le_trans hz5 (geAg0 k_ e_))
  have hz15 : w.heap.size ≤ W15.heap.size := Nat.le_trans hz14 hs15
  replace HO1 := HO1.other hg15 (own_apart ltA1 geAg0 (by omega))
  replace HO2 := HO2.other hg15 (own_apart ltA2 geAg0 (by omega))
  replace HOw0 := HOw0.other hg15 (own_apart ltAw0 geAg0 (by omega))
  replace HO3 := HO3.other hg15 (own_apart ltA3 geAg0 (by omega))
  replace HO4 := HO4.other hg15 (own_apart ltA4 geAg0 (by omega))
  replace HO5 := HO5.other hg15 (own_apart' geA5 ltAg0 (by omega))
  replace HO6 := HO6.other hg15 (own_apart' geA6 ltAg0 (by omega))
  clear hg15
  go_wp2_with fail
  refine (RH.m (laws_heldFloat32S _ (HOg0.rd (marks_length _ _)) (by omega) (by omega) (by omega))).mono ?_
  rintro e_ W16 ⟨rfl, hb16⟩
  have hs16 : W15.heap.size ≤ W16.heap.size := hb16.size
  have HB16 := below_next HB15 hz15 hb16
  have hz16 : w.heap.size ≤ W16.heap.size := Nat.le_trans hz15 hs16
  replace HO1 := HO1.below hb16
  replace HO2 := HO2.below hb16
  replace HOw0 := HOw0.below hb16
  replace HO3 := HO3.below hb16
  replace HO4 := HO4.below hb16
  replace HOg0 := HOg0.below hb16
  replace HO5 := HO5.below hb16
  replace HO6 := HO6.below hb16
  clear hb16
  go_wp2_with fail
  refine (laws_toFloat32S _ (h0.below HB16) hn0).mono ?_
  rintro e_ W17 ⟨v7, rfl, HO7, hb17⟩
  obtain ⟨A7, c_7, rfl⟩ := HO7.shape_n HL0.out
  have hs17 : W16.heap.size ≤ W17.heap.size := hb17.size
  have HB17 := below_next HB16 hz16 hb17
  have hz17 : w.heap.size ≤ W17.heap.size := Nat.le_trans hz16 hs17
  replace HO1 := HO1.below hb17
  replace HO2 := HO2.below hb17
  replace HOw0 := HOw0.below hb17
  replace HO3 := HO3.below hb17
  replace HO4 := HO4.below hb17
  replace HOg0 := HOg0.below hb17
  replace HO5 := HO5.below hb17
  replace HO6 := HO6.below hb17
  have ltA7 := HO7.lt
  have geA7 := HO7.base
  clear hb17
  go_wp2_with fail
  refine (laws_toFloat32S _ (h1.below HB17) hn1).mono ?_
  rintro e_ W18 ⟨v8, rfl, HO8, hb18⟩
  obtain ⟨A8, c_8, rfl⟩ := HO8.shape_n HL1.out
  have hs18 : W17.heap.size ≤ W18.heap.size := hb18.size
  have HB18 := below_next HB17 hz17 hb18
  have hz18 : w.heap.size ≤ W18.heap.size := Nat.le_trans hz17 hs18
  replace HO1 := HO1.below hb18
  replace HO2 := HO2.below hb18
  replace HOw0 := HOw0.below hb18
  replace HO3 := HO3.below hb18
  replace HO4 := HO4.below hb18
  replace HOg0 := HOg0.below hb18
  replace HO5 := HO5.below hb18
  replace HO6 := HO6.below hb18
  replace HO7 := HO7.below hb18
  have ltA8 := HO8.lt
  have geA8 := HO8.base
  clear hb18
  go_wp2_with fail
  refine (impl_MixSamples _ (HO7.rd HL0.out) hn0 (HO8.rd HL1.out) hn1).mono ?_
  rintro e_ W19 ⟨vh0, zh0, rfl, HOh0, hzh0, hmh0, hb19⟩
  have hs19 : W18.heap.size ≤ W19.heap.size := hb19.size
  have HB19 := below_next HB18 hz18 hb19
  have hz19 : w.heap.size ≤ W19.heap.size := Nat.le_trans hz18 hs19
  replace HO1 := HO1.below hb19
  replace HO2 := HO2.below hb19
  replace HOw0 := HOw0.below hb19
  replace HO3 := HO3.below hb19
  replace HO4 := HO4.below hb19
  replace HOg0 := HOg0.below hb19
  replace HO5 := HO5.below hb19
  replace HO6 := HO6.below hb19
  replace HO7 := HO7.below hb19
  replace HO8 := HO8.below hb19
  have HZh0 := Lib.hid hzh0; clear hzh0
  obtain ⟨Ah0, c_h0, rfl⟩ := HOh0.shape
  have ltAh0 := HOh0.lt
  have geAh0 := HOh0.base
  clear hb19
  go_wp2_with fail
  refine (RB.m (laws_eqFloat32S _ (HOh0.rd rfl) (HOw0.rd rfl) (by rw [HZh0.out, HZw0.out]) (by omega))).mono ?_
  rintro e_ W20 ⟨rfl, hb20⟩
  have hs20 : W19.heap.size ≤ W20.heap.size := hb20.size
  have HB20 := below_next HB19 hz19 hb20
  have hz20 : w.heap.size ≤ W20.heap.size := Nat.le_trans hz19 hs20
  replace HO1 := HO1.below hb20
  replace HO2 := HO2.below hb20
  replace HOw0 := HOw0.below hb20
  replace HO3 := HO3.below hb20
  replace HO4 := HO4.below hb20
  replace HOg0 := HOg0.below hb20
  replace HO5 := HO5.below hb20
  replace HO6 := HO6.below hb20
  replace HO7 := HO7.below hb20
  replace HO8 := HO8.below hb20
  replace HOh0 := HOh0.below hb20
  clear hb20
  go_wp2_with fail
  refine (RH.m (laws_heldFloat32S _ (HOg0.rd (marks_length _ _)) (by omega) (by omega) (by omega))).mono ?_
  rintro e_ W21 ⟨rfl, hb21⟩
  have hs21 : W20.heap.size ≤ W21.heap.size := hb21.size
  have HB21 := below_next HB20 hz20 hb21
  have hz21 : w.heap.size ≤ W21.heap.size := Nat.le_trans hz20 hs21
  replace HO1 := HO1.below hb21
  replace HO2 := HO2.below hb21
  replace HOw0 := HOw0.below hb21
  replace HO3 := HO3.below hb21
  replace HO4 := HO4.below hb21
  replace HOg0 := HOg0.below hb21
  replace HO5 := HO5.below hb21
  replace HO6 := HO6.below hb21
  replace HO7 := HO7.below hb21
  replace HO8 := HO8.below hb21
  replace HOh0 := HOh0.below hb21
  clear hb21
  go_wp2_with fail
  go_ret
  exact ⟨rfl, HB21⟩
end Go.Proofs.Ytcjflleeffbhhaa
