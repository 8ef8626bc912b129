/- The walk of the law on recordings: the program's side. Conditions: none beside the contracts' own. -/
import Derived.Test.YtbaokmapgdnhlaaR1
import Derived.Deep.Onto
set_option linter.unusedVariables false
set_option linter.unusedSimpArgs false
namespace Go.Proofs.Ytbaokmapgdnhlaa
open Go.RowKit
set_option maxHeartbeats 800000 in
theorem impl_isCount {n : Int} (w : World) : Calls Try.prog 107 #[.int .i64 n] w fun e w' => e = .returned (.bool (inC n 0 256)) ∧ w = w' := by
  go_enter Try.func107, Try.ntmps107
  go_wp2_with (go_at_call 80; refine (impl_within _).mono ?_; rintro e w' ⟨rfl, rfl⟩)
  go_ret
  exact ⟨rfl, rfl⟩
set_option maxHeartbeats 1600000 in
theorem impl_isPlayed {A : Option Addr} {n c : Nat} {from_ st count : Int} (w : World) (hn : n ≤ 1048576) : Calls Try.prog 96 #[.slice A n c, .int .i64 from_, .int .i64 st, .int .i64 count] w fun e w' => e = .returned (.bool (playOk n from_ st count)) ∧ w = w' := by
  unfold playOk
  by_cases h1 : 1 ≤ n
  all_goals
    go_enter Try.func96, Try.ntmps96
    go_wp2_with (first
      | (go_at_call 61; refine (impl_areSamples hn _).mono ?_; rintro e w' ⟨rfl, rfl⟩)
      | (go_at_call 80; refine (impl_within _).mono ?_; rintro e w' ⟨rfl, rfl⟩)
      | (go_at_call 107; refine (impl_isCount _).mono ?_; rintro e w' ⟨rfl, rfl⟩))
    all_goals
      go_ret
      exact ⟨ret_bool (by simp_all <;> omega), rfl⟩
set_option maxHeartbeats 400000 in
theorem impl_size {n : Int} (w : World) : Calls Try.prog 60 #[.int .i64 n] w fun e w' => e = .returned (.int .i64 n) ∧ w = w' := by
  go_enter Try.func60, Try.ntmps60
  go_wp2
  go_ret
  exact ⟨rfl, rfl⟩
set_option maxHeartbeats 800000 in
theorem impl_wrap {p : Int} (w : World) : Calls Try.prog 99 #[.int .i64 p] w fun e w' => e = .returned (.int .i64 p) ∧ w = w' := by
  go_enter Try.func99, Try.ntmps99
  go_wp2
  go_ret
  exact ⟨rfl, rfl⟩
set_option maxHeartbeats 800000 in
theorem impl_at {A : Option Addr} {n c b : Nat} {xs : List Nat} {i : Int} (w : World) (h : Rd w A n xs) (hn : n ≤ 1048576) (hcb : w.cell? ⟨b, 0, none⟩ = some (.slice A n c)) (h0 : 0 ≤ i) (h1 : i ≤ 1000000) : Calls Try.prog 98 #[.int .i64 i, .pointer (some ⟨b, 0, none⟩)] w (RF .f32 (atR (clss xs) i) w) := by
  unfold atR
  rw [clss_length, h.len]
  by_cases hc : (n : Int) ≤ i
  · rw [if_pos hc]
    go_enter Try.func98, Try.ntmps98
    go_wp2_with (go_at_call 60; refine (impl_size _).mono ?_; rintro e w' ⟨rfl, rfl⟩)
    go_ret
    exact ⟨_, 0, rfl, zero_fl, rfl⟩
  · rw [if_neg hc]
    obtain ⟨ad, x, X, rfl, hcell, hx, hxk, hX⟩ := h.at_ (k := i.toNat) (by omega)
    rw [hX]
    have hi2 : i < (n : Int) := by omega
    clear h hxk hX
    go_enter Try.func98, Try.ntmps98
    go_wp2_with (go_at_call 60; refine (impl_size _).mono ?_; rintro e w' ⟨rfl, rfl⟩)
    go_ret
    exact ⟨_, 0, rfl, hx, rfl⟩
/-- A new list of samples and a whole number. -/
def RSI (s : Int × List (Option Nat)) (w : World) (e : Ending) (w' : World) : Prop := ∃ v zs, e = .returned (.tuple #[v, .int .i64 s.1]) ∧ Of w' w.heap.size v zs ∧ clss zs = s.2 ∧ zs.length ≤ 1048576 ∧ Below w.heap.size w w'
set_option maxHeartbeats 12800000 in
theorem impl_play {A : Option Addr} {n c b m : Nat} {xs : List Nat} {from_ st : Int} (w : World) (h : Rd w A n xs) (hn : n ≤ 1048576) (hcb : w.cell? ⟨b, 0, none⟩ = some (.slice A n c)) (h3 : 0 ≤ from_) (h4 : from_ ≤ 16777216) (h5 : 0 ≤ st) (h6 : st ≤ 655360) (h8 : m ≤ 256) :
    Calls Try.prog 97 #[.func (.func 98) #[] #[.pointer (some ⟨b, 0, none⟩)], .func (.func 99) #[] #[], .int .i64 from_, .int .i64 st, .int .i64 (m : Int)] w (RSI (plT (clss xs) st from_ m) w) := by
  have HXL := Lib.hid h.len
  go_enter Try.func97, Try.ntmps97
  go_wp2_with (go_at_call 99; refine (impl_wrap _).mono ?_; rintro e w' ⟨rfl, rfl⟩)
  go_loopw [12, 2, 4] (fun v f c w' => ∃ j P zs, j ≤ m ∧ f = .int .i64 P ∧ c = .int .i64 ((m - j : Nat) : Int) ∧ Hid (P = (plT (clss xs) st from_ j).1 ∧ clss zs = (plT (clss xs) st from_ j).2) ∧ (0 ≤ P ∧ P ≤ 200000000) ∧ Of w' w.heap.size v zs ∧ Below w.heap.size w w') (fun _ _ c _ => (intOf c).toNat)
  case atStart => exact ⟨0, from_, [], Nat.zero_le _, rfl, rfl, Lib.hid ⟨rfl, rfl⟩, by omega, .nil _ _ _, Below.refl _ _⟩
  case round =>
    obtain ⟨j, P, zs, hj, rfl, rfl, hz, ⟨hP0, hP1⟩, ho, hb⟩ := hrel
    have hsz := hb.size
    by_cases hlt : j < m
    · have hzl := len_of hz.out.2 (m := 1048576) (by rw [plT_len]; omega)
      obtain ⟨q, hq⟩ : ∃ q : Nat, m - j = q + 1 := ⟨m - j - 1, by omega⟩
      rw [hq]
      have HQ := Lib.hid hq
      have hq7 : q ≤ 256 := by omega
      have hr := h.below hb
      have hcb2 : wr.cell? ⟨b, 0, none⟩ = some (.slice A n c) := (hb.cell (p := ⟨b, 0, none⟩) (World.block_lt_of_cell? w ⟨b, 0, none⟩ hcb)).trans hcb
      have hd := Int.tdiv_eq_ediv_of_nonneg (b := 65536) hP0
      have hm := Int.tmod_eq_emod_of_nonneg (b := 65536) hP0
      have hd0 : 0 ≤ P / 65536 := by omega
      have hd1 : P / 65536 ≤ 4000 := by omega
      have HB := Lib.hid (play_bd (clss xs) h3 h4 h5 h6 (j + 1) (by omega))
      have hps : 0 ≤ P + st ∧ P + st ≤ 200000000 := by
        have := HB.out; rw [plT, plS] at this; dsimp only at this; rw [← hz.out.1] at this; exact this
      obtain ⟨hps0, hps1⟩ := hps
      have HT : plT (clss xs) st from_ (j + 1) = (P + st, (plT (clss xs) st from_ j).2 ++ [btwC (atR (clss xs) (P / 65536)) (atR (clss xs) (P / 65536 + 1)) P]) := by rw [plT, plS, ← hz.out.1]
      clear hq hcb
      by_cases h65 : P % 65536 = 0
      · have HTT := Lib.hid (show plT (clss xs) st from_ (j + 1) = (P + st, (plT (clss xs) st from_ j).2 ++ [atR (clss xs) (P / 65536)]) by rw [HT, btwC, if_pos h65])
        have HN := Lib.hid (intF_fl' (P % 65536))
        clear HT hr
        go_wp2_with fail
        refine (impl_at _ (h.below hb) hn hcb2 hd0 (by omega)).mono ?_
        rintro e W1 ⟨a, q1, rfl, ha, rfl⟩
        go_wp2_with (first | (go_at_call 99; refine (impl_wrap _).mono ?_; rintro e w' ⟨rfl, rfl⟩) | (at_builtin; refine ap_float w.heap.size rfl _ _ 25 22 rfl Try.underlying25 info_f32 _ zs _ rfl rfl (by first | exact ho | exact ho.drewN _) ha.wf (by first | exact hb | exact below_drewN hb _) (by simpa using hsz) (by omega) ?_; intro v1 w3 ho3 hb3 _ _))
        refine ⟨⟨j + 1, P + st, _, by omega, rfl, by have := HQ.out; go_num, Lib.hid ⟨?_, ?_⟩, ⟨hps0, hps1⟩, ho3, hb3⟩, by have := HQ.out; simp [intOf]⟩
        · rw [HTT.out]
        · rw [HTT.out]; dsimp only; rw [← hz.out.2]; exact clss_push rfl ha
      · have h65' : 0 < P % 65536 := by omega
        have HTT := Lib.hid (show plT (clss xs) st from_ (j + 1) = (P + st, (plT (clss xs) st from_ j).2 ++ [fadd (atR (clss xs) (P / 65536)) (fmul (fsub (atR (clss xs) (P / 65536 + 1)) (atR (clss xs) (P / 65536))) (fquo (some (floatOfInt .f32 (P % 65536))) (some 1199570944)))]) by rw [HT, btwC, if_neg h65])
        have HN := Lib.hid (intF_fl' (P % 65536))
        clear HT hr
        go_wp2_with fail
        refine (impl_at _ (h.below hb) hn hcb2 hd0 (by omega)).mono ?_
        rintro e W1 ⟨a, q1, rfl, ha, rfl⟩
        go_wp2_with fail
        refine (impl_at _ ((h.below hb).drewN _) hn (by simpa using hcb2) (by omega) (by omega)).mono ?_
        rintro e W1 ⟨b2, q2, rfl, hb2, rfl⟩
        go_wp2_with (first | (go_at_call 99; refine (impl_wrap _).mono ?_; rintro e w' ⟨rfl, rfl⟩) | (at_builtin; refine ap_float w.heap.size rfl _ _ 25 22 rfl Try.underlying25 info_f32 _ zs _ rfl rfl (by first | exact ho | exact ho.drewN _) (ha.fr ((hb2.fr ha .sub _).fr (HN.out.fr k65536 .quo _) .mul _) .add _).wf (by first | exact hb | exact below_drewN hb _) (by simpa using hsz) (by omega) ?_; intro v1 w3 ho3 hb3 _ _))
        refine ⟨⟨j + 1, P + st, _, by omega, rfl, by have := HQ.out; go_num, Lib.hid ⟨?_, ?_⟩, ⟨hps0, hps1⟩, ho3, hb3⟩, by have := HQ.out; simp [intOf]⟩
        · rw [HTT.out]
        · rw [HTT.out]; dsimp only; rw [← hz.out.2]; exact clss_push rfl (ha.fr ((hb2.fr ha .sub _).fr (HN.out.fr k65536 .quo _) .mul _) .add _)
    · obtain rfl : j = m := by omega
      rw [Nat.sub_self]
      go_wp2
      go_ret2
      exact ⟨_, _, by rw [← hz.out.1]; rfl, ho, hz.out.2, len_of hz.out.2 (by rw [plT_len]; omega), hb⟩
set_option maxHeartbeats 1600000 in
theorem impl_PlayRecording {A : Option Addr} {n c : Nat} {xs : List Nat} {from_ st count : Int} (w : World) (h : Rd w A n xs) (hn : n ≤ 1048576) :
    Calls Try.prog 54 #[.slice A n c, .int .i64 from_, .int .i64 st, .int .i64 count] w (RSIB (playNC n (clss xs) from_ st count) (playOk n from_ st count) w) := by
  unfold playNC
  cases hf : playOk n from_ st count <;> simp only [Bool.false_eq_true, if_true, if_false]
  · go_enter Try.func54, Try.ntmps54
    go_wp2_with (go_at_call 96; refine (impl_isPlayed _ hn).mono ?_; rintro e w' ⟨rfl, rfl⟩)
    go_ret3
    exact ⟨_, _, rfl, .nil _ _ _, rfl, by simp, by (repeat (first | exact Below.refl _ _ | (with_reducible assumption) | refine below_drewN ?_ _ | refine Below.drew ?_ | refine Below.alloc ?_ (by simp; try omega) _))⟩
  · obtain ⟨⟨h1, h2⟩, ⟨_, h3, h4⟩, ⟨_, h5, h6⟩, ⟨_, h7, h8⟩⟩ := play_ok hf
    obtain ⟨m, rfl⟩ : ∃ m : Nat, count = m := ⟨count.toNat, by omega⟩
    rw [Int.toNat_natCast]
    go_enter Try.func54, Try.ntmps54
    go_wp2_with (go_at_call 96; refine (impl_isPlayed _ hn).mono ?_; rintro e w' ⟨rfl, rfl⟩)
    have hb0 : Below w.heap.size w (w.alloc (.cells #[.slice A n c] 25)) := (Below.refl _ _).alloc (Nat.le_refl _) _
    have hlow : w.heap.size ≤ (w.alloc (.cells #[.slice A n c] 25)).heap.size := by simp
    refine (impl_play (c := c) _ (h.below hb0) hn (by simp [go_sem]) h3 h4 h5 h6 (by omega)).mono ?_
    rintro e w1 ⟨v, zs, rfl, ho, hz, hzl, hb1⟩
    have hb2 := below_next hb0 hlow hb1
    have ho2 : Of w1 w.heap.size v zs := ⟨World.ownsRow.mono ho.own hlow, ho.wf⟩
    clear hb0 hb1 ho hlow
    go_wp2_with fail
    go_ret3
    exact ⟨_, _, rfl, ho2, hz, hzl, hb2⟩
set_option maxHeartbeats 4000000 in
set_option maxRecDepth 100000 in
theorem playRecording_walk (a0 : Option Addr) (n0 c0 : Nat) (l0 : List Value) (a1 : Int) (a2 : Int) (a3 : Int) (w : World) (w0 : Row w [.f32] a0 n0 l0) (w1 : (Lit.int .i64 a1).wf = true) (w2 : (Lit.int .i64 a2).wf = true) (w3 : (Lit.int .i64 a3).wf = true) :
    Calls Try.prog 12 #[.slice a0 n0 c0, .int .i64 a1, .int .i64 a2, .int .i64 a3] w fun e w' => e = .returned (.bool true) ∧ Below w.heap.size w w' := by
  obtain ⟨x0, h0⟩ := w0.rd
  rcases Nat.lt_or_ge 1048576 n0 with hn0 | hn0
  · go_enter Try.func12, Try.ntmps12
    go_wp2_with fail
    go_ret
    exact ⟨rfl, by (repeat (first | exact Below.refl _ _ | (with_reducible assumption) | refine below_drewN ?_ _ | refine Below.drew ?_ | refine Below.alloc ?_ (by simp; try omega) _))⟩
  have hl0 := h0.len
  clear w1
  clear w2
  clear w3
  have HL0 := Lib.hid hl0; clear hl0
  have HB0 : Below w.heap.size w w := Below.refl _ _
  have hz0 : w.heap.size ≤ w.heap.size := Nat.le_refl _
  go_enter Try.func12, Try.ntmps12
  go_wp2_with fail
  refine (laws_toFloat32S _ (h0.below HB0) hn0).mono ?_
  rintro e_ W1 ⟨v1, rfl, HO1, hb1⟩
  obtain ⟨A1, c_1, rfl⟩ := HO1.shape_n HL0.out
  have hs1 : w.heap.size ≤ W1.heap.size := hb1.size
  have HB1 := below_next HB0 hz0 hb1
  have hz1 : w.heap.size ≤ W1.heap.size := Nat.le_trans hz0 hs1
  have ltA1 := HO1.lt
  have geA1 := HO1.base
  clear hb1
  go_wp2_with fail
  refine (spec_PlayRecording _ (HO1.rd HL0.out) hn0).mono ?_
  rintro e_ W2 ⟨vw0, zw0, rfl, HOw0, hzw0, hmw0, hb2⟩
  have hs2 : W1.heap.size ≤ W2.heap.size := hb2.size
  have HB2 := below_next HB1 hz1 hb2
  have hz2 : w.heap.size ≤ W2.heap.size := Nat.le_trans hz1 hs2
  replace HO1 := HO1.below hb2
  have HZw0 := Lib.hid hzw0; clear hzw0
  obtain ⟨Aw0, c_w0, rfl⟩ := HOw0.shape
  have ltAw0 := HOw0.lt
  have geAw0 := HOw0.base
  clear hb2
  go_wp2_with fail
  refine (laws_toFloat32S _ (h0.below HB2) hn0).mono ?_
  rintro e_ W3 ⟨v2, rfl, HO2, hb3⟩
  obtain ⟨A2, c_2, rfl⟩ := HO2.shape_n HL0.out
  have hs3 : W2.heap.size ≤ W3.heap.size := hb3.size
  have HB3 := below_next HB2 hz2 hb3
  have hz3 : w.heap.size ≤ W3.heap.size := Nat.le_trans hz2 hs3
  replace HO1 := HO1.below hb3
  replace HOw0 := HOw0.below hb3
  have ltA2 := HO2.lt
  have geA2 := HO2.base
  clear hb3
  go_wp2_with fail
  refine (impl_PlayRecording _ (HO2.rd HL0.out) hn0).mono ?_
  rintro e_ W4 ⟨vg0, zg0, rfl, HOg0, hzg0, hmg0, hb4⟩
  have hs4 : W3.heap.size ≤ W4.heap.size := hb4.size
  have HB4 := below_next HB3 hz3 hb4
  have hz4 : w.heap.size ≤ W4.heap.size := Nat.le_trans hz3 hs4
  replace HO1 := HO1.below hb4
  replace HOw0 := HOw0.below hb4
  replace HO2 := HO2.below hb4
  have HZg0 := Lib.hid hzg0; clear hzg0
  obtain ⟨Ag0, c_g0, rfl⟩ := HOg0.shape
  have ltAg0 := HOg0.lt
  have geAg0 := HOg0.base
  clear hb4
  go_wp2_with fail
  refine (RB.m (laws_eqFloat32S _ (HOg0.rd rfl) (HOw0.rd rfl) (by rw [HZg0.out, HZw0.out]) (by omega))).mono ?_
  rintro e_ W5 ⟨rfl, hb5⟩
  have hs5 : W4.heap.size ≤ W5.heap.size := hb5.size
  have HB5 := below_next HB4 hz4 hb5
  have hz5 : w.heap.size ≤ W5.heap.size := Nat.le_trans hz4 hs5
  replace HO1 := HO1.below hb5
  replace HOw0 := HOw0.below hb5
  replace HO2 := HO2.below hb5
  replace HOg0 := HOg0.below hb5
  clear hb5
  go_wp2_with fail
  refine (laws_toFloat32S _ (h0.below HB5) hn0).mono ?_
  rintro e_ W6 ⟨v3, rfl, HO3, hb6⟩
  obtain ⟨A3, c_3, rfl⟩ := HO3.shape_n HL0.out
  have hs6 : W5.heap.size ≤ W6.heap.size := hb6.size
  have HB6 := below_next HB5 hz5 hb6
  have hz6 : w.heap.size ≤ W6.heap.size := Nat.le_trans hz5 hs6
  replace HO1 := HO1.below hb6
  replace HOw0 := HOw0.below hb6
  replace HO2 := HO2.below hb6
  replace HOg0 := HOg0.below hb6
  have ltA3 := HO3.lt
  have geA3 := HO3.base
  clear hb6
  go_wp2_with fail
  refine (RB.m (laws_eqFloat32S _ (HO2.rd HL0.out) (HO3.rd HL0.out) rfl (by omega))).mono ?_
  rintro e_ W7 ⟨rfl, hb7⟩
  have hs7 : W6.heap.size ≤ W7.heap.size := hb7.size
  have HB7 := below_next HB6 hz6 hb7
  have hz7 : w.heap.size ≤ W7.heap.size := Nat.le_trans hz6 hs7
  replace HO1 := HO1.below hb7
  replace HOw0 := HOw0.below hb7
  replace HO2 := HO2.below hb7
  replace HOg0 := HOg0.below hb7
  replace HO3 := HO3.below hb7
  clear hb7
  go_wp2_with fail
  refine (laws_markFloat32S _ HO2 HL0.out (by omega) (by omega) (by omega)).mono ?_
  clear HO2
  rintro e_ W8 ⟨rfl, HO2, hg8⟩
  have hs8 : W7.heap.size ≤ W8.heap.size := hg8.size
  have HB8 := HB7.grown hg8 hz7 (fun k_ e_ => Nat.le_trans hz2 (geA2 k_ e_))
  have hz8 : w.heap.size ≤ W8.heap.size := Nat.le_trans hz7 hs8
  replace HO1 := HO1.other hg8 (own_apart ltA1 geA2 (by omega))
  replace HOw0 := HOw0.other hg8 (own_apart ltAw0 geA2 (by omega))
  replace HOg0 := HOg0.other hg8 (own_apart' geAg0 ltA2 (by omega))
  replace HO3 := HO3.other hg8 (own_apart' geA3 ltA2 (by omega))
  clear hg8
  go_wp2_with fail
  refine (RB.m (laws_eqFloat32S _ (HOg0.rd rfl) (HOw0.rd rfl) (by rw [HZg0.out, HZw0.out]) (by omega))).mono ?_
  rintro e_ W9 ⟨rfl, hb9⟩
  have hs9 : W8.heap.size ≤ W9.heap.size := hb9.size
  have HB9 := below_next HB8 hz8 hb9
  have hz9 : w.heap.size ≤ W9.heap.size := Nat.le_trans hz8 hs9
  replace HO1 := HO1.below hb9
  replace HOw0 := HOw0.below hb9
  replace HO2 := HO2.below hb9
  replace HOg0 := HOg0.below hb9
  replace HO3 := HO3.below hb9
  clear hb9
  go_wp2_with fail
  refine (laws_markFloat32S _ HOg0 rfl (by omega) (by omega) (by omega)).mono ?_
  clear HOg0
  rintro e_ W10 ⟨rfl, HOg0, hg10⟩
  have hs10 : W9.heap.size ≤ W10.heap.size := hg10.size
  have HB10 := HB9.grown hg10 hz9 (fun k_ e_ => Nat.le_trans hz3 (geAg0 k_ e_))
  have hz10 : w.heap.size ≤ W10.heap.size := Nat.le_trans hz9 hs10
  replace HO1 := HO1.other hg10 (own_apart ltA1 geAg0 (by omega))
  replace HOw0 := HOw0.other hg10 (own_apart ltAw0 geAg0 (by omega))
  replace HO2 := HO2.other hg10 (own_apart ltA2 geAg0 (by omega))
  replace HO3 := HO3.other hg10 (own_apart' geA3 ltAg0 (by omega))
  clear hg10
  go_wp2_with fail
  refine (RH.m (laws_heldFloat32S _ (HOg0.rd (marks_length _ _)) (by omega) (by omega) (by omega))).mono ?_
  rintro e_ W11 ⟨rfl, hb11⟩
  have hs11 : W10.heap.size ≤ W11.heap.size := hb11.size
  have HB11 := below_next HB10 hz10 hb11
  have hz11 : w.heap.size ≤ W11.heap.size := Nat.le_trans hz10 hs11
  replace HO1 := HO1.below hb11
  replace HOw0 := HOw0.below hb11
  replace HO2 := HO2.below hb11
  replace HOg0 := HOg0.below hb11
  replace HO3 := HO3.below hb11
  clear hb11
  go_wp2_with fail
  refine (laws_toFloat32S _ (h0.below HB11) hn0).mono ?_
  rintro e_ W12 ⟨v4, rfl, HO4, hb12⟩
  obtain ⟨A4, c_4, rfl⟩ := HO4.shape_n HL0.out
  have hs12 : W11.heap.size ≤ W12.heap.size := hb12.size
  have HB12 := below_next HB11 hz11 hb12
  have hz12 : w.heap.size ≤ W12.heap.size := Nat.le_trans hz11 hs12
  replace HO1 := HO1.below hb12
  replace HOw0 := HOw0.below hb12
  replace HO2 := HO2.below hb12
  replace HOg0 := HOg0.below hb12
  replace HO3 := HO3.below hb12
  have ltA4 := HO4.lt
  have geA4 := HO4.base
  clear hb12
  go_wp2_with fail
  refine (impl_PlayRecording _ (HO4.rd HL0.out) hn0).mono ?_
  rintro e_ W13 ⟨vh0, zh0, rfl, HOh0, hzh0, hmh0, hb13⟩
  have hs13 : W12.heap.size ≤ W13.heap.size := hb13.size
  have HB13 := below_next HB12 hz12 hb13
  have hz13 : w.heap.size ≤ W13.heap.size := Nat.le_trans hz12 hs13
  replace HO1 := HO1.below hb13
  replace HOw0 := HOw0.below hb13
  replace HO2 := HO2.below hb13
  replace HOg0 := HOg0.below hb13
  replace HO3 := HO3.below hb13
  replace HO4 := HO4.below hb13
  have HZh0 := Lib.hid hzh0; clear hzh0
  obtain ⟨Ah0, c_h0, rfl⟩ := HOh0.shape
  have ltAh0 := HOh0.lt
  have geAh0 := HOh0.base
  clear hb13
  go_wp2_with fail
  refine (RB.m (laws_eqFloat32S _ (HOh0.rd rfl) (HOw0.rd rfl) (by rw [HZh0.out, HZw0.out]) (by omega))).mono ?_
  rintro e_ W14 ⟨rfl, hb14⟩
  have hs14 : W13.heap.size ≤ W14.heap.size := hb14.size
  have HB14 := below_next HB13 hz13 hb14
  have hz14 : w.heap.size ≤ W14.heap.size := Nat.le_trans hz13 hs14
  replace HO1 := HO1.below hb14
  replace HOw0 := HOw0.below hb14
  replace HO2 := HO2.below hb14
  replace HOg0 := HOg0.below hb14
  replace HO3 := HO3.below hb14
  replace HO4 := HO4.below hb14
  replace HOh0 := HOh0.below hb14
  clear hb14
  go_wp2_with fail
  refine (RH.m (laws_heldFloat32S _ (HOg0.rd (marks_length _ _)) (by omega) (by omega) (by omega))).mono ?_
  rintro e_ W15 ⟨rfl, hb15⟩
  have hs15 : W14.heap.size ≤ W15.heap.size := hb15.size
  have HB15 := below_next HB14 hz14 hb15
  have hz15 : w.heap.size ≤ W15.heap.size := Nat.le_trans hz14 hs15
  replace HO1 := HO1.below hb15
  replace HOw0 := HOw0.below hb15
  replace HO2 := HO2.below hb15
  replace HOg0 := HOg0.below hb15
  replace HO3 := HO3.below hb15
  replace HO4 := HO4.below hb15
  replace HOh0 := HOh0.below hb15
  clear hb15
  go_wp2_with fail
  go_ret
  exact ⟨rfl, HB15⟩
end Go.Proofs.Ytbaokmapgdnhlaa
