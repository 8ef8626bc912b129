/- The walk of the law on scaled filters. Conditions: none. -/
import Derived.Test.YtlenpecnfilkjaaQ1
set_option linter.unusedVariables false
set_option linter.unusedSimpArgs false
namespace Go.Proofs.Ytlenpecnfilkjaa
open Go.RowKit
set_option maxHeartbeats 800000 in
theorem laws_toFilter {a b c d f : Nat} (w : World) : Calls Try.prog 20 #[.agg #[.float .f32 a, .float .f32 b, .float .f32 c, .float .f32 d, .float .f32 f]] w (RV (.agg #[.float .f32 a, .float .f32 b, .float .f32 c, .float .f32 d, .float .f32 f]) w) := by
  go_enter Try.func20, Try.ntmps20
  go_wp2
  refine bodyPost_ret (v := .agg #[.float .f32 a, .float .f32 b, .float .f32 c, .float .f32 d, .float .f32 f]) ?_ rfl ⟨rfl, ?_⟩
  · simp [results, Try.results20, go_sem]
  · (repeat (first | exact Below.refl _ _ | (with_reducible assumption) | refine below_drewN ?_ _ | refine Below.drew ?_ | refine Below.alloc ?_ (by simp; try omega) _))
set_option maxHeartbeats 800000 in
theorem spec_ScaleFilter {a b c d f g : Nat} {A B C D E G : Option Nat} (w : World) (ha : Fl .f32 a A) (hb : Fl .f32 b B) (hc : Fl .f32 c C) (hd : Fl .f32 d D) (hf : Fl .f32 f E) (hg : Fl .f32 g G) : Calls Try.prog 19 #[.agg #[.float .f32 a, .float .f32 b, .float .f32 c, .float .f32 d, .float .f32 f], .float .f32 g] w (R5 (fop .mul .f32 A G) (fop .mul .f32 B G) (fop .mul .f32 C G) D E w) := by
  have H1 := Lib.hid (fun w => ha.fr hg .mul w)
  have H2 := Lib.hid (fun w => hb.fr hg .mul w)
  have H3 := Lib.hid (fun w => hc.fr hg .mul w)
  go_enter Try.func19, Try.ntmps19
  go_wp2
  exact bodyPost_ret (v := .agg #[.float .f32 (fr .mul .f32 a g ((w.alloc (Obj.cells #[.float .f32 a, .float .f32 b, .float .f32 c, .float .f32 d, .float .f32 f] 30)).alloc (Obj.cells #[.float .f32 0, .float .f32 0, .float .f32 0, .float .f32 0, .float .f32 0] 30))), .float .f32 (fr .mul .f32 b g (((w.alloc (Obj.cells #[.float .f32 a, .float .f32 b, .float .f32 c, .float .f32 d, .float .f32 f] 30)).alloc (Obj.cells #[.float .f32 0, .float .f32 0, .float .f32 0, .float .f32 0, .float .f32 0] 30)).drewN (fd .mul .f32 a g))), .float .f32 (fr .mul .f32 c g (((w.alloc (Obj.cells #[.float .f32 a, .float .f32 b, .float .f32 c, .float .f32 d, .float .f32 f] 30)).alloc (Obj.cells #[.float .f32 0, .float .f32 0, .float .f32 0, .float .f32 0, .float .f32 0] 30)).drewN (fd .mul .f32 a g + fd .mul .f32 b g))), .float .f32 d, .float .f32 f]) (by simp [results, Try.results19, go_sem]) rfl ⟨_, _, _, _, _, rfl, H1.out _, H2.out _, H3.out _, hd, hf, by (repeat (first | exact Below.refl _ _ | (with_reducible assumption) | refine below_drewN ?_ _ | refine Below.drew ?_ | refine Below.alloc ?_ (by simp; try omega) _))⟩
set_option maxHeartbeats 800000 in
theorem impl_ScaleFilter {a b c d f g : Nat} {A B C D E G : Option Nat} (w : World) (ha : Fl .f32 a A) (hb : Fl .f32 b B) (hc : Fl .f32 c C) (hd : Fl .f32 d D) (hf : Fl .f32 f E) (hg : Fl .f32 g G) : Calls Try.prog 21 #[.agg #[.float .f32 a, .float .f32 b, .float .f32 c, .float .f32 d, .float .f32 f], .float .f32 g] w (R5 (fop .mul .f32 A G) (fop .mul .f32 B G) (fop .mul .f32 C G) D E w) := by
  have H1 := Lib.hid (fun w => ha.fr hg .mul w)
  have H2 := Lib.hid (fun w => hb.fr hg .mul w)
  have H3 := Lib.hid (fun w => hc.fr hg .mul w)
  go_enter Try.func21, Try.ntmps21
  go_wp2
  exact bodyPost_ret (v := .agg #[.float .f32 (fr .mul .f32 a g ((w.alloc (Obj.cells #[.float .f32 a, .float .f32 b, .float .f32 c, .float .f32 d, .float .f32 f] 30)).alloc (Obj.cells #[.float .f32 0, .float .f32 0, .float .f32 0, .float .f32 0, .float .f32 0] 30))), .float .f32 (fr .mul .f32 b g (((w.alloc (Obj.cells #[.float .f32 a, .float .f32 b, .float .f32 c, .float .f32 d, .float .f32 f] 30)).alloc (Obj.cells #[.float .f32 0, .float .f32 0, .float .f32 0, .float .f32 0, .float .f32 0] 30)).drewN (fd .mul .f32 a g))), .float .f32 (fr .mul .f32 c g (((w.alloc (Obj.cells #[.float .f32 a, .float .f32 b, .float .f32 c, .float .f32 d, .float .f32 f] 30)).alloc (Obj.cells #[.float .f32 0, .float .f32 0, .float .f32 0, .float .f32 0, .float .f32 0] 30)).drewN (fd .mul .f32 a g + fd .mul .f32 b g))), .float .f32 d, .float .f32 f]) (by simp [results, Try.results21, go_sem]) rfl ⟨_, _, _, _, _, rfl, H1.out _, H2.out _, H3.out _, hd, hf, by (repeat (first | exact Below.refl _ _ | (with_reducible assumption) | refine below_drewN ?_ _ | refine Below.drew ?_ | refine Below.alloc ?_ (by simp; try omega) _))⟩
set_option maxHeartbeats 4000000 in
set_option maxRecDepth 100000 in
theorem scaleFilter_walk (a0_0 : Nat) (a0_1 : Nat) (a0_2 : Nat) (a0_3 : Nat) (a0_4 : Nat) (a1 : Nat) (w : World) (w0_0 : a0_0 < 2 ^ FloatKind.f32.format.width) (w0_1 : a0_1 < 2 ^ FloatKind.f32.format.width) (w0_2 : a0_2 < 2 ^ FloatKind.f32.format.width) (w0_3 : a0_3 < 2 ^ FloatKind.f32.format.width) (w0_4 : a0_4 < 2 ^ FloatKind.f32.format.width) (w1 : a1 < 2 ^ FloatKind.f32.format.width) :
    Calls Try.prog 5 #[.agg #[.float .f32 a0_0, .float .f32 a0_1, .float .f32 a0_2, .float .f32 a0_3, .float .f32 a0_4], .float .f32 a1] w fun e w' => e = .returned (.bool true) ∧ Below w.heap.size w w' := by
  have hy0_0 := Fl.self w0_0
  have hy0_1 := Fl.self w0_1
  have hy0_2 := Fl.self w0_2
  have hy0_3 := Fl.self w0_3
  have hy0_4 := Fl.self w0_4
  have hy1 := Fl.self w1
  have HB0 : Below w.heap.size w w := Below.refl _ _
  have hz0 : w.heap.size ≤ w.heap.size := Nat.le_refl _
  go_enter Try.func5, Try.ntmps5
  go_wp2_with fail
  obtain ⟨W1, hW1⟩ : ∃ V, V = World.alloc w (.cells #[.float .f32 a0_0, .float .f32 a0_1, .float .f32 a0_2, .float .f32 a0_3, .float .f32 a0_4] 34) := ⟨_, rfl⟩
  rw [← hW1]
  have eZ0 : w.heap.size = w.heap.size := rfl
  have hZ1 : W1.heap.size = w.heap.size + 1 := by rw [hW1]; simp [eZ0]
  have hb1 : Below w.heap.size w W1 := by rw [hW1]; exact (Below.refl _ _).alloc (Nat.le_refl _) _
  have cp0_0 : W1.cell? ⟨w.heap.size, 0, none⟩ = some (.float .f32 a0_0) := by rw [hW1, ← eZ0]; simp [go_sem]
  have cp0_1 : W1.cell? ⟨w.heap.size, 1, none⟩ = some (.float .f32 a0_1) := by rw [hW1, ← eZ0]; simp [go_sem]
  have cp0_2 : W1.cell? ⟨w.heap.size, 2, none⟩ = some (.float .f32 a0_2) := by rw [hW1, ← eZ0]; simp [go_sem]
  have cp0_3 : W1.cell? ⟨w.heap.size, 3, none⟩ = some (.float .f32 a0_3) := by rw [hW1, ← eZ0]; simp [go_sem]
  have cp0_4 : W1.cell? ⟨w.heap.size, 4, none⟩ = some (.float .f32 a0_4) := by rw [hW1, ← eZ0]; simp [go_sem]
  have ltp0 : w.heap.size < W1.heap.size := by rw [hZ1]; omega
  have lup0 := ltp0
  clear hW1
  have hs1 : w.heap.size ≤ W1.heap.size := hb1.size
  have HB1 := below_next HB0 hz0 hb1
  have hz1 : w.heap.size ≤ W1.heap.size := Nat.le_trans hz0 hs1
  clear hb1
  refine (laws_toFilter _).mono ?_
  rintro e_ W2 ⟨rfl, hb2⟩
  have hs2 : W1.heap.size ≤ W2.heap.size := hb2.size
  have HB2 := below_next HB1 hz1 hb2
  have hz2 : w.heap.size ≤ W2.heap.size := Nat.le_trans hz1 hs2
  replace cp0_0 := (cell_below hb2 ltp0).trans cp0_0
  replace cp0_1 := (cell_below hb2 ltp0).trans cp0_1
  replace cp0_2 := (cell_below hb2 ltp0).trans cp0_2
  replace cp0_3 := (cell_below hb2 ltp0).trans cp0_3
  replace cp0_4 := (cell_below hb2 ltp0).trans cp0_4
  replace ltp0 := Nat.lt_of_lt_of_le ltp0 hb2.size
  clear hb2
  go_wp2_with fail
  refine (spec_ScaleFilter _ hy0_0 hy0_1 hy0_2 hy0_3 hy0_4 hy1).mono ?_
  rintro e_ W3 ⟨rw0_0, rw0_1, rw0_2, rw0_3, rw0_4, rfl, hrw0_0, hrw0_1, hrw0_2, hrw0_3, hrw0_4, hb3⟩
  have hs3 : W2.heap.size ≤ W3.heap.size := hb3.size
  have HB3 := below_next HB2 hz2 hb3
  have hz3 : w.heap.size ≤ W3.heap.size := Nat.le_trans hz2 hs3
  replace cp0_0 := (cell_below hb3 ltp0).trans cp0_0
  replace cp0_1 := (cell_below hb3 ltp0).trans cp0_1
  replace cp0_2 := (cell_below hb3 ltp0).trans cp0_2
  replace cp0_3 := (cell_below hb3 ltp0).trans cp0_3
  replace cp0_4 := (cell_below hb3 ltp0).trans cp0_4
  replace ltp0 := Nat.lt_of_lt_of_le ltp0 hb3.size
  clear hb3
  go_wp2_with fail
  obtain ⟨b_w0, eb_w0⟩ : ∃ b, W3.heap.size = b := ⟨_, rfl⟩
  obtain ⟨W4, hW4⟩ : ∃ V, V = World.alloc W3 (.cells #[.float .f32 rw0_0, .float .f32 rw0_1, .float .f32 rw0_2, .float .f32 rw0_3, .float .f32 rw0_4] 30) := ⟨_, rfl⟩
  rw [← hW4, eb_w0]
  have hb4 : Below W3.heap.size W3 W4 := by rw [hW4]; exact (Below.refl _ _).alloc (Nat.le_refl _) _
  have cb_w0_0 : W4.cell? ⟨b_w0, 0, none⟩ = some (.float .f32 rw0_0) := by rw [hW4, ← eb_w0]; simp [go_sem]
  have cb_w0_1 : W4.cell? ⟨b_w0, 1, none⟩ = some (.float .f32 rw0_1) := by rw [hW4, ← eb_w0]; simp [go_sem]
  have cb_w0_2 : W4.cell? ⟨b_w0, 2, none⟩ = some (.float .f32 rw0_2) := by rw [hW4, ← eb_w0]; simp [go_sem]
  have cb_w0_3 : W4.cell? ⟨b_w0, 3, none⟩ = some (.float .f32 rw0_3) := by rw [hW4, ← eb_w0]; simp [go_sem]
  have cb_w0_4 : W4.cell? ⟨b_w0, 4, none⟩ = some (.float .f32 rw0_4) := by rw [hW4, ← eb_w0]; simp [go_sem]
  have ltb_w0 : b_w0 < W4.heap.size := by rw [hW4, ← eb_w0]; simp
  have lub_w0 := ltb_w0
  clear hW4
  have hs4 : W3.heap.size ≤ W4.heap.size := hb4.size
  have HB4 := below_next HB3 hz3 hb4
  have hz4 : w.heap.size ≤ W4.heap.size := Nat.le_trans hz3 hs4
  replace cp0_0 := (cell_below hb4 ltp0).trans cp0_0
  replace cp0_1 := (cell_below hb4 ltp0).trans cp0_1
  replace cp0_2 := (cell_below hb4 ltp0).trans cp0_2
  replace cp0_3 := (cell_below hb4 ltp0).trans cp0_3
  replace cp0_4 := (cell_below hb4 ltp0).trans cp0_4
  replace ltp0 := Nat.lt_of_lt_of_le ltp0 hb4.size
  clear hb4
  refine (laws_toFilter _).mono ?_
  rintro e_ W5 ⟨rfl, hb5⟩
  have hs5 : W4.heap.size ≤ W5.heap.size := hb5.size
  have HB5 := below_next HB4 hz4 hb5
  have hz5 : w.heap.size ≤ W5.heap.size := Nat.le_trans hz4 hs5
  replace cp0_0 := (cell_below hb5 ltp0).trans cp0_0
  replace cp0_1 := (cell_below hb5 ltp0).trans cp0_1
  replace cp0_2 := (cell_below hb5 ltp0).trans cp0_2
  replace cp0_3 := (cell_below hb5 ltp0).trans cp0_3
  replace cp0_4 := (cell_below hb5 ltp0).trans cp0_4
  replace ltp0 := Nat.lt_of_lt_of_le ltp0 hb5.size
  replace cb_w0_0 := (cell_below hb5 ltb_w0).trans cb_w0_0
  replace cb_w0_1 := (cell_below hb5 ltb_w0).trans cb_w0_1
  replace cb_w0_2 := (cell_below hb5 ltb_w0).trans cb_w0_2
  replace cb_w0_3 := (cell_below hb5 ltb_w0).trans cb_w0_3
  replace cb_w0_4 := (cell_below hb5 ltb_w0).trans cb_w0_4
  replace ltb_w0 := Nat.lt_of_lt_of_le ltb_w0 hb5.size
  clear hb5
  go_wp2_with fail
  refine (impl_ScaleFilter _ hy0_0 hy0_1 hy0_2 hy0_3 hy0_4 hy1).mono ?_
  rintro e_ W6 ⟨rg0_0, rg0_1, rg0_2, rg0_3, rg0_4, rfl, hrg0_0, hrg0_1, hrg0_2, hrg0_3, hrg0_4, hb6⟩
  have hs6 : W5.heap.size ≤ W6.heap.size := hb6.size
  have HB6 := below_next HB5 hz5 hb6
  have hz6 : w.heap.size ≤ W6.heap.size := Nat.le_trans hz5 hs6
  replace cp0_0 := (cell_below hb6 ltp0).trans cp0_0
  replace cp0_1 := (cell_below hb6 ltp0).trans cp0_1
  replace cp0_2 := (cell_below hb6 ltp0).trans cp0_2
  replace cp0_3 := (cell_below hb6 ltp0).trans cp0_3
  replace cp0_4 := (cell_below hb6 ltp0).trans cp0_4
  replace ltp0 := Nat.lt_of_lt_of_le ltp0 hb6.size
  replace cb_w0_0 := (cell_below hb6 ltb_w0).trans cb_w0_0
  replace cb_w0_1 := (cell_below hb6 ltb_w0).trans cb_w0_1
  replace cb_w0_2 := (cell_below hb6 ltb_w0).trans cb_w0_2
  replace cb_w0_3 := (cell_below hb6 ltb_w0).trans cb_w0_3
  replace cb_w0_4 := (cell_below hb6 ltb_w0).trans cb_w0_4
  replace ltb_w0 := Nat.lt_of_lt_of_le ltb_w0 hb6.size
  clear hb6
  go_wp2_with fail
  obtain ⟨b_g0, eb_g0⟩ : ∃ b, W6.heap.size = b := ⟨_, rfl⟩
  obtain ⟨W7, hW7⟩ : ∃ V, V = World.alloc W6 (.cells #[.float .f32 rg0_0, .float .f32 rg0_1, .float .f32 rg0_2, .float .f32 rg0_3, .float .f32 rg0_4] 30) := ⟨_, rfl⟩
  rw [← hW7, eb_g0]
  have hb7 : Below W6.heap.size W6 W7 := by rw [hW7]; exact (Below.refl _ _).alloc (Nat.le_refl _) _
  have cb_g0_0 : W7.cell? ⟨b_g0, 0, none⟩ = some (.float .f32 rg0_0) := by rw [hW7, ← eb_g0]; simp [go_sem]
  have cb_g0_1 : W7.cell? ⟨b_g0, 1, none⟩ = some (.float .f32 rg0_1) := by rw [hW7, ← eb_g0]; simp [go_sem]
  have cb_g0_2 : W7.cell? ⟨b_g0, 2, none⟩ = some (.float .f32 rg0_2) := by rw [hW7, ← eb_g0]; simp [go_sem]
  have cb_g0_3 : W7.cell? ⟨b_g0, 3, none⟩ = some (.float .f32 rg0_3) := by rw [hW7, ← eb_g0]; simp [go_sem]
  have cb_g0_4 : W7.cell? ⟨b_g0, 4, none⟩ = some (.float .f32 rg0_4) := by rw [hW7, ← eb_g0]; simp [go_sem]
  have ltb_g0 : b_g0 < W7.heap.size := by rw [hW7, ← eb_g0]; simp
  have lub_g0 := ltb_g0
  clear hW7
  have hs7 : W6.heap.size ≤ W7.heap.size := hb7.size
  have HB7 := below_next HB6 hz6 hb7
  have hz7 : w.heap.size ≤ W7.heap.size := Nat.le_trans hz6 hs7
  replace cp0_0 := (cell_below hb7 ltp0).trans cp0_0
  replace cp0_1 := (cell_below hb7 ltp0).trans cp0_1
  replace cp0_2 := (cell_below hb7 ltp0).trans cp0_2
  replace cp0_3 := (cell_below hb7 ltp0).trans cp0_3
  replace cp0_4 := (cell_below hb7 ltp0).trans cp0_4
  replace ltp0 := Nat.lt_of_lt_of_le ltp0 hb7.size
  replace cb_w0_0 := (cell_below hb7 ltb_w0).trans cb_w0_0
  replace cb_w0_1 := (cell_below hb7 ltb_w0).trans cb_w0_1
  replace cb_w0_2 := (cell_below hb7 ltb_w0).trans cb_w0_2
  replace cb_w0_3 := (cell_below hb7 ltb_w0).trans cb_w0_3
  replace cb_w0_4 := (cell_below hb7 ltb_w0).trans cb_w0_4
  replace ltb_w0 := Nat.lt_of_lt_of_le ltb_w0 hb7.size
  clear hb7
  refine (laws_eqFilter _ hrg0_0 hrg0_1 hrg0_2 hrg0_3 hrg0_4 hrw0_0 hrw0_1 hrw0_2 hrw0_3 hrw0_4).mono ?_
  rintro e_ W8 ⟨rfl, hb8⟩
  have hs8 : W7.heap.size ≤ W8.heap.size := hb8.size
  have HB8 := below_next HB7 hz7 hb8
  have hz8 : w.heap.size ≤ W8.heap.size := Nat.le_trans hz7 hs8
  replace cp0_0 := (cell_below hb8 ltp0).trans cp0_0
  replace cp0_1 := (cell_below hb8 ltp0).trans cp0_1
  replace cp0_2 := (cell_below hb8 ltp0).trans cp0_2
  replace cp0_3 := (cell_below hb8 ltp0).trans cp0_3
  replace cp0_4 := (cell_below hb8 ltp0).trans cp0_4
  replace ltp0 := Nat.lt_of_lt_of_le ltp0 hb8.size
  replace cb_w0_0 := (cell_below hb8 ltb_w0).trans cb_w0_0
  replace cb_w0_1 := (cell_below hb8 ltb_w0).trans cb_w0_1
  replace cb_w0_2 := (cell_below hb8 ltb_w0).trans cb_w0_2
  replace cb_w0_3 := (cell_below hb8 ltb_w0).trans cb_w0_3
  replace cb_w0_4 := (cell_below hb8 ltb_w0).trans cb_w0_4
  replace ltb_w0 := Nat.lt_of_lt_of_le ltb_w0 hb8.size
  replace cb_g0_0 := (cell_below hb8 ltb_g0).trans cb_g0_0
  replace cb_g0_1 := (cell_below hb8 ltb_g0).trans cb_g0_1
  replace cb_g0_2 := (cell_below hb8 ltb_g0).trans cb_g0_2
  replace cb_g0_3 := (cell_below hb8 ltb_g0).trans cb_g0_3
  replace cb_g0_4 := (cell_below hb8 ltb_g0).trans cb_g0_4
  replace ltb_g0 := Nat.lt_of_lt_of_le ltb_g0 hb8.size
  clear hb8
  go_wp2_with fail
  go_ret
  exact ⟨rfl, HB8⟩
end Go.Proofs.Ytlenpecnfilkjaa
