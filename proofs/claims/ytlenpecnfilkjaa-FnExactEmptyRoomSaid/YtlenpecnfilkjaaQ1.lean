/- The walks of the laws on simple filters. Conditions: none. -/
import Derived.Test.YtlenpecnfilkjaaS1
import Derived.Test.YtlenpecnfilkjaaRow
set_option linter.unusedVariables false
set_option linter.unusedSimpArgs false
namespace Go.Proofs.Ytlenpecnfilkjaa
open Go.RowKit
@[go_sem] theorem setCell_drewN (w : World) (n : Nat) (a : Addr) (v : Value) : (w.drewN n).setCell a v = (w.setCell a v).drewN n := rfl
/-- A struct of five samples. -/
def R5 (A B C D E : Option Nat) (w : World) (e : Ending) (w' : World) : Prop := ∃ a b c d f, e = .returned (.agg #[.float .f32 a, .float .f32 b, .float .f32 c, .float .f32 d, .float .f32 f]) ∧ Fl .f32 a A ∧ Fl .f32 b B ∧ Fl .f32 c C ∧ Fl .f32 d D ∧ Fl .f32 f E ∧ Below w.heap.size w w'
theorem zero32 : Fl .f32 0 (some 0) := .of_lit (by decide) (by decide)
theorem one32 : Fl .f32 1065353216 (some 1065353216) := .of_lit (by decide) (by decide)
set_option maxHeartbeats 800000 in
theorem laws_eqFilter {a b c d f a' b' c' d' f' : Nat} {A B C D E : Option Nat} (w : World) (ha : Fl .f32 a A) (hb : Fl .f32 b B) (hc : Fl .f32 c C) (hd : Fl .f32 d D) (hf : Fl .f32 f E) (ha' : Fl .f32 a' A) (hb' : Fl .f32 b' B) (hc' : Fl .f32 c' C) (hd' : Fl .f32 d' D) (hf' : Fl .f32 f' E) :
    Calls Try.prog 18 #[.agg #[.float .f32 a, .float .f32 b, .float .f32 c, .float .f32 d, .float .f32 f], .agg #[.float .f32 a', .float .f32 b', .float .f32 c', .float .f32 d', .float .f32 f']] w (RV (.bool true) w) := by
  have hal := fun o o' m => below_drewN (((Below.refl _ w).alloc (Nat.le_refl _) o).alloc (by simp) o') m
  go_enter Try.func18, Try.ntmps18
  go_wp2_with fail
  refine (laws_sameFloat (ha.cw _) (ha'.cw _) _).mono ?_; rintro e w' ⟨rfl, q1, rfl⟩
  go_wp2_with fail
  refine (laws_sameFloat (hb.cw _) (hb'.cw _) _).mono ?_; rintro e w' ⟨rfl, q2, rfl⟩
  go_wp2_with fail
  refine (laws_sameFloat (hc.cw _) (hc'.cw _) _).mono ?_; rintro e w' ⟨rfl, q3, rfl⟩
  go_wp2_with fail
  refine (laws_sameFloat (hd.cw _) (hd'.cw _) _).mono ?_; rintro e w' ⟨rfl, q4, rfl⟩
  go_wp2_with fail
  refine (laws_sameFloat (hf.cw _) (hf'.cw _) _).mono ?_; rintro e w' ⟨rfl, q5, rfl⟩
  go_wp2_with fail
  go_ret
  exact ⟨rfl, hal _ _ _⟩
set_option maxHeartbeats 400000 in
theorem spec_SmoothFilter {x : Nat} {X : Option Nat} (w : World) (hx : Fl .f32 x X) : Calls Try.prog 16 #[.float .f32 x] w (R5 X (some 0) (some 0) (fop .sub .f32 X (some 1065353216)) (some 0) w) := by
  have HS := Lib.hid (fun w => hx.fr one32 .sub w)
  go_enter Try.func16, Try.ntmps16
  go_wp2
  exact bodyPost_ret (v := .agg #[.float .f32 x, .float .f32 0, .float .f32 0, .float .f32 (fr .sub .f32 x 1065353216 (w.alloc (Obj.cells #[.float .f32 0, .float .f32 0, .float .f32 0, .float .f32 0, .float .f32 0] 30))), .float .f32 0]) (by simp [results, Try.results16, go_sem]) rfl ⟨_, _, _, _, _, rfl, hx, zero32, zero32, HS.out _, zero32, by (repeat (first | exact Below.refl _ _ | (with_reducible assumption) | refine below_drewN ?_ _ | refine Below.drew ?_ | refine Below.alloc ?_ (by simp; try omega) _))⟩
set_option maxHeartbeats 400000 in
theorem impl_SmoothFilter {x : Nat} {X : Option Nat} (w : World) (hx : Fl .f32 x X) : Calls Try.prog 17 #[.float .f32 x] w (R5 X (some 0) (some 0) (fop .sub .f32 X (some 1065353216)) (some 0) w) := by
  have HS := Lib.hid (fun w => hx.fr one32 .sub w)
  go_enter Try.func17, Try.ntmps17
  go_wp2
  exact bodyPost_ret (v := .agg #[.float .f32 x, .float .f32 0, .float .f32 0, .float .f32 (fr .sub .f32 x 1065353216 (w.alloc (Obj.cells #[.float .f32 0, .float .f32 0, .float .f32 0, .float .f32 0, .float .f32 0] 30))), .float .f32 0]) (by simp [results, Try.results17, go_sem]) rfl ⟨_, _, _, _, _, rfl, hx, zero32, zero32, HS.out _, zero32, by (repeat (first | exact Below.refl _ _ | (with_reducible assumption) | refine below_drewN ?_ _ | refine Below.drew ?_ | refine Below.alloc ?_ (by simp; try omega) _))⟩
theorem cell_below {w w' : World} {b o : Nat} (h : Below w.heap.size w w') (hb : b < w.heap.size) : w'.cell? ⟨b, o, none⟩ = w.cell? ⟨b, o, none⟩ := h.cell (p := ⟨b, o, none⟩) hb
set_option maxHeartbeats 4000000 in
set_option maxRecDepth 100000 in
theorem smoothFilter_walk (a0 : Nat) (w : World) (w0 : a0 < 2 ^ FloatKind.f32.format.width) :
    Calls Try.prog 4 #[.float .f32 a0] w fun e w' => e = .returned (.bool true) ∧ Below w.heap.size w w' := by
  have hy0 := Fl.self w0
  have HB0 : Below w.heap.size w w := Below.refl _ _
  have hz0 : w.heap.size ≤ w.heap.size := Nat.le_refl _
  go_enter Try.func4, Try.ntmps4
  go_wp2_with fail
  refine (spec_SmoothFilter _ hy0).mono ?_
  rintro e_ W1 ⟨rw0_0, rw0_1, rw0_2, rw0_3, rw0_4, rfl, hrw0_0, hrw0_1, hrw0_2, hrw0_3, hrw0_4, hb1⟩
  have hs1 : w.heap.size ≤ W1.heap.size := hb1.size
  have HB1 := below_next HB0 hz0 hb1
  have hz1 : w.heap.size ≤ W1.heap.size := Nat.le_trans hz0 hs1
  clear hb1
  go_wp2_with fail
  obtain ⟨b_w0, eb_w0⟩ : ∃ b, W1.heap.size = b := ⟨_, rfl⟩
  obtain ⟨W2, hW2⟩ : ∃ V, V = World.alloc W1 (.cells #[.float .f32 rw0_0, .float .f32 rw0_1, .float .f32 rw0_2, .float .f32 rw0_3, .float .f32 rw0_4] 30) := ⟨_, rfl⟩
  rw [← hW2, eb_w0]
  have hb2 : Below W1.heap.size W1 W2 := by rw [hW2]; exact (Below.refl _ _).alloc (Nat.le_refl _) _
  have cb_w0_0 : W2.cell? ⟨b_w0, 0, none⟩ = some (.float .f32 rw0_0) := by rw [hW2, ← eb_w0]; simp [go_sem]
  have cb_w0_1 : W2.cell? ⟨b_w0, 1, none⟩ = some (.float .f32 rw0_1) := by rw [hW2, ← eb_w0]; simp [go_sem]
  have cb_w0_2 : W2.cell? ⟨b_w0, 2, none⟩ = some (.float .f32 rw0_2) := by rw [hW2, ← eb_w0]; simp [go_sem]
  have cb_w0_3 : W2.cell? ⟨b_w0, 3, none⟩ = some (.float .f32 rw0_3) := by rw [hW2, ← eb_w0]; simp [go_sem]
  have cb_w0_4 : W2.cell? ⟨b_w0, 4, none⟩ = some (.float .f32 rw0_4) := by rw [hW2, ← eb_w0]; simp [go_sem]
  have ltb_w0 : b_w0 < W2.heap.size := by rw [hW2, ← eb_w0]; simp
  have lub_w0 := ltb_w0
  clear hW2
  have hs2 : W1.heap.size ≤ W2.heap.size := hb2.size
  have HB2 := below_next HB1 hz1 hb2
  have hz2 : w.heap.size ≤ W2.heap.size := Nat.le_trans hz1 hs2
  clear hb2
  refine (impl_SmoothFilter _ hy0).mono ?_
  rintro e_ W3 ⟨rg0_0, rg0_1, rg0_2, rg0_3, rg0_4, rfl, hrg0_0, hrg0_1, hrg0_2, hrg0_3, hrg0_4, hb3⟩
  have hs3 : W2.heap.size ≤ W3.heap.size := hb3.size
  have HB3 := below_next HB2 hz2 hb3
  have hz3 : w.heap.size ≤ W3.heap.size := Nat.le_trans hz2 hs3
  replace cb_w0_0 := (cell_below hb3 ltb_w0).trans cb_w0_0
  replace cb_w0_1 := (cell_below hb3 ltb_w0).trans cb_w0_1
  replace cb_w0_2 := (cell_below hb3 ltb_w0).trans cb_w0_2
  replace cb_w0_3 := (cell_below hb3 ltb_w0).trans cb_w0_3
  replace cb_w0_4 := (cell_below hb3 ltb_w0).trans cb_w0_4
  replace ltb_w0 := Nat.lt_of_lt_of_le ltb_w0 hb3.size
  clear hb3
  go_wp2_with fail
  obtain ⟨b_g0, eb_g0⟩ : ∃ b, W3.heap.size = b := ⟨_, rfl⟩
  obtain ⟨W4, hW4⟩ : ∃ V, V = World.alloc W3 (.cells #[.float .f32 rg0_0, .float .f32 rg0_1, .float .f32 rg0_2, .float .f32 rg0_3, .float .f32 rg0_4] 30) := ⟨_, rfl⟩
  rw [← hW4, eb_g0]
  have hb4 : Below W3.heap.size W3 W4 := by rw [hW4]; exact (Below.refl _ _).alloc (Nat.le_refl _) _
  have cb_g0_0 : W4.cell? ⟨b_g0, 0, none⟩ = some (.float .f32 rg0_0) := by rw [hW4, ← eb_g0]; simp [go_sem]
  have cb_g0_1 : W4.cell? ⟨b_g0, 1, none⟩ = some (.float .f32 rg0_1) := by rw [hW4, ← eb_g0]; simp [go_sem]
  have cb_g0_2 : W4.cell? ⟨b_g0, 2, none⟩ = some (.float .f32 rg0_2) := by rw [hW4, ← eb_g0]; simp [go_sem]
  have cb_g0_3 : W4.cell? ⟨b_g0, 3, none⟩ = some (.float .f32 rg0_3) := by rw [hW4, ← eb_g0]; simp [go_sem]
  have cb_g0_4 : W4.cell? ⟨b_g0, 4, none⟩ = some (.float .f32 rg0_4) := by rw [hW4, ← eb_g0]; simp [go_sem]
  have ltb_g0 : b_g0 < W4.heap.size := by rw [hW4, ← eb_g0]; simp
  have lub_g0 := ltb_g0
  clear hW4
  have hs4 : W3.heap.size ≤ W4.heap.size := hb4.size
  have HB4 := below_next HB3 hz3 hb4
  have hz4 : w.heap.size ≤ W4.heap.size := Nat.le_trans hz3 hs4
  replace cb_w0_0 := (cell_below hb4 ltb_w0).trans cb_w0_0
  replace cb_w0_1 := (cell_below hb4 ltb_w0).trans cb_w0_1
  replace cb_w0_2 := (cell_below hb4 ltb_w0).trans cb_w0_2
  replace cb_w0_3 := (cell_below hb4 ltb_w0).trans cb_w0_3
  replace cb_w0_4 := (cell_below hb4 ltb_w0).trans cb_w0_4
  replace ltb_w0 := Nat.lt_of_lt_of_le ltb_w0 hb4.size
  clear hb4
  refine (laws_eqFilter _ hrg0_0 hrg0_1 hrg0_2 hrg0_3 hrg0_4 hrw0_0 hrw0_1 hrw0_2 hrw0_3 hrw0_4).mono ?_
  rintro e_ W5 ⟨rfl, hb5⟩
  have hs5 : W4.heap.size ≤ W5.heap.size := hb5.size
  have HB5 := below_next HB4 hz4 hb5
  have hz5 : w.heap.size ≤ W5.heap.size := Nat.le_trans hz4 hs5
  replace cb_w0_0 := (cell_below hb5 ltb_w0).trans cb_w0_0
  replace cb_w0_1 := (cell_below hb5 ltb_w0).trans cb_w0_1
  replace cb_w0_2 := (cell_below hb5 ltb_w0).trans cb_w0_2
  replace cb_w0_3 := (cell_below hb5 ltb_w0).trans cb_w0_3
  replace cb_w0_4 := (cell_below hb5 ltb_w0).trans cb_w0_4
  replace ltb_w0 := Nat.lt_of_lt_of_le ltb_w0 hb5.size
  replace cb_g0_0 := (cell_below hb5 ltb_g0).trans cb_g0_0
  replace cb_g0_1 := (cell_below hb5 ltb_g0).trans cb_g0_1
  replace cb_g0_2 := (cell_below hb5 ltb_g0).trans cb_g0_2
  replace cb_g0_3 := (cell_below hb5 ltb_g0).trans cb_g0_3
  replace cb_g0_4 := (cell_below hb5 ltb_g0).trans cb_g0_4
  replace ltb_g0 := Nat.lt_of_lt_of_le ltb_g0 hb5.size
  clear hb5
  go_wp2_with fail
  go_ret
  exact ⟨rfl, HB5⟩
end Go.Proofs.Ytlenpecnfilkjaa
