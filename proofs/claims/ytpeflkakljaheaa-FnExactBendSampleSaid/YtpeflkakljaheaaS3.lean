/- The walks of the laws on single numbers, fourth part: bent samples, levels of filters. Conditions: none. -/
import Derived.Test.YtpeflkakljaheaaS2
set_option linter.unusedVariables false
set_option linter.unusedSimpArgs false
namespace Go.Proofs.Ytpeflkakljaheaa
open Go.RowKit

def levelC (a b c d e : Option Nat) : Option Nat := fquo (fadd (fadd a b) c) (fadd (fadd (some 1065353216) d) e)
set_option maxHeartbeats 400000 in
theorem spec_LevelOfFilter {a b c d e : Nat} {A B C D E : Option Nat} (ha : Fl .f32 a A) (hb : Fl .f32 b B) (hc : Fl .f32 c C) (hd : Fl .f32 d D) (he : Fl .f32 e E) (w : World) :
    Calls Try.prog 36 #[.agg #[.float .f32 a, .float .f32 b, .float .f32 c, .float .f32 d, .float .f32 e]] w (RFM .f32 (levelC A B C D E) w) := by
  go_enter Try.func36, Try.ntmps36
  go_wp2
  all_goals (go_ret; exact ⟨_, rfl, (by repeat (first | (with_reducible assumption) | exact Fl.of_lit (by decide) (by decide) | apply Fl.fr | apply Fl.cw | apply Fl.cn)), by (repeat (first | exact Below.refl _ _ | (with_reducible assumption) | refine below_drewN ?_ _ | refine Below.drew ?_ | refine Below.alloc ?_ (by simp; try omega) _))⟩)
set_option maxHeartbeats 400000 in
theorem impl_LevelOfFilter {a b c d e : Nat} {A B C D E : Option Nat} (ha : Fl .f32 a A) (hb : Fl .f32 b B) (hc : Fl .f32 c C) (hd : Fl .f32 d D) (he : Fl .f32 e E) (w : World) :
    Calls Try.prog 38 #[.agg #[.float .f32 a, .float .f32 b, .float .f32 c, .float .f32 d, .float .f32 e]] w (RFM .f32 (levelC A B C D E) w) := by
  go_enter Try.func38, Try.ntmps38
  go_wp2
  all_goals (go_ret; exact ⟨_, rfl, (by repeat (first | (with_reducible assumption) | exact Fl.of_lit (by decide) (by decide) | apply Fl.fr | apply Fl.cw | apply Fl.cn)), by (repeat (first | exact Below.refl _ _ | (with_reducible assumption) | refine below_drewN ?_ _ | refine Below.drew ?_ | refine Below.alloc ?_ (by simp; try omega) _))⟩)
set_option maxHeartbeats 400000 in
theorem laws_toFilter {a b c d e : Nat} (w : World) :
    Calls Try.prog 37 #[.agg #[.float .f32 a, .float .f32 b, .float .f32 c, .float .f32 d, .float .f32 e]] w (RV (.agg #[.float .f32 a, .float .f32 b, .float .f32 c, .float .f32 d, .float .f32 e]) w) := by
  go_enter Try.func37, Try.ntmps37
  go_wp2
  refine bodyPost_ret (v := .agg #[.float .f32 a, .float .f32 b, .float .f32 c, .float .f32 d, .float .f32 e]) ?_ rfl ⟨rfl, ?_⟩
  · simp [results, Try.results37, go_sem]
  · (repeat (first | exact Below.refl _ _ | (with_reducible assumption) | refine below_drewN ?_ _ | refine Below.drew ?_ | refine Below.alloc ?_ (by simp; try omega) _))
set_option maxHeartbeats 400000 in
theorem levelOfFilter_walk (a b c d e : Nat) (w : World) (h1 : a < 2 ^ FloatKind.f32.format.width) (h2 : b < 2 ^ FloatKind.f32.format.width) (h3 : c < 2 ^ FloatKind.f32.format.width) (h4 : d < 2 ^ FloatKind.f32.format.width) (h5 : e < 2 ^ FloatKind.f32.format.width) :
    Calls Try.prog 13 #[.agg #[.float .f32 a, .float .f32 b, .float .f32 c, .float .f32 d, .float .f32 e]] w fun e w' => e = .returned (.bool true) ∧ Below w.heap.size w w' := by

  have ha := Fl.self h1
  have hb := Fl.self h2
  have hc := Fl.self h3
  have hd := Fl.self h4
  have he := Fl.self h5
  clear h1 h2 h3 h4 h5
  go_enter Try.func13, Try.ntmps13
  go_wp2_with fail
  refine (laws_toFilter _).mono ?_
  rintro e_ w1 ⟨rfl, hb1⟩
  obtain ⟨hc1, hf1⟩ := bcell hb1
  have hz1 : w.heap.size < w1.heap.size := by have := hb1.size; simp at this; omega
  go_wp2_with fail
  refine (spec_LevelOfFilter ha hb hc hd he _).mono ?_
  rintro e_ w2 ⟨r1, rfl, hr1, hb2⟩
  obtain ⟨hc2, hf2⟩ := bcell hb2
  have hz2 : w.heap.size < w2.heap.size := by have := hb2.size; omega
  go_wp2_with fail
  refine (laws_toFilter _).mono ?_
  rintro e_ w3 ⟨rfl, hb3⟩
  obtain ⟨hc3, hf3⟩ := bcell hb3
  have hz3 : w.heap.size < w3.heap.size := by have := hb3.size; omega
  go_wp2_with fail
  refine (impl_LevelOfFilter ha hb hc hd he _).mono ?_
  rintro e_ w4 ⟨r2, rfl, hr2, hb4⟩
  have hz4 : w3.heap.size ≤ w4.heap.size := hb4.size
  go_wp2_with (go_at_call 17; refine (laws_sameFloat (hr2.cw _) (hr1.cw _) _).mono ?_; rintro e w' ⟨rfl, n3, rfl⟩)
  go_ret
  refine ⟨rfl, below_drewN ?_ _⟩
  exact below_next (below_next (below_next (below_next ((Below.refl _ w).alloc (Nat.le_refl _) _) (by simp) hb1) (by omega) hb2) (by omega) hb3) (by omega) hb4

/-! ### Bent -/
def bendC (X : Option Nat) : Option Nat :=
  if (ford .f32 X (some 1065353216) == some .gt || ford .f32 X (some 1065353216) == some .eq) = true then some 1065353216
  else if (ford .f32 X (some 3212836864) == some .lt || ford .f32 X (some 3212836864) == some .eq) = true then some 3212836864
  else fmul X (fsub (some 1069547520) (fmul (some 1056964608) (fmul X X)))
set_option maxHeartbeats 400000 in
theorem spec_BendSample {x : Nat} {X : Option Nat} (hx : Fl .f32 x X) (w : World) :
    Calls Try.prog 39 #[.float .f32 x] w (RF .f32 (bendC X) w) := by
  unfold bendC
  have h1 := Fl.ord hx (.of_lit (k := .f32) (b := 1065353216) (by decide) (by decide))
  have h2 := Fl.ord hx (.of_lit (k := .f32) (b := 3212836864) (by decide) (by decide))
  cases c1 : (ford .f32 X (some 1065353216) == some .gt || ford .f32 X (some 1065353216) == some .eq) <;> cases c2 : (ford .f32 X (some 3212836864) == some .lt || ford .f32 X (some 3212836864) == some .eq) <;> simp only [Bool.false_eq_true, if_true, if_false]
  all_goals go_enter Try.func39, Try.ntmps39
  all_goals go_wp2
  all_goals (go_ret; first | exact ⟨_, _, rfl, (by repeat (first | (with_reducible assumption) | exact Fl.of_lit (by decide) (by decide) | apply Fl.fr | apply Fl.cw | apply Fl.cn)), rfl⟩ | exact ⟨_, 0, rfl, (by repeat (first | (with_reducible assumption) | exact Fl.of_lit (by decide) (by decide) | apply Fl.fr | apply Fl.cw | apply Fl.cn)), rfl⟩)
set_option maxHeartbeats 400000 in
theorem impl_BendSample {x : Nat} {X : Option Nat} (hx : Fl .f32 x X) (w : World) :
    Calls Try.prog 40 #[.float .f32 x] w (RF .f32 (bendC X) w) := by
  unfold bendC
  have h1 := Fl.ord hx (.of_lit (k := .f32) (b := 1065353216) (by decide) (by decide))
  have h2 := Fl.ord hx (.of_lit (k := .f32) (b := 3212836864) (by decide) (by decide))
  cases c1 : (ford .f32 X (some 1065353216) == some .gt || ford .f32 X (some 1065353216) == some .eq) <;> cases c2 : (ford .f32 X (some 3212836864) == some .lt || ford .f32 X (some 3212836864) == some .eq) <;> simp only [Bool.false_eq_true, if_true, if_false]
  all_goals go_enter Try.func40, Try.ntmps40
  all_goals go_wp2
  all_goals (go_ret; first | exact ⟨_, _, rfl, (by repeat (first | (with_reducible assumption) | exact Fl.of_lit (by decide) (by decide) | apply Fl.fr | apply Fl.cw | apply Fl.cn)), rfl⟩ | exact ⟨_, 0, rfl, (by repeat (first | (with_reducible assumption) | exact Fl.of_lit (by decide) (by decide) | apply Fl.fr | apply Fl.cw | apply Fl.cn)), rfl⟩)
set_option maxHeartbeats 400000 in
theorem bendSample_walk (x : Nat) (w : World) (hw : x < 2 ^ FloatKind.f32.format.width) : Calls Try.prog 14 #[.float .f32 x] w fun e w' => e = .returned (.bool true) ∧ Below w.heap.size w w' := by
  have hx := Fl.self hw
  go_enter Try.func14, Try.ntmps14
  go_wp2_with (first
    | (go_at_call 39; refine (spec_BendSample hx _).mono ?_; rintro e w' ⟨r1, n1, rfl, hr1, rfl⟩)
    | (go_at_call 40; refine (impl_BendSample hx _).mono ?_; rintro e w' ⟨r2, n2, rfl, hr2, rfl⟩)
    | (go_at_call 17; refine (laws_sameFloat (hr2.cw _) (hr1.cw _) _).mono ?_; rintro e w' ⟨rfl, n3, rfl⟩))
  go_ret
  exact ⟨rfl, below_draws _ _⟩

end Go.Proofs.Ytpeflkakljaheaa
