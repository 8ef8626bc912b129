/- The walks of the laws on gains and steps. Conditions: none. -/
import Derived.Test.YtpeflkakljaheaaN3
import Derived.Test.YtpeflkakljaheaaS1
set_option linter.unusedVariables false
set_option linter.unusedSimpArgs false
namespace Go.Proofs.Ytpeflkakljaheaa
open Go.RowKit Ieee
open Fc

theorem bd_int {n : Int} {a : Nat} (h : n.natAbs ≤ a) (hR : Rp a 0) : Bd (some (floatOfInt .f64 n)) a 0 := by
  intro b hb
  obtain rfl := Option.some.inj hb
  obtain ⟨r0, hr0, hV⟩ := hR
  have hnear : floatOfInt .f64 n = Ieee.double.nearest (decide (n < 0)) n.natAbs 0 := rfl
  obtain ⟨r, hr, hn⟩ := near_le (decide (n < 0)) (m := n.natAbs) (r0 := r0) (E := nU) (F := 0) (p := 0) (by omega) hr0 (by
    rw [hV, Nat.pow_zero, Nat.mul_one, Nat.sub_zero]
    exact Nat.mul_le_mul_right _ h)
  rw [hnear, hn]
  exact out_le hr hr0 hV (Nat.zero_le _)
def gainT (n : Int) : Option Nat := expC (fop .mul .f64 (some (floatOfInt .f64 n)) (some 4577790371455803420))
def stepQ (P : Option Nat) : Option Nat := fop .quo .f64 (fop .mul .f64 P (some 4646448178051153920)) (some 4676829883349860352)
def stepT (n : Int) : Option Nat := stepQ (expC (fop .mul .f64 (some (floatOfInt .f64 (n - 69))) (some 4588485240726681578)))
theorem exp_fits {P : Option Nat} (h : P = some 9218868437227405312 ∨ P = some 0 ∨ (Bd P (2 ^ 84) 0 ∧ Po P)) : fits P = true := by
  rcases h with rfl | rfl | ⟨h1, h2⟩
  · decide
  · decide
  · exact fits_of_bd h1 (by decide)
set_option maxRecDepth 100000 in
theorem stepQ_fits {P : Option Nat} (h : P = some 9218868437227405312 ∨ P = some 0 ∨ (Bd P (2 ^ 84) 0 ∧ Po P)) : fits (stepQ P) = true := by
  rcases h with rfl | rfl | ⟨h1, h2⟩
  · decide
  · decide
  · have z : 0 ≤ nU := Nat.zero_le _
    have s1 := bd_mul (e := 2 ^ 93) (g := 0) h1 (bd_word_hi (b := 4646448178051153920) 1031 (by decide) (by decide) (by decide)) (by decide) (rp_of 1 93 (by decide) (by decide) (by decide) (by decide)) z
    have s2 := bd_quo (e := 2 ^ 94) (g := 0) s1 (lo_lit (b := 4676829883349860352) (by decide)) (by decide) (rp_of 1 94 (by decide) (by decide) (by decide) (by decide)) z
    exact fits_of_bd s2 (by decide)
theorem gain_fits {n : Int} (h : n.natAbs ≤ 2000) : fits (gainT n) = true :=
  exp_fits (exp_bd (bd_mul (e := 40) (g := 0) (bd_int h (rp_of 2000 0 (by decide) (by decide) (by decide) (by decide))) (bd_word (b := 4577790371455803420) 1016 (by decide) (by decide) (by decide)) (by decide) (rp_of 40 0 (by decide) (by decide) (by decide) (by decide)) (Nat.zero_le _)))
theorem step_fits {n : Int} (h : (n - 69).natAbs ≤ 69) : fits (stepT n) = true :=
  stepQ_fits (exp_bd (bd_mul (e := 40) (g := 0) (bd_int h (rp_of 69 0 (by decide) (by decide) (by decide) (by decide))) (bd_word (b := 4588485240726681578) 1018 (by decide) (by decide) (by decide)) (by decide) (rp_of 40 0 (by decide) (by decide) (by decide) (by decide)) (Nat.zero_le _)))
def gainNC (n : Int) : Option Nat := if inC n (-2000) 2000 = true then narrow (gainT n) else some 0
def stepNC (n : Int) : Option Nat := if inC n 0 127 = true then narrow (stepT n) else some 0
theorem lit64 {b : Nat} (h : b < 2 ^ FloatKind.f64.format.width) (hn : isN .f64 b = false) : Fl .f64 b (some b) := .of_lit h hn
set_option maxHeartbeats 800000 in
theorem spec_l01Gain {n : Int} (h : n.natAbs ≤ 2000) (w : World) : Calls Try.prog 63 #[.int .i64 n] w (RF .f32 (narrow (gainT n)) w) := by
  have HF := Lib.hid (gain_fits h)
  have HM := Lib.hid (fun w1 => (intF64_fl n).fr (lit64 (b := 4577790371455803420) (by decide) (by decide)) .mul w1)
  go_enter Try.func63, Try.ntmps63
  go_wp2_with (first | (go_at_call 73; refine (spec_l01ExpWide (HM.out _) _).mono ?_; rintro e w' ⟨p, q, rfl, hp, rfl⟩) | (go_at_call 74; refine (spec_l01Narrow hp HF.out _).mono ?_; rintro e w' ⟨p2, q2, rfl, hp2, rfl⟩))
  go_ret
  exact ⟨_, _, rfl, hp2, rfl⟩
set_option maxHeartbeats 800000 in
theorem spec_l05Step {n : Int} (h0 : 0 ≤ n) (h1 : n ≤ 127) (w : World) : Calls Try.prog 65 #[.int .i64 n] w (RF .f32 (narrow (stepT n)) w) := by
  have HF := Lib.hid (step_fits (n := n) (by omega))
  have HM := Lib.hid (fun w1 => (intF64_fl (n - 69)).fr (lit64 (b := 4588485240726681578) (by decide) (by decide)) .mul w1)
  go_enter Try.func65, Try.ntmps65
  go_wp2_with (first | (go_at_call 73; refine (spec_l01ExpWide (HM.out _) _).mono ?_; rintro e w' ⟨p, q, rfl, hp, rfl⟩) | (go_at_call 74; refine (spec_l01Narrow ((hp.fr (lit64 (b := 4646448178051153920) (by decide) (by decide)) .mul _).fr (lit64 (b := 4676829883349860352) (by decide) (by decide)) .quo _) HF.out _).mono ?_; rintro e w' ⟨p2, q2, rfl, hp2, rfl⟩))
  go_ret
  exact ⟨_, _, rfl, hp2, rfl⟩
set_option maxHeartbeats 800000 in
theorem impl_stepOf {n : Int} (h0 : 0 ≤ n) (h1 : n ≤ 127) (w : World) : Calls Try.prog 67 #[.int .i64 n] w (RF .f32 (narrow (stepT n)) w) := by
  have HF := Lib.hid (step_fits (n := n) (by omega))
  have HM := Lib.hid (fun w1 => (intF64_fl (n - 69)).fr (lit64 (b := 4588485240726681578) (by decide) (by decide)) .mul w1)
  go_enter Try.func67, Try.ntmps67
  go_wp2_with (first | (go_at_call 52; refine (impl_exponential (HM.out _) _).mono ?_; rintro e w' ⟨p, q, rfl, hp, rfl⟩))
  go_ret
  exact ⟨_, _, rfl, ((hp.fr (lit64 (b := 4646448178051153920) (by decide) (by decide)) .mul _).fr (lit64 (b := 4676829883349860352) (by decide) (by decide)) .quo _).cn HF.out _, rfl⟩
set_option maxHeartbeats 400000 in
set_option maxRecDepth 20000 in
theorem impl_isTenths (n : Int) (w : World) :
    Calls Try.prog 64 #[.int .i64 n] w fun e w' => e = .returned (.bool (inC n (-2000) 2000)) ∧ w = w' := by
  go_enter Try.func64, Try.ntmps64
  go_wp2_with (go_at_call 43; refine (impl_within _).mono ?_; rintro e_ w_ ⟨rfl, rfl⟩)
  all_goals (go_ret; exact ⟨(by first | rfl | exact ret_bool (by simp_all) | exact ret_int (by simp_all) | simp_all), rfl⟩)
set_option maxHeartbeats 400000 in
set_option maxRecDepth 20000 in
theorem impl_isPitch (n : Int) (w : World) :
    Calls Try.prog 66 #[.int .i64 n] w fun e w' => e = .returned (.bool (inC n 0 127)) ∧ w = w' := by
  go_enter Try.func66, Try.ntmps66
  go_wp2_with (go_at_call 43; refine (impl_within _).mono ?_; rintro e_ w_ ⟨rfl, rfl⟩)
  all_goals (go_ret; exact ⟨(by first | rfl | exact ret_bool (by simp_all) | exact ret_int (by simp_all) | simp_all), rfl⟩)
set_option maxHeartbeats 800000 in
theorem spec_GainOf {n : Int} (w : World) : Calls Try.prog 32 #[.int .i64 n] w (RFB (gainNC n) (inC n (-2000) 2000) w) := by
  unfold gainNC
  cases c : inC n (-2000) 2000 <;> simp only [Bool.false_eq_true, if_true, if_false]
  · go_enter Try.func32, Try.ntmps32
    go_wp2_with (go_at_call 41; refine (spec_l00In _).mono ?_; rintro e w' ⟨rfl, rfl⟩)
    go_ret2
    exact ⟨_, 0, rfl, .of_lit (by decide) (by decide), rfl⟩
  · obtain ⟨h0, h1⟩ := (inC_iff _ _ _).1 c
    go_enter Try.func32, Try.ntmps32
    go_wp2_with (first
      | (go_at_call 41; refine (spec_l00In _).mono ?_; rintro e w' ⟨rfl, rfl⟩)
      | (go_at_call 63; refine (spec_l01Gain (by omega) _).mono ?_; rintro e w' ⟨p, q, rfl, hp, rfl⟩))
    go_ret2
    exact ⟨_, _, rfl, hp, rfl⟩
set_option maxHeartbeats 800000 in
theorem impl_GainOf {n : Int} (w : World) : Calls Try.prog 33 #[.int .i64 n] w (RFB (gainNC n) (inC n (-2000) 2000) w) := by
  unfold gainNC
  cases c : inC n (-2000) 2000 <;> simp only [Bool.false_eq_true, if_true, if_false]
  · go_enter Try.func33, Try.ntmps33
    go_wp2_with (go_at_call 64; refine (impl_isTenths _ _).mono ?_; rintro e w' ⟨rfl, rfl⟩)
    go_ret2
    exact ⟨_, 0, rfl, .of_lit (by decide) (by decide), rfl⟩
  · obtain ⟨h0, h1⟩ := (inC_iff _ _ _).1 c
    have HF := Lib.hid (gain_fits (n := n) (by omega))
    have HM := Lib.hid (fun w1 => (intF64_fl n).fr (lit64 (b := 4577790371455803420) (by decide) (by decide)) .mul w1)
    go_enter Try.func33, Try.ntmps33
    go_wp2_with (first
      | (go_at_call 64; refine (impl_isTenths _ _).mono ?_; rintro e w' ⟨rfl, rfl⟩)
      | (go_at_call 52; refine (impl_exponential (HM.out _) _).mono ?_; rintro e w' ⟨p, q, rfl, hp, rfl⟩))
    go_ret2
    exact ⟨_, _, rfl, hp.cn HF.out _, rfl⟩
set_option maxHeartbeats 800000 in
theorem spec_StepOfPitch {n : Int} (w : World) : Calls Try.prog 34 #[.int .i64 n] w (RFB (stepNC n) (inC n 0 127) w) := by
  unfold stepNC
  cases c : inC n 0 127 <;> simp only [Bool.false_eq_true, if_true, if_false]
  · go_enter Try.func34, Try.ntmps34
    go_wp2_with (go_at_call 41; refine (spec_l00In _).mono ?_; rintro e w' ⟨rfl, rfl⟩)
    go_ret2
    exact ⟨_, 0, rfl, .of_lit (by decide) (by decide), rfl⟩
  · obtain ⟨h0, h1⟩ := (inC_iff _ _ _).1 c
    go_enter Try.func34, Try.ntmps34
    go_wp2_with (first
      | (go_at_call 41; refine (spec_l00In _).mono ?_; rintro e w' ⟨rfl, rfl⟩)
      | (go_at_call 65; refine (spec_l05Step h0 h1 _).mono ?_; rintro e w' ⟨p, q, rfl, hp, rfl⟩))
    go_ret2
    exact ⟨_, _, rfl, hp, rfl⟩
set_option maxHeartbeats 800000 in
theorem impl_StepOfPitch {n : Int} (w : World) : Calls Try.prog 35 #[.int .i64 n] w (RFB (stepNC n) (inC n 0 127) w) := by
  unfold stepNC
  cases c : inC n 0 127 <;> simp only [Bool.false_eq_true, if_true, if_false]
  · go_enter Try.func35, Try.ntmps35
    go_wp2_with (go_at_call 66; refine (impl_isPitch _ _).mono ?_; rintro e w' ⟨rfl, rfl⟩)
    go_ret2
    exact ⟨_, 0, rfl, .of_lit (by decide) (by decide), rfl⟩
  · obtain ⟨h0, h1⟩ := (inC_iff _ _ _).1 c
    go_enter Try.func35, Try.ntmps35
    go_wp2_with (first
      | (go_at_call 66; refine (impl_isPitch _ _).mono ?_; rintro e w' ⟨rfl, rfl⟩)
      | (go_at_call 67; refine (impl_stepOf h0 h1 _).mono ?_; rintro e w' ⟨p, q, rfl, hp, rfl⟩))
    go_ret2
    exact ⟨_, _, rfl, hp, rfl⟩
set_option maxHeartbeats 400000 in
theorem gainOf_walk (n : Int) (w : World) (hw : (Lit.int .i64 n).wf = true) : Calls Try.prog 11 #[.int .i64 n] w fun e w' => e = .returned (.bool true) ∧ Below w.heap.size w w' := by
  clear hw
  go_enter Try.func11, Try.ntmps11
  go_wp2_with (first
    | (go_at_call 32; refine (spec_GainOf _).mono ?_; rintro e w' ⟨r1, n1, rfl, hr1, rfl⟩)
    | (go_at_call 33; refine (impl_GainOf _).mono ?_; rintro e w' ⟨r2, n2, rfl, hr2, rfl⟩)
    | (go_at_call 17; refine (laws_sameFloat (hr2.cw _) (hr1.cw _) _).mono ?_; rintro e w' ⟨rfl, n3, rfl⟩))
  go_ret
  exact ⟨rfl, below_draws _ _⟩
set_option maxHeartbeats 400000 in
theorem stepOfPitch_walk (n : Int) (w : World) (hw : (Lit.int .i64 n).wf = true) : Calls Try.prog 12 #[.int .i64 n] w fun e w' => e = .returned (.bool true) ∧ Below w.heap.size w w' := by
  clear hw
  go_enter Try.func12, Try.ntmps12
  go_wp2_with (first
    | (go_at_call 34; refine (spec_StepOfPitch _).mono ?_; rintro e w' ⟨r1, n1, rfl, hr1, rfl⟩)
    | (go_at_call 35; refine (impl_StepOfPitch _).mono ?_; rintro e w' ⟨r2, n2, rfl, hr2, rfl⟩)
    | (go_at_call 17; refine (laws_sameFloat (hr2.cw _) (hr1.cw _) _).mono ?_; rintro e w' ⟨rfl, n3, rfl⟩))
  go_ret
  exact ⟨rfl, below_draws _ _⟩
end Go.Proofs.Ytpeflkakljaheaa
