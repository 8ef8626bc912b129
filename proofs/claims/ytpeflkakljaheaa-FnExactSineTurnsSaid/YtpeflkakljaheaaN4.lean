/- The walk of the law on hyperbolic tangents. Conditions: none. -/
import Derived.Test.YtpeflkakljaheaaN3
set_option linter.unusedVariables false
set_option linter.unusedSimpArgs false
namespace Go.Proofs.Ytpeflkakljaheaa
open Go.RowKit Ieee
open Fc

theorem fl_ord_le {x : Nat} {b : Nat} (hx : x < 2 ^ FloatKind.f32.format.width) (n1 : isN .f32 x = false) (hb : b < 2147483648) (hbn : isN .f32 b = false) (hnb : isN .f32 (2147483648 + b) = false)
    (h1 : (ford .f32 (some x) (some b) == some .gt) = false) (h2 : (ford .f32 (some x) (some (2147483648 + b)) == some .lt) = false) : Fp.rung Ieee.single x ≤ b := by
  obtain ⟨g1, g2, g3⟩ := word32 hx n1
  have hb1 : b < 2 ^ FloatKind.f32.format.width := Nat.lt_trans hb (by decide)
  have hb2 : 2147483648 + b < 2 ^ FloatKind.f32.format.width := by show _ < 4294967296; omega
  rw [ford32 hx n1 hb1 hbn, cmp_gt, decide_eq_false_iff_not] at h1
  rw [ford32 hx n1 hb2 hnb, cmp_lt, decide_eq_false_iff_not] at h2
  obtain ⟨_, _, e1⟩ := word32 hb1 hbn
  obtain ⟨_, _, e2⟩ := word32 hb2 hnb
  rw [g3, e1] at h1
  rw [g3, e2] at h2
  show x % 2147483648 ≤ b
  have hx' : x < 4294967296 := hx
  rw [if_pos hb] at h1
  rw [if_neg (show ¬ (2147483648 + b < 2147483648) by omega)] at h2
  split at h1 <;> split at h2 <;> omega
theorem bd_wide {x R0 a : Nat} (hx : x < 2 ^ FloatKind.f32.format.width) (n1 : isN .f32 x = false) (hr : Fp.rung Ieee.single x ≤ R0) (h0 : R0 < Ieee.single.infRung) (hV : Fp.V Ieee.single.binade R0 * 2 ^ nq ≤ a * 2 ^ nU) : Bd (wide (some x)) a 0 := by
  intro t ht
  obtain ⟨R, h1, h2, _, h4⟩ := wide_of hx n1
  have e : wide (some x) = some (Ieee.double.word (Fp.neg Ieee.single x) R) := by simp [wide, h2]
  rw [e] at ht
  obtain rfl := Option.some.inj ht
  obtain ⟨g1, _⟩ := Fp.rung_word Ieee.double (Fp.neg Ieee.single x) (r := R) (Nat.lt_of_le_of_lt h1 (by decide))
  rcases h4 with ⟨h5, _⟩ | ⟨h5, h6, h7⟩
  · rw [h5] at hr; omega
  · refine ⟨by rw [g1]; exact h6, ?_⟩
    unfold mag
    rw [g1, h7, Nat.pow_zero, Nat.mul_one]
    exact Nat.le_trans (Nat.mul_le_mul_right _ (V_mono (by decide) hr)) hV
theorem V32_20 : Fp.V Ieee.single.binade 1101004800 * 2 ^ nq ≤ 20 * 2 ^ nU := by
  have hn := nU_eq
  have hnq := nq_eq
  rw [show Ieee.single.binade = 8388608 by decide, Fp.V_big (by decide), show 1101004800 % 8388608 = 2097152 by decide, show 1101004800 / 8388608 - 1 = 130 by decide, show 8388608 + 2097152 = 5 * 2 ^ 21 by decide, Nat.mul_assoc, Nat.mul_assoc, ← Nat.pow_add, ← Nat.pow_add, show 20 = 5 * 2 ^ 2 by decide, Nat.mul_assoc, ← Nat.pow_add]
  exact Nat.mul_le_mul_left _ (Nat.pow_le_pow_right (by decide) (by omega))
theorem bd_two : Bd (some 4611686018427387904) 2 0 := by
  intro b hb
  obtain rfl := Option.some.inj hb
  have hn := nU_eq
  obtain ⟨q, hq⟩ : ∃ q, q = 1024 := ⟨_, rfl⟩
  refine ⟨by decide, ?_⟩
  rw [mag_lit (b := 4611686018427387904) q (by rw [hq]; decide) (by omega), Nat.pow_zero, Nat.mul_one, show 2 = 2 ^ 1 by decide, ← Nat.pow_add]
  exact Nat.pow_le_pow_right (by decide) (by omega)
def tanhQ (P : Option Nat) : Option Nat := fop .quo .f64 (fop .sub .f64 P (some 4607182418800017408)) (fop .add .f64 P (some 4607182418800017408))
def tanhC (X : Option Nat) : Option Nat :=
  if (ford .f32 X (some 1101004800) == some .gt) = true then some 1065353216
  else if (ford .f32 X (some 3248488448) == some .lt) = true then some 3212836864
  else narrow (tanhQ (expC (fop .mul .f64 (some 4611686018427387904) (wide X))))
set_option maxRecDepth 100000 in
theorem tanhQ_fits {P : Option Nat} (h : P = some 9218868437227405312 ∨ P = some 0 ∨ (Bd P (2 ^ 84) 0 ∧ Po P)) : fits (tanhQ P) = true := by
  rcases h with rfl | rfl | ⟨h1, h2⟩
  · decide
  · decide
  · have z : 0 ≤ nU := Nat.zero_le _
    have s1 := bd_sub (e := 2 ^ 85) (g := 0) h1 bd_one (by decide) (rp_of 1 85 (by decide) (by decide) (by decide) (by decide)) z
    have s2 := bd_quo (e := 2 ^ 86) (g := 0) s1 (lo_add_one h1 h2) (by decide) (rp_of 1 86 (by decide) (by decide) (by decide) (by decide)) z
    exact fits_of_bd s2 (by decide)
theorem tanh_fits {x : Nat} {X : Option Nat} (hx : Fl .f32 x X) (c1 : (ford .f32 X (some 1101004800) == some .gt) = false) (c2 : (ford .f32 X (some 3248488448) == some .lt) = false) : fits (tanhQ (expC (fop .mul .f64 (some 4611686018427387904) (wide X)))) = true := by
  refine tanhQ_fits (exp_bd (bd_mul (e := 40) (g := 0) bd_two (b := 20) (d := 0) ?_ (by decide) (rp_of 40 0 (by decide) (by decide) (by decide) (by decide)) (Nat.zero_le _)))
  rcases hx.cases with ⟨rfl, n1⟩ | ⟨rfl, n1⟩
  · exact bd_none _ _
  · exact bd_wide hx.wf n1 (fl_ord_le hx.wf n1 (b := 1101004800) (by decide) (by decide) (by decide) c1 c2) (by decide) V32_20
set_option maxHeartbeats 800000 in
theorem spec_l01Tanh {x : Nat} {X : Option Nat} (hx : Fl .f32 x X) (w : World) : Calls Try.prog 51 #[.float .f32 x] w (RF .f32 (tanhC X) w) := by
  have h1 := Fl.ord hx (.of_lit (k := .f32) (b := 1101004800) (by decide) (by decide))
  have h2 := Fl.ord hx (.of_lit (k := .f32) (b := 3248488448) (by decide) (by decide))
  have HM := Lib.hid (fun w1 w2 => (Fl.of_lit (k := .f64) (b := 4611686018427387904) (by decide) (by decide)).fr (hx.cw w1) .mul w2)
  unfold tanhC
  cases c1 : (ford .f32 X (some 1101004800) == some .gt) <;> simp only [Bool.false_eq_true, if_true, if_false]
  · cases c2 : (ford .f32 X (some 3248488448) == some .lt) <;> simp only [Bool.false_eq_true, if_true, if_false]
    · have HF := Lib.hid (tanh_fits hx c1 c2)
      go_enter Try.func51, Try.ntmps51
      go_wp2_with (first
        | (go_at_call 73; refine (spec_l01ExpWide (HM.out _ _) _).mono ?_; rintro e w' ⟨p, q, rfl, hp, rfl⟩)
        | (go_at_call 74; refine (spec_l01Narrow ((hp.fr one64 .sub _).fr (hp.fr one64 .add _) .quo _) HF.out _).mono ?_; rintro e w' ⟨p2, q2, rfl, hp2, rfl⟩))
      go_ret
      exact ⟨_, _, rfl, hp2, rfl⟩
    · go_enter Try.func51, Try.ntmps51
      go_wp2
      go_ret
      exact ⟨_, 0, rfl, .of_lit (by decide) (by decide), rfl⟩
  · go_enter Try.func51, Try.ntmps51
    go_wp2
    go_ret
    exact ⟨_, 0, rfl, .of_lit (by decide) (by decide), rfl⟩
set_option maxHeartbeats 800000 in
theorem impl_TanhNumber {x : Nat} {X : Option Nat} (hx : Fl .f32 x X) (w : World) : Calls Try.prog 25 #[.float .f32 x] w (RF .f32 (tanhC X) w) := by
  have h1 := Fl.ord hx (.of_lit (k := .f32) (b := 1101004800) (by decide) (by decide))
  have h2 := Fl.ord hx (.of_lit (k := .f32) (b := 3248488448) (by decide) (by decide))
  have HM := Lib.hid (fun w1 w2 => (Fl.of_lit (k := .f64) (b := 4611686018427387904) (by decide) (by decide)).fr (hx.cw w1) .mul w2)
  unfold tanhC
  cases c1 : (ford .f32 X (some 1101004800) == some .gt) <;> simp only [Bool.false_eq_true, if_true, if_false]
  · cases c2 : (ford .f32 X (some 3248488448) == some .lt) <;> simp only [Bool.false_eq_true, if_true, if_false]
    · have HF := Lib.hid (tanh_fits hx c1 c2)
      go_enter Try.func25, Try.ntmps25
      go_wp2_with (first
        | (go_at_call 52; refine (impl_exponential (HM.out _ _) _).mono ?_; rintro e w' ⟨p, q, rfl, hp, rfl⟩)
        | (go_at_call 74; refine (spec_l01Narrow ((hp.fr one64 .sub _).fr (hp.fr one64 .add _) .quo _) HF.out _).mono ?_; rintro e w' ⟨p2, q2, rfl, hp2, rfl⟩))
      go_ret
      exact ⟨_, _, rfl, ((hp.fr one64 .sub _).fr (hp.fr one64 .add _) .quo _).cn HF.out _, rfl⟩
    · go_enter Try.func25, Try.ntmps25
      go_wp2
      go_ret
      exact ⟨_, 0, rfl, .of_lit (by decide) (by decide), rfl⟩
  · go_enter Try.func25, Try.ntmps25
    go_wp2
    go_ret
    exact ⟨_, 0, rfl, .of_lit (by decide) (by decide), rfl⟩
set_option maxHeartbeats 400000 in
theorem spec_TanhNumber {x : Nat} {X : Option Nat} (hx : Fl .f32 x X) (w : World) : Calls Try.prog 24 #[.float .f32 x] w (RF .f32 (tanhC X) w) := by
  go_enter Try.func24, Try.ntmps24
  go_wp2_with (go_at_call 51; refine (spec_l01Tanh hx _).mono ?_; rintro e w' ⟨p, q, rfl, hp, rfl⟩)
  go_ret
  exact ⟨_, _, rfl, hp, rfl⟩
set_option maxHeartbeats 400000 in
theorem tanhNumber_walk (x : Nat) (w : World) (hw : x < 2 ^ FloatKind.f32.format.width) : Calls Try.prog 7 #[.float .f32 x] w fun e w' => e = .returned (.bool true) ∧ Below w.heap.size w w' := by
  have hx := Fl.self hw
  go_enter Try.func7, Try.ntmps7
  go_wp2_with (first
    | (go_at_call 24; refine (spec_TanhNumber hx _).mono ?_; rintro e w' ⟨r1, n1, rfl, hr1, rfl⟩)
    | (go_at_call 25; refine (impl_TanhNumber hx _).mono ?_; rintro e w' ⟨r2, n2, rfl, hr2, rfl⟩)
    | (go_at_call 17; refine (laws_sameFloat (hr2.cw _) (hr1.cw _) _).mono ?_; rintro e w' ⟨rfl, n3, rfl⟩))
  go_ret
  exact ⟨rfl, below_draws _ _⟩

end Go.Proofs.Ytpeflkakljaheaa
