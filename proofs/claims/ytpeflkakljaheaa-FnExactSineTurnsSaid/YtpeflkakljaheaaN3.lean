/- How great exponentials are. Conditions: none. -/
import Derived.Test.YtpeflkakljaheaaN2
set_option linter.unusedVariables false
set_option linter.unusedSimpArgs false
namespace Go.Proofs.Ytpeflkakljaheaa
open Go.RowKit Ieee
open Fc

theorem lo_kF : ∀ j, j < 12 → Lo (kF j) := by
  intro j hj
  have key : ∀ i : Fin 12, Fp.rung Ieee.double one ≤ Fp.rung Ieee.double (floatOfInt .f64 ((12 - i.val : Nat) : Int)) ∧ Fp.rung Ieee.double (floatOfInt .f64 ((12 - i.val : Nat) : Int)) ≤ Ieee.double.infRung := by decide
  obtain ⟨h1, h2⟩ := key ⟨j, hj⟩
  exact lo_of h1 h2
theorem bd_one : Bd (some 4607182418800017408) 1 0 := by
  intro b hb
  obtain rfl := Option.some.inj hb
  exact ⟨by decide, by rw [show mag 4607182418800017408 = 2 ^ nU from mag_one, Nat.pow_zero, Nat.mul_one, Nat.one_mul]; exact Nat.le_refl _⟩
/-- A word of a binade is less than the next binade's first number. -/
theorem bd_word {b : Nat} (q : Nat) (hq : Fp.rung Ieee.double b / 4503599627370496 = q) (h1 : 1 ≤ q) (h2 : q ≤ 1022) : Bd (some b) 1 (1022 - q) := by
  intro x hx
  obtain rfl := Option.some.inj hx
  have hn := nU_eq
  have hm := Nat.mod_lt (Fp.rung Ieee.double b) (show 0 < 4503599627370496 by decide)
  have hdm := Nat.div_add_mod (Fp.rung Ieee.double b) 4503599627370496
  have hI : Ieee.double.infRung = 2047 * 4503599627370496 := by decide
  rw [hq] at hdm
  refine ⟨by rw [hI]; omega, ?_⟩
  unfold mag
  rw [show Ieee.double.binade = 4503599627370496 by decide, Fp.V_big (by omega), hq, Nat.one_mul]
  generalize Fp.rung Ieee.double b % 4503599627370496 = r at *
  have h3 : 4503599627370496 + r ≤ 2 ^ 53 := by have : (2 : Nat) ^ 53 = 9007199254740992 := by decide
                                                omega
  refine Nat.le_trans (Nat.mul_le_mul_right _ (Nat.mul_le_mul_right _ h3)) ?_
  rw [← Nat.pow_add, ← Nat.pow_add]
  exact Nat.pow_le_pow_right (by decide) (by omega)
theorem bd_word_hi {b : Nat} (q : Nat) (hq : Fp.rung Ieee.double b / 4503599627370496 = q) (h1 : 1022 ≤ q) (h2 : q ≤ 2046) : Bd (some b) (2 ^ (q - 1022)) 0 := by
  intro x hx
  obtain rfl := Option.some.inj hx
  have hn := nU_eq
  have hm := Nat.mod_lt (Fp.rung Ieee.double b) (show 0 < 4503599627370496 by decide)
  have hdm := Nat.div_add_mod (Fp.rung Ieee.double b) 4503599627370496
  have hI : Ieee.double.infRung = 2047 * 4503599627370496 := by decide
  rw [hq] at hdm
  refine ⟨by rw [hI]; omega, ?_⟩
  unfold mag
  rw [show Ieee.double.binade = 4503599627370496 by decide, Fp.V_big (by omega), hq, Nat.pow_zero, Nat.mul_one]
  generalize Fp.rung Ieee.double b % 4503599627370496 = r at *
  have h3 : 4503599627370496 + r ≤ 2 ^ 53 := by have : (2 : Nat) ^ 53 = 9007199254740992 := by decide
                                                omega
  refine Nat.le_trans (Nat.mul_le_mul_right _ h3) ?_
  rw [← Nat.pow_add, ← Nat.pow_add]
  exact Nat.pow_le_pow_right (by decide) (by omega)
theorem lo_lit {b : Nat} (h : Fp.rung Ieee.double one ≤ Fp.rung Ieee.double b ∧ Fp.rung Ieee.double b ≤ Ieee.double.infRung) : Lo (some b) := lo_of h.1 h.2
/-- The rounds of the exponential of a small number stay small. -/
theorem expI_bd {T : Option Nat} (hT : Bd T 90 9) : ∀ j, j ≤ 12 → Bd (expI T j) 5 2 := by
  intro j
  induction j with
  | zero => intro _; exact bd_mono bd_one (by decide)
  | succ j ih =>
    intro hj
    have h1 := bd_mul (e := 450) (g := 11) hT (ih (by omega)) (by decide) (rp_of 450 0 (by decide) (by decide) (by decide) (by decide)) (by rw [nU_eq]; decide)
    have h2 := bd_quo (e := 507) (g := 11) h1 (lo_kF j (by omega)) (by decide) (rp_of 507 0 (by decide) (by decide) (by decide) (by decide)) (by rw [nU_eq]; decide)
    exact bd_add (e := 5) (g := 2) bd_one h2 (by decide) (rp_of 5 0 (by decide) (by decide) (by decide) (by decide)) (by rw [nU_eq]; decide)
theorem sqI_bd {P : Option Nat} (hP : Bd P 5 2) : Bd (sqI P 8) (2 ^ 84) 0 ∧ Po (sqI P 8) := by
  have z : 0 ≤ nU := Nat.zero_le _
  have s1 := bd_mul (e := 25) (g := 4) hP hP (by decide) (rp_of 25 0 (by decide) (by decide) (by decide) (by decide)) (by rw [nU_eq]; decide)
  have s2 := bd_mul (e := 625) (g := 8) s1 s1 (by decide) (rp_of 625 0 (by decide) (by decide) (by decide) (by decide)) (by rw [nU_eq]; decide)
  have s3 := bd_mul (e := 6) (g := 0) s2 s2 (by decide) (rp_of 6 0 (by decide) (by decide) (by decide) (by decide)) z
  have s4 := bd_mul (e := 36) (g := 0) s3 s3 (by decide) (rp_of 36 0 (by decide) (by decide) (by decide) (by decide)) z
  have s5 := bd_mul (e := 1296) (g := 0) s4 s4 (by decide) (rp_of 1296 0 (by decide) (by decide) (by decide) (by decide)) z
  have s6 := bd_mul (e := 2 ^ 21) (g := 0) s5 s5 (by decide) (rp_of 1 21 (by decide) (by decide) (by decide) (by decide)) z
  have s7 := bd_mul (e := 2 ^ 42) (g := 0) s6 s6 (by decide) (rp_of 1 42 (by decide) (by decide) (by decide) (by decide)) z
  have s8 := bd_mul (e := 2 ^ 84) (g := 0) s7 s7 (by decide) (rp_of 1 84 (by decide) (by decide) (by decide) (by decide)) z
  exact ⟨s8, po_square s7⟩
theorem mag_lit {b : Nat} (q : Nat) (hq : Fp.rung Ieee.double b = q * 4503599627370496) (h1 : 1 ≤ q) : mag b = 2 ^ (52 + (q - 1)) := by
  unfold mag
  rw [hq, show Ieee.double.binade = 4503599627370496 by decide, Fp.V_big (by omega), Nat.mul_mod_left, Nat.mul_div_cancel _ (by decide), Nat.add_zero, show 4503599627370496 = 2 ^ 52 by decide, ← Nat.pow_add]
theorem los_256 : Los (some 4643211215818981376) 8 := by
  intro b hb
  obtain rfl := Option.some.inj hb
  have hn := nU_eq
  refine ⟨by decide, ?_⟩
  obtain ⟨q, hq⟩ : ∃ q, q = 1031 := ⟨_, rfl⟩
  rw [mag_lit (b := 4643211215818981376) q (by rw [hq]; decide) (by omega)]
  exact Nat.pow_le_pow_right (by decide) (by omega)
/-- The exponential of a number of no more than 40. -/
theorem exp_bd {Y : Option Nat} (hY : Bd Y 40 0) : expC Y = some 9218868437227405312 ∨ expC Y = some 0 ∨ (Bd (expC Y) (2 ^ 84) 0 ∧ Po (expC Y)) := by
  unfold expC
  split
  · exact .inl rfl
  · split
    · exact .inr (.inl rfl)
    · refine .inr (.inr (sqI_bd (expI_bd ?_ 12 (Nat.le_refl _))))
      exact bd_quo_s (e := 90) (g := 9) (v := 8) hY los_256 (by decide) (rp_of 90 0 (by decide) (by decide) (by decide) (by decide)) (by rw [nU_eq]; decide)
end Go.Proofs.Ytpeflkakljaheaa
