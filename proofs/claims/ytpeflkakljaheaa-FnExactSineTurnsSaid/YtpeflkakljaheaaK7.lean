/- Turns: what a sine comes to, and how great it is. Conditions: none. -/
import Derived.Test.YtpeflkakljaheaaK6
set_option linter.unusedVariables false
set_option linter.unusedSimpArgs false
namespace Go.Proofs.Ytpeflkakljaheaa
open Go.RowKit Ieee
open Fc Fb
/-! ### The opposite of a float64 -/
theorem xor_top64 {b : Nat} (h : b < 18446744073709551616) : b ^^^ 9223372036854775808 = if b < 9223372036854775808 then b + 9223372036854775808 else b - 9223372036854775808 := by
  have key : ∀ r, r < 9223372036854775808 → r ^^^ 9223372036854775808 = r + 9223372036854775808 := by
    intro r hr
    rw [show (9223372036854775808 : Nat) = 2 ^ 63 from rfl, Nat.add_comm]
    apply Nat.eq_of_testBit_eq
    intro i
    rw [Nat.testBit_xor, Nat.testBit_two_pow]
    rcases Nat.lt_trichotomy i 63 with h1 | h1 | h1
    · rw [Nat.testBit_two_pow_add_gt h1]; simp [show ¬ 63 = i by omega]
    · subst h1; rw [Nat.testBit_two_pow_add_eq]; simp
    · have h2 : 2 ^ 64 ≤ 2 ^ i := Nat.pow_le_pow_right (by decide) h1
      rw [Nat.testBit_lt_two_pow (x := r) (by omega), Nat.testBit_lt_two_pow (x := 2 ^ 63 + r) (by omega)]
      simp [show ¬ 63 = i by omega]
  split
  · exact key b (by assumption)
  · have h2 := key (b - 9223372036854775808) (by omega)
    rw [show b - 9223372036854775808 + 9223372036854775808 = b by omega] at h2
    rw [← h2, Nat.xor_assoc, Nat.xor_self, Nat.xor_zero]
    omega
theorem neg64_eq {b : Nat} (h : b < 18446744073709551616) : Op.negFloat .f64 b = if b < 9223372036854775808 then b + 9223372036854775808 else b - 9223372036854775808 := xor_top64 h
def neg64 (X : Option Nat) : Option Nat := X.map fun b => Op.negFloat .f64 b
theorem neg64_rung {b : Nat} (h : b < 18446744073709551616) : Fp.rung Ieee.double (Op.negFloat .f64 b) = Fp.rung Ieee.double b := by
  rw [neg64_eq h]
  show _ % 9223372036854775808 = b % 9223372036854775808
  split <;> omega
theorem isN64 {b : Nat} : isN .f64 b = decide (Ieee.double.infRung < Fp.rung Ieee.double b) := by
  by_cases h : Ieee.double.infRung < Fp.rung Ieee.double b
  · rw [decide_eq_true h]; exact Fp.read_nan Ieee.double (by decide) h
  · rw [decide_eq_false h]
    cases hn : isN .f64 b with
    | false => rfl
    | true =>
      rcases Nat.lt_or_ge (Fp.rung Ieee.double b) Ieee.double.infRung with h1 | h1
      · obtain ⟨m, i, A, e1, _⟩ := read_fin h1
        have : (Ieee.double.read b).isNaN = true := hn
        rw [e1] at this; cases this
      · have e1 := Fp.read_inf Ieee.double (by decide) (show Fp.rung Ieee.double b = Ieee.double.infRung by omega)
        have : (Ieee.double.read b).isNaN = true := hn
        rw [e1] at this; cases this
theorem Fl.neg64 {b : Nat} {X : Option Nat} (h : Fl .f64 b X) : Fl .f64 (Op.negFloat .f64 b) (neg64 X) := by
  have hb := lt64 h.wf
  have hw : Op.negFloat .f64 b < 18446744073709551616 := by rw [neg64_eq hb]; split <;> omega
  have hn : isN .f64 (Op.negFloat .f64 b) = isN .f64 b := by rw [isN64, isN64, neg64_rung hb]
  rcases h.cases with ⟨rfl, n1⟩ | ⟨rfl, n1⟩
  · exact .of_nan hw (hn.trans n1)
  · exact .of_lit hw (hn.trans n1)
theorem bd_neg {X : Option Nat} {a c : Nat} (h : Bd X a c) (hw : ∀ b, X = some b → b < 18446744073709551616) : Bd (neg64 X) a c := by
  intro t ht
  cases X with
  | none => cases ht
  | some b =>
    cases ht
    obtain ⟨h1, h2⟩ := h b rfl
    have e := neg64_rung (hw b rfl)
    refine ⟨by rw [e]; exact h1, ?_⟩
    unfold mag at h2 ⊢
    rw [e]; exact h2
/-! ### The sine of what is left -/
def half : Nat := 4602678819172646912
def sF1 (F : Option Nat) : Option Nat := if (ford .f64 F (some 0) == some .lt) = true then fop .add .f64 F (some 4607182418800017408) else F
def sBl (F : Option Nat) : Bool := ford .f64 F (some 4602678819172646912) == some .gt || ford .f64 F (some 4602678819172646912) == some .eq
def sF2 (G : Option Nat) : Option Nat := if sBl G = true then fop .sub .f64 G (some 4602678819172646912) else G
def sF3 (H : Option Nat) : Option Nat := if (ford .f64 H (some 4598175219545276416) == some .gt) = true then fop .sub .f64 (some 4602678819172646912) H else H
def sZ (H : Option Nat) : Option Nat := fop .mul .f64 (sF3 H) (some 4618760256179416344)
def dN (j : Nat) : Nat := floatOfInt .f64 (2 * ((8 - j : Nat) : Int) * (2 * ((8 - j : Nat) : Int) + 1))
def sP (U : Option Nat) : Nat → Option Nat
  | 0 => some 4607182418800017408
  | j + 1 => fop .sub .f64 (some 4607182418800017408) (fop .quo .f64 (fop .mul .f64 U (sP U j)) (some (dN j)))
def sR (H : Option Nat) : Option Nat := fop .mul .f64 (sZ H) (sP (fop .mul .f64 (sZ H) (sZ H)) 8)
def sC1 (G : Option Nat) : Option Nat := if sBl G = true then neg64 (sR (sF2 G)) else sR (sF2 G)
def sinC (F : Option Nat) : Option Nat := sC1 (sF1 F)
theorem bd_half : Bd (some 4602678819172646912) 1 0 := bd_word 1022 (by decide) (by decide) (by decide)
theorem bd_turn : Bd (some 4618760256179416344) 8 0 := bd_word_hi 1025 (by decide) (by decide) (by decide)
theorem rp2 (k : Nat) (hk : k ≤ 900) : Rp (2 ^ k) 0 := rp_of 1 k (by simp) (by decide) (by decide) hk
theorem dN_lo (j : Nat) (hj : j < 8) : Lo (some (dN j)) := by
  have key : ∀ i : Fin 8, Fp.rung Ieee.double one ≤ Fp.rung Ieee.double (dN i.val) ∧ Fp.rung Ieee.double (dN i.val) ≤ Ieee.double.infRung := by decide
  exact lo_of (key ⟨j, hj⟩).1 (key ⟨j, hj⟩).2
theorem sP_bd {U : Option Nat} (hU : Bd U (2 ^ 12) 0) : ∀ j, j ≤ 8 → Bd (sP U j) (2 ^ (14 * j)) 0
  | 0, _ => bd_one
  | j + 1, hj => by
    have ih := sP_bd hU j (by omega)
    have h1 : Bd (fop .mul .f64 U (sP U j)) (2 ^ (12 + 14 * j)) 0 := bd_mul hU ih (by simp only [Nat.add_zero, Nat.pow_zero, Nat.mul_one]; rw [← Nat.pow_add]; exact Nat.le_refl _) (rp2 _ (by omega)) (Nat.zero_le _)
    have h2 : Bd (fop .quo .f64 (fop .mul .f64 U (sP U j)) (some (dN j))) (2 ^ (13 + 14 * j)) 0 := bd_quo h1 (dN_lo j (by omega)) (by
      rw [Nat.pow_zero, Nat.mul_one, Nat.mul_one, show 13 + 14 * j = (12 + 14 * j) + 1 by omega, Nat.pow_succ]
      generalize 2 ^ (12 + 14 * j) = x; omega) (rp2 _ (by omega)) (Nat.zero_le _)
    refine bd_sub bd_one h2 ?_ (rp2 _ (by omega)) (Nat.zero_le _)
    rw [Nat.add_zero, Nat.pow_zero, Nat.mul_one, Nat.mul_one, Nat.mul_one, Nat.mul_one, show 14 * (j + 1) = (13 + 14 * j) + 1 by omega, Nat.pow_succ]
    have := Nat.two_pow_pos (13 + 14 * j)
    generalize 2 ^ (13 + 14 * j) = x at *; omega
theorem sR_bd {H : Option Nat} (h : Bd H 4 0) : Bd (sR H) (2 ^ 118) 0 := by
  have h3 : Bd (sF3 H) 8 0 := by
    unfold sF3
    split
    · exact bd_sub bd_half h (by decide) (rp_of 1 3 (by decide) (by decide) (by decide) (by decide)) (Nat.zero_le _)
    · exact bd_mono h (by decide)
  have hz : Bd (sZ H) (2 ^ 6) 0 := bd_mul h3 bd_turn (by decide) (rp2 6 (by decide)) (Nat.zero_le _)
  have hu : Bd (fop .mul .f64 (sZ H) (sZ H)) (2 ^ 12) 0 := bd_mul hz hz (by decide) (rp2 12 (by decide)) (Nat.zero_le _)
  exact bd_mul hz (sP_bd hu 8 (Nat.le_refl _)) (by decide) (rp2 118 (by decide)) (Nat.zero_le _)
theorem fop_wf {op : BinOp} {X Y : Option Nat} {t : Nat} {x y : Nat} (hx : Fl .f64 x X) (hy : Fl .f64 y Y) (w : World) (h : fop op .f64 X Y = some t) : t < 18446744073709551616 := by
  have := (hx.fr hy op w)
  rw [h] at this
  have e := this.some
  rw [← e]; exact lt64 this.wf
theorem sinC_bd {F : Option Nat} (h : Bd F 1 0) : Bd (sR (sF2 (sF1 F))) (2 ^ 118) 0 := by
  have h1 : Bd (sF1 F) 2 0 := by
    unfold sF1
    split
    · exact bd_add h bd_one (by decide) (rp_of 1 1 (by decide) (by decide) (by decide) (by decide)) (Nat.zero_le _)
    · exact bd_mono h (by decide)
  refine sR_bd ?_
  unfold sF2
  split
  · exact bd_sub h1 bd_half (by decide) (rp_of 1 2 (by decide) (by decide) (by decide) (by decide)) (Nat.zero_le _)
  · exact bd_mono h1 (by decide)
/-- A bound tells that the word is no greater than 64 bits allow, if its sign is within. -/
theorem sinC_fits {F : Option Nat} (h : Bd F 1 0) (hw : ∀ b, sR (sF2 (sF1 F)) = some b → b < 18446744073709551616) : fits (sinC F) = true := by
  have hb := sinC_bd h
  have hc : 2 ^ 118 ≤ 2 ^ (127 + 0) := Nat.pow_le_pow_right (by decide) (by decide)
  unfold sinC sC1
  split
  · exact fits_of_bd (bd_neg hb hw) hc
  · exact fits_of_bd hb hc
/-! ### Far -/
theorem far_not {b : Nat} (h : Fp.rung Ieee.double b < 4841369599423283200) : Fp.rung Ieee.double b < Ieee.double.infRung ∧ wq b < 2 ^ 53 := by
  have h1 : Fp.rung Ieee.double b < Ieee.double.infRung := Nat.lt_trans h (by decide)
  obtain ⟨m, i, A, e1, e2, e3⟩ := read_fin h1
  obtain ⟨q1, _⟩ := wq_mag e1 e2 e3
  have hV := Fp.V_lt (B := Ieee.double.binade) (by decide) h
  have e : Fp.V Ieee.double.binade 4841369599423283200 = 2 ^ 52 * 2 ^ nU := by
    rw [Fp.V_big (by decide), nU_eq]
    rw [show Ieee.double.binade + 4841369599423283200 % Ieee.double.binade = 2 ^ 52 by decide, show 4841369599423283200 / Ieee.double.binade - 1 = 1074 by decide]
  rw [e] at hV
  refine ⟨h1, ?_⟩
  have h2 : wq b * 2 ^ nU < 2 ^ 52 * 2 ^ nU := Nat.lt_of_le_of_lt q1 hV
  have h3 := Nat.lt_of_mul_lt_mul_right h2
  exact Nat.lt_trans h3 (by decide)
end Go.Proofs.Ytpeflkakljaheaa
