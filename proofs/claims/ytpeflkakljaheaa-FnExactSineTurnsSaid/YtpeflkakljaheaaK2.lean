/- How great logarithms are, second part: the loops' ends, the counter, what fits. Conditions: none. -/
import Derived.Test.YtpeflkakljaheaaK1
set_option linter.unusedVariables false
set_option linter.unusedSimpArgs false
namespace Go.Proofs.Ytpeflkakljaheaa
open Go.RowKit Ieee
open Fc Fb

theorem HI.last {j : Nat} {X : Option Nat} (h : HI j X) (hj : j = 260) : ge15 X = false := by
  obtain ⟨⟨i, ⟨h1, h2, h3⟩ | ⟨h1, h2, h3⟩⟩, _⟩ := h
  · obtain rfl : i = 130 := by omega
    exact not_ge15 (by simpa using h3)
  · omega
theorem halve_spec : ∀ (f j : Nat) (X : Option Nat), HI j X → f + j = 260 → HI (halveC f X j).2 (halveC f X j).1 ∧ ge15 (halveC f X j).1 = false := by
  intro f
  induction f with
  | zero => intro j X h hj; exact ⟨h, h.last (by omega)⟩
  | succ f ih =>
    intro j X h hj
    cases hg : ge15 X
    · rw [halveC_end hg]; exact ⟨h, hg⟩
    · rw [halveC, if_pos hg]; exact ih _ _ (h.step hg).2 (by omega)
theorem DI.last {j : Nat} {X : Option Nat} (h : DI j X) (hj : j = 149) : lt075 X = false := by
  subst hj
  have hn := nU_eq
  exact not_lt075 h.1 h.2.1 (by have := h.2.2.1; rwa [show nU - 149 + 149 = nU by omega] at this)
theorem dbl_spec : ∀ (f j : Nat) (X : Option Nat), DI j X → f + j = 149 → DI (dblC f X j).2 (dblC f X j).1 ∧ lt075 (dblC f X j).1 = false := by
  intro f
  induction f with
  | zero => intro j X h hj; exact ⟨h, h.last (by omega)⟩
  | succ f ih =>
    intro j X h hj
    cases hg : lt075 X
    · rw [dblC_end hg]; exact ⟨h, hg⟩
    · rw [dblC, if_pos hg]; exact ih _ _ (h.step hg).2 (by omega)
theorem log_facts {Y : Option Nat} (h : HI 0 Y) : DI (dblC 149 (halveC 260 Y 0).1 0).2 (logL Y) ∧ -149 ≤ logN Y ∧ logN Y ≤ 260 := by
  obtain ⟨h1, h2⟩ := halve_spec 260 0 Y h rfl
  obtain ⟨h3, h4⟩ := dbl_spec 149 0 _ (h1.end_ h2) rfl
  refine ⟨h3, ?_, ?_⟩
  · have := h3.2.2.2; unfold logN; omega
  · have := h1.le; unfold logN; omega
theorem bd_512 {b : Nat} (h : Fp.rung Ieee.double b ≤ 4647714815446351872) : Bd (some b) 512 0 := by
  intro x hx
  obtain rfl := Option.some.inj hx
  have hn := nU_eq
  refine ⟨by have : Ieee.double.infRung = 9218868437227405312 := by decide
             omega, ?_⟩
  obtain ⟨q, hq⟩ : ∃ q, q = 1032 := ⟨_, rfl⟩
  have h1 := mag_lit (b := 4647714815446351872) q (by rw [hq]; decide) (by omega)
  have h2 : mag b ≤ mag 4647714815446351872 := V_mono (by decide) (by rw [show Fp.rung Ieee.double 4647714815446351872 = 4647714815446351872 by decide]; exact h)
  rw [h1] at h2
  rw [Nat.pow_zero, Nat.mul_one, show 512 = 2 ^ 9 by decide, ← Nat.pow_add]
  exact Nat.le_trans h2 (Nat.pow_le_pow_right (by decide) (by omega))
set_option maxRecDepth 100000 in
theorem cnt_key : ∀ i : Fin 412, fop .add .f64 (some (floatOfInt .f64 ((i.val : Int) - 150))) (some 4607182418800017408) = some (floatOfInt .f64 ((i.val : Int) - 149)) ∧ fop .sub .f64 (some (floatOfInt .f64 ((i.val : Int) - 149))) (some 4607182418800017408) = some (floatOfInt .f64 ((i.val : Int) - 150)) ∧ Fp.rung Ieee.double (floatOfInt .f64 ((i.val : Int) - 150)) ≤ 4647714815446351872 := by decide +kernel
theorem cnt_of {n : Int} (h0 : -150 ≤ n) (h1 : n ≤ 261) : fop .add .f64 (some (floatOfInt .f64 n)) (some 4607182418800017408) = some (floatOfInt .f64 (n + 1)) ∧ fop .sub .f64 (some (floatOfInt .f64 (n + 1))) (some 4607182418800017408) = some (floatOfInt .f64 n) ∧ Fp.rung Ieee.double (floatOfInt .f64 n) ≤ 4647714815446351872 := by
  have := cnt_key ⟨(n + 150).toNat, by omega⟩
  have e : (((n + 150).toNat : Nat) : Int) = n + 150 := by omega
  simp only [e] at this
  rwa [show n + 150 - 150 = n by omega, show n + 150 - 149 = n + 1 by omega] at this
theorem log_fits {Y : Option Nat} (h : HI 0 Y) : fits (logW Y) = true := by
  obtain ⟨h1, h2, h3⟩ := log_facts h
  exact fits_of_bd (logE_bd h1 (bd_512 (cnt_of (by omega) (by omega)).2.2)) (by decide)
theorem V32_max : Fp.V Ieee.single.binade 2139095039 * 2 ^ nq ≤ 2 ^ 130 * 2 ^ nU := by
  have hn := nU_eq
  have hnq := nq_eq
  obtain ⟨e, he⟩ : ∃ e, e = 253 := ⟨_, rfl⟩
  rw [show Ieee.single.binade = 8388608 by decide, Fp.V_big (by decide), show 2139095039 % 8388608 = 8388607 by decide, show 2139095039 / 8388608 - 1 = 253 by decide, ← he]
  have h1 : 8388608 + 8388607 ≤ 2 ^ 24 := by decide
  refine Nat.le_trans (Nat.mul_le_mul_right _ (Nat.mul_le_mul_right _ h1)) ?_
  rw [← Nat.pow_add, ← Nat.pow_add, ← Nat.pow_add]
  exact Nat.pow_le_pow_right (by decide) (by omega)
/-- A widened number that is greater than 0 and finite starts the loops. -/
theorem wide_HI {x : Nat} (hx : x < 2 ^ FloatKind.f32.format.width) (n1 : isN .f32 x = false) (hneg : Fp.neg Ieee.single x = false) (h0 : 0 < Fp.rung Ieee.single x) (h1 : Fp.rung Ieee.single x < Ieee.single.infRung) : HI 0 (wide (some x)) := by
  have hn := nU_eq
  have hnq := nq_eq
  have hI : Ieee.single.infRung = 2139095040 := by decide
  refine ⟨⟨0, .inl ⟨rfl, by decide, ?_⟩⟩, ?_, ?_⟩
  · exact bd_wide hx n1 (R0 := 2139095039) (by omega) (by decide) V32_max
  · intro t ht
    obtain ⟨R, g1, g2, _, _⟩ := wide_of hx n1
    have e : wide (some x) = some (Ieee.double.word (Fp.neg Ieee.single x) R) := by simp [wide, g2]
    rw [e, hneg] at ht
    obtain rfl := Option.some.inj ht
    exact (Fp.rung_word Ieee.double false (Nat.lt_of_le_of_lt g1 (by decide))).2
  · intro t ht
    obtain ⟨R, g1, g2, _, g4⟩ := wide_of hx n1
    have e : wide (some x) = some (Ieee.double.word (Fp.neg Ieee.single x) R) := by simp [wide, g2]
    rw [e] at ht
    obtain rfl := Option.some.inj ht
    rcases g4 with ⟨h5, _⟩ | ⟨_, _, h7⟩
    · omega
    · unfold mag
      rw [(Fp.rung_word Ieee.double (Fp.neg Ieee.single x) (Nat.lt_of_le_of_lt g1 (by decide))).1, h7]
      have hv := Fp.V_lt (B := Ieee.single.binade) (by decide) h0
      rw [show nU - 149 = nq by omega]
      exact Nat.le_mul_of_pos_left _ (by omega)
end Go.Proofs.Ytpeflkakljaheaa
