/- Logarithms: what the kinds of numbers tell. Conditions: none. -/
import Derived.Test.YtpeflkakljaheaaK2
set_option linter.unusedVariables false
set_option linter.unusedSimpArgs false
namespace Go.Proofs.Ytpeflkakljaheaa
open Go.RowKit Ieee
open Fc Fb

theorem fin_num {x : Nat} (h : Fp.rung Ieee.single x < Ieee.single.infRung) : finC (some x) = true := by
  obtain ⟨m, i, e1, _, _⟩ := Fp.read_finite Ieee.single h
  have e2 : fsub (some x) (some x) = some 0 := by
    show (((Ieee.single.read x).sum (Ieee.single.read x).opposite).map Ieee.single.write) = some 0
    rw [e1]
    simp only [Datum.opposite, Datum.sum, Option.map_some, Int.min_self, Int.sub_self]
    have e3 : signed (Fp.neg Ieee.single x) m (0 : Int).toNat + signed (!Fp.neg Ieee.single x) m (0 : Int).toNat = 0 := by
      unfold signed; cases Fp.neg Ieee.single x <;> simp <;> omega
    rw [e3]
    simp only [if_true, Int.natAbs_zero]
    have e4 : (Fp.neg Ieee.single x && !Fp.neg Ieee.single x) = false := by cases Fp.neg Ieee.single x <;> rfl
    rw [e4]
    rfl
  unfold finC
  rw [e2]
  decide
theorem fin_inf (s : Bool) : finC (some (Ieee.single.word s Ieee.single.infRung)) = false := by cases s <;> decide
def lt0 (k : FloatKind) (X : Option Nat) : Bool := ford k X (some 0) == some .lt
def eq0 (k : FloatKind) (X : Option Nat) : Bool := ford k X (some 0) == some .eq
def gtM (Y : Option Nat) : Bool := ford .f64 Y (some 9218868437227405311) == some .gt
theorem sg_lt0 {s : Bool} {r : Nat} : Fp.sg s r < 0 ↔ s = true ∧ 0 < r := by unfold Fp.sg; cases s <;> simp <;> omega
theorem sg_eq0 {s : Bool} {r : Nat} : Fp.sg s r = 0 ↔ r = 0 := by unfold Fp.sg; cases s <;> simp
/-- What a number of 32 bits is, and what it is widened. -/
theorem log_cases {x : Nat} {X : Option Nat} (hx : Fl .f32 x X) :
    (X = none ∧ isN .f32 x = true) ∨ (isN .f32 x = false ∧ lt0 .f32 X = true ∧ lt0 .f64 (wide X) = true) ∨
    (isN .f32 x = false ∧ lt0 .f32 X = false ∧ lt0 .f64 (wide X) = false ∧ eq0 .f32 X = true ∧ eq0 .f64 (wide X) = true) ∨
    (isN .f32 x = false ∧ lt0 .f32 X = false ∧ lt0 .f64 (wide X) = false ∧ eq0 .f32 X = false ∧ eq0 .f64 (wide X) = false ∧ finC X = false ∧ gtM (wide X) = true) ∨
    (isN .f32 x = false ∧ lt0 .f32 X = false ∧ lt0 .f64 (wide X) = false ∧ eq0 .f32 X = false ∧ eq0 .f64 (wide X) = false ∧ finC X = true ∧ gtM (wide X) = false ∧ HI 0 (wide X)) := by
  rcases hx.cases with ⟨rfl, n1⟩ | ⟨rfl, n1⟩
  · exact .inl ⟨rfl, n1⟩
  refine .inr ?_
  obtain ⟨R, h1, h2, _, h4⟩ := wide_of hx.wf n1
  have hR : Fp.rung Ieee.single x ≤ Ieee.single.infRung := Fp.rung_le_of_not_nan _ (by decide) n1
  have e : wide (some x) = some (Ieee.double.word (Fp.neg Ieee.single x) R) := by simp [wide, h2]
  have o32 : ford .f32 (some x) (some 0) = some (compare (Fp.sg (Fp.neg Ieee.single x) (Fp.rung Ieee.single x)) 0) := by
    rw [ford32 hx.wf n1 (b := 0) (by decide) (by decide), show Fp.sr Ieee.single 0 = 0 by decide]; rfl
  have hw := Fp.rung_word Ieee.double (Fp.neg Ieee.single x) (r := R) (Nat.lt_of_le_of_lt h1 (by decide))
  have srw : Fp.sr Ieee.double (Ieee.double.word (Fp.neg Ieee.single x) R) = Fp.sg (Fp.neg Ieee.single x) R := by unfold Fp.sr; rw [hw.1, hw.2]
  have o64 : ford .f64 (wide (some x)) (some 0) = some (compare (Fp.sg (Fp.neg Ieee.single x) R) 0) := by
    rw [e, ford64 (not_nan64 h1) (by decide), srw, show Fp.sr Ieee.double 0 = 0 by decide]
  have oM : ford .f64 (wide (some x)) (some 9218868437227405311) = some (compare (Fp.sg (Fp.neg Ieee.single x) R) 9218868437227405311) := by
    rw [e, ford64 (not_nan64 h1) (by decide), srw, show Fp.sr Ieee.double 9218868437227405311 = 9218868437227405311 by decide]
  have hr0 : Fp.rung Ieee.single x = 0 ↔ R = 0 := by
    have hI : Ieee.single.infRung = 2139095040 := by decide
    have hJ : Ieee.double.infRung = 9218868437227405312 := by decide
    rcases h4 with ⟨a, b⟩ | ⟨a, b, c⟩
    · omega
    · constructor
      · intro h
        rw [h, V_zero (by decide), Nat.zero_mul] at c
        rcases Nat.eq_zero_or_pos R with h0 | h0
        · exact h0
        · have := V_pos (B := Ieee.double.binade) (by decide) h0; omega
      · intro h
        rw [h, V_zero (by decide)] at c
        rcases Nat.eq_zero_or_pos (Fp.rung Ieee.single x) with h0 | h0
        · exact h0
        · have := V_pos (B := Ieee.single.binade) (by decide) h0
          have h2 := Nat.two_pow_pos nq
          have := Nat.mul_pos this h2
          omega
  unfold lt0 eq0 gtM
  rw [o32, o64, oM, cmp_lt, cmp_lt, cmp_eq, cmp_eq, cmp_gt]
  have hx0 : x < 2 ^ FloatKind.f32.format.width := hx.wf
  generalize hs : Fp.neg Ieee.single x = s at *
  by_cases hz : Fp.rung Ieee.single x = 0
  · have hz2 := hr0.1 hz
    rw [hz, hz2]
    exact .inr (.inl ⟨n1, by cases s <;> decide, by cases s <;> decide, by cases s <;> decide, by cases s <;> decide⟩)
  · have hz2 : R ≠ 0 := fun h => hz (hr0.2 h)
    cases s
    · have l1 : Fp.sg false (Fp.rung Ieee.single x) = (Fp.rung Ieee.single x : Int) := rfl
      have l2 : Fp.sg false R = (R : Int) := rfl
      rw [l1, l2]
      have hJ : Ieee.double.infRung = 9218868437227405312 := by decide
      rcases h4 with ⟨a, b⟩ | ⟨a, b, c⟩
      · refine .inr (.inr (.inl ⟨n1, by simp, by simp, by simp; omega, by simp; omega, ?_, by simp; omega⟩))
        have hw : Ieee.single.word (Fp.neg Ieee.single x) (Fp.rung Ieee.single x) = x := Fp.word_parts Ieee.single hx0
        rw [← hw, a]; exact fin_inf _
      · exact .inr (.inr (.inr ⟨n1, by simp, by simp, by simp; omega, by simp; omega, fin_num a, by simp; omega, wide_HI hx0 n1 hs (by omega) a⟩))
    · have l1 : Fp.sg true (Fp.rung Ieee.single x) = -(Fp.rung Ieee.single x : Int) := rfl
      have l2 : Fp.sg true R = -(R : Int) := rfl
      rw [l1, l2]
      exact .inl ⟨n1, by simp; omega, by simp; omega⟩
/-- The logarithm. -/
def logSW (Y : Option Nat) : Option Nat := if lt0 .f64 Y = true ∨ Y = none then none else if eq0 .f64 Y = true then some 18442240474082181120 else if gtM Y = true then Y else logW Y
def logC (X : Option Nat) : Option Nat := narrow (logSW (wide X))
theorem logC_none : logSW none = none := by unfold logSW; rw [if_pos (.inr rfl)]
theorem wide_some {x : Nat} (hx : x < 2 ^ FloatKind.f32.format.width) (n1 : isN .f32 x = false) : wide (some x) ≠ none := by
  obtain ⟨R, h1, h2, _, h4⟩ := wide_of hx n1
  simp [wide, h2]
end Go.Proofs.Ytpeflkakljaheaa
