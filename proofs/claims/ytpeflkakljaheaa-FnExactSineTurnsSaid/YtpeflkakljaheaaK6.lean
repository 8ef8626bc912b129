/- Turns: the whole part of a number, and what is left. Conditions: none. -/
import Derived.Test.YtpeflkakljaheaaK1
set_option linter.unusedVariables false
set_option linter.unusedSimpArgs false
namespace Go.Proofs.Ytpeflkakljaheaa
open Go.RowKit Ieee
open Fc Fb
theorem cutz (s : Bool) (n d : Nat) : Toward.zero.cut s n d = n / 2 ^ d := by
  unfold Toward.cut
  simp only [Bool.toNat_false, Nat.add_zero, Nat.one_shiftLeft]
  rcases Nat.le_total d (n.log2 + 2) with h | h
  · rw [Nat.min_eq_left h]
  · have h1 : n < 2 ^ (n.log2 + 2) := Nat.lt_of_lt_of_le Nat.lt_log2_self (Nat.pow_le_pow_right (by decide) (by omega))
    rw [Nat.min_eq_right h, Nat.div_eq_of_lt h1, Nat.div_eq_of_lt (Nat.lt_of_lt_of_le h1 (Nat.pow_le_pow_right (by decide) h))]
/-- The whole part of a finite number, without its sign. -/
def wq (b : Nat) : Nat := match Ieee.double.read b with
  | .number _ m i => (m <<< i.toNat) / 2 ^ (-i).toNat
  | _ => 0
theorem wq_mag {b m : Nat} {s : Bool} {i : Int} {A : Nat} (hr : Ieee.double.read b = .number s m i) (hA : i + nU = (A : Int)) (hm : m * 2 ^ A = mag b) : wq b * 2 ^ nU ≤ mag b ∧ mag b < (wq b + 1) * 2 ^ nU := by
  have hq : wq b = (m <<< i.toNat) / 2 ^ (-i).toNat := by unfold wq; rw [hr]
  rw [hq, ← hm, Nat.shiftLeft_eq]
  rcases Int.le_total 0 i with h | h
  · obtain ⟨k, rfl⟩ : ∃ k : Nat, i = (k : Int) := ⟨i.toNat, by omega⟩
    have e1 : (-(k : Int)).toNat = 0 := by omega
    have e2 : A = k + nU := by omega
    rw [e1, e2, Int.toNat_natCast, Nat.pow_zero, Nat.div_one, Nat.pow_add, ← Nat.mul_assoc]
    refine ⟨Nat.le_refl _, Nat.mul_lt_mul_of_pos_right (by omega) (Nat.two_pow_pos _)⟩
  · obtain ⟨d, hd⟩ : ∃ d : Nat, i = -(d : Int) := ⟨(-i).toNat, by omega⟩
    subst hd
    have e1 : (-(-(d : Int))).toNat = d := by omega
    have e2 : (-(d : Int)).toNat = 0 := by omega
    have e3 : nU = d + A := by omega
    rw [e1, e2, Nat.pow_zero, Nat.mul_one, e3, Nat.pow_add, ← Nat.mul_assoc, ← Nat.mul_assoc]
    have h1 := Nat.div_mul_le_self m (2 ^ d)
    have h2 : m < (m / 2 ^ d + 1) * 2 ^ d := by
      have := Nat.lt_div_mul_add (a := m) (Nat.two_pow_pos d)
      rw [Nat.add_mul, Nat.one_mul]; exact this
    exact ⟨Nat.mul_le_mul_right _ h1, Nat.mul_lt_mul_of_pos_right h2 (Nat.two_pow_pos _)⟩
/-- The whole part, as math.Trunc gives it. -/
def tB (b : Nat) : Nat := Ieee.double.nearest (Fp.neg Ieee.double b) (wq b) 0
/-- The whole part with a positive zero. -/
def wB (b : Nat) : Nat := if wq b = 0 then 0 else tB b
theorem tB_pos {b : Nat} (h0 : 0 < wq b) (h1 : wq b < 2 ^ 53) : ∃ R, tB b = Ieee.double.word (Fp.neg Ieee.double b) R ∧ R < Ieee.double.infRung ∧ 0 < R ∧ Fp.V Ieee.double.binade R = wq b * 2 ^ nU := by
  obtain ⟨R, hR, hV⟩ := rp_of (e := wq b) (g := 0) (wq b) 0 (by simp) h0 h1 (by decide)
  rw [Nat.sub_zero] at hV
  have hR0 : 0 < R := by
    rcases Nat.eq_zero_or_pos R with h | h
    · subst h
      rw [Fp.V_small (by decide)] at hV
      have := Nat.mul_pos h0 (Nat.two_pow_pos nU)
      omega
    · exact h
  refine ⟨R, ?_, hR, hR0, hV⟩
  unfold tB
  refine Fp.nearest_exact Ieee.double _ hR hR0 (.inl ⟨?_, ?_⟩)
  · rw [place64]; omega
  · rw [place64, hV]; congr 2; omega
theorem tB_zero {b : Nat} (h0 : wq b = 0) : tB b = Ieee.double.word (Fp.neg Ieee.double b) 0 := by
  unfold tB; rw [h0]; exact Fp.nearest_zero _ _ _
theorem int_wB {b : Nat} : floatOfInt .f64 (signed (Fp.neg Ieee.double b) (wq b) 0) = wB b := by
  unfold wB
  have e : signed (Fp.neg Ieee.double b) (wq b) 0 = if Fp.neg Ieee.double b = true then -(wq b : Int) else (wq b : Int) := by unfold signed; simp
  rw [e]
  by_cases h : wq b = 0
  · rw [if_pos h, h]; split <;> decide
  · rw [if_neg h]
    show Ieee.double.nearest _ _ 0 = tB b
    unfold tB
    cases hs : Fp.neg Ieee.double b
    · simp only [Bool.false_eq_true, if_false]
      rw [show decide ((wq b : Int) < 0) = false by simp, Int.natAbs_natCast]
    · simp only [if_true]
      rw [show decide (-(wq b : Int) < 0) = true by simp; omega, Int.natAbs_neg, Int.natAbs_natCast]
/-- What is left is at most 1. -/
theorem bd_rest {b : Nat} (h : Fp.rung Ieee.double b < Ieee.double.infRung) (hq : wq b < 2 ^ 53) : Bd (fop .sub .f64 (some b) (some (wB b))) 1 0 := by
  obtain ⟨m, i, A, e1, e2, e3⟩ := read_fin h
  obtain ⟨q1, q2⟩ := wq_mag e1 e2 e3
  by_cases h0 : wq b = 0
  · have hw : wB b = 0 := by unfold wB; rw [if_pos h0]
    rw [hw]
    refine bd_sub (a := 1) (c := 0) (b := 0) (d := 0) ?_ ?_ (by decide) (rp_of 1 0 (by decide) (by decide) (by decide) (by decide)) (Nat.zero_le _)
    · intro t ht
      cases ht
      refine ⟨h, ?_⟩
      rw [h0] at q2
      rw [Nat.pow_zero, Nat.mul_one]; omega
    · intro t ht
      cases ht
      exact ⟨by decide, by rw [show mag 0 = 0 by decide]; simp⟩
  · obtain ⟨R, hR, hR1, hR2, hR3⟩ := tB_pos (by omega) hq
    have hw : wB b = Ieee.double.word (Fp.neg Ieee.double b) R := by unfold wB; rw [if_neg h0, hR]
    have hsw : R < Ieee.double.signWeight := by have := sw; omega
    obtain ⟨w1, w2⟩ := Fp.rung_word Ieee.double (Fp.neg Ieee.double b) hsw
    rw [hw]
    obtain ⟨n, j, D, e4, e5, e6⟩ := read_fin (b := Ieee.double.word (Fp.neg Ieee.double b) R) (by rw [w1]; exact hR1)
    have hmag : mag (Ieee.double.word (Fp.neg Ieee.double b) R) = wq b * 2 ^ nU := by unfold mag; rw [w1, hR3]
    rw [hmag] at e6
    intro t ht
    have hf' : ((Ieee.double.read b).sum (Ieee.double.read (Ieee.double.word (Fp.neg Ieee.double b) R)).opposite).map Ieee.double.write = some t := ht
    rw [e1, e4, w2] at hf'
    generalize Fp.neg Ieee.double b = s at *
    have hu : ((Datum.number s m i).sum (.number (!s) n j)).map Ieee.double.write = some t := hf'
    unfold Datum.sum at hu
    dsimp only at hu
    obtain ⟨s', hs'⟩ : ∃ s', s' = (if signed s m (i - min i j).toNat + signed (!s) n (j - min i j).toNat = 0 then s && !s else decide (signed s m (i - min i j).toNat + signed (!s) n (j - min i j).toNat < 0)) := ⟨_, rfl⟩
    have hu' : Ieee.double.nearest s' (signed s m (i - min i j).toNat + signed (!s) n (j - min i j).toNat).natAbs (min i j) = t := by rw [hs']; exact Option.some.inj hu
    obtain ⟨B, hB⟩ : ∃ B : Nat, min i j + nU = (B : Int) := ⟨(min i j + nU).toNat, by omega⟩
    have habs : (signed s m (i - min i j).toNat + signed (!s) n (j - min i j).toNat).natAbs = m * 2 ^ (i - min i j).toNat - n * 2 ^ (j - min i j).toNat := by
      have hge : n * 2 ^ (j - min i j).toNat ≤ m * 2 ^ (i - min i j).toNat := by
        refine Nat.le_of_mul_le_mul_right ?_ (Nat.two_pow_pos B)
        rw [Nat.mul_assoc, Nat.mul_assoc, ← Nat.pow_add, ← Nat.pow_add, show (j - min i j).toNat + B = D by omega, show (i - min i j).toNat + B = A by omega, e6, e3]
        exact q1
      rw [Fp.signed_sg, Fp.signed_sg]
      unfold Fp.sg
      generalize m * 2 ^ (i - min i j).toNat = x at *
      generalize n * 2 ^ (j - min i j).toNat = y at *
      cases s <;> simp <;> omega
    obtain ⟨r0, hr0, hV⟩ := rp_of (e := 1) (g := 0) 1 0 (by decide) (by decide) (by decide) (by decide)
    obtain ⟨r, hr, hn⟩ := near_le s' (m := (signed s m (i - min i j).toNat + signed (!s) n (j - min i j).toNat).natAbs) (r0 := r0) (E := B) (F := 0) (p := min i j) (by omega) hr0 (by
      rw [hV, habs, Nat.sub_mul, Nat.mul_assoc, Nat.mul_assoc, ← Nat.pow_add, ← Nat.pow_add, show (j - min i j).toNat + B = D by omega, show (i - min i j).toNat + B = A by omega, e6, e3, Nat.pow_zero, Nat.mul_one, Nat.one_mul, Nat.sub_zero]
      rw [Nat.add_mul, Nat.one_mul] at q2
      omega)
    rw [← hu', hn]
    exact out_le hr hr0 hV (Nat.zero_le _)
end Go.Proofs.Ytpeflkakljaheaa
