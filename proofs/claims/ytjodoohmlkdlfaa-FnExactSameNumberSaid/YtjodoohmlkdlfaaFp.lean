/- Plain laws on the words of IEEE 754: how words stand to each other, what is written of what was read, what rounding keeps. Conditions: none; no program in sight. -/
import Derived.Laws.FloatBits
set_option linter.unusedVariables false
set_option linter.unusedSimpArgs false
namespace Go.Proofs.Ytjodoohmlkdlfaa.Fp
open Ieee

/-- How many least units the magnitude of a rung has. -/
def V (B r : Nat) : Nat := if r < B then r else (B + r % B) * 2 ^ (r / B - 1)
theorem V_small {B r : Nat} (h : r < B) : V B r = r := if_pos h
theorem V_big {B r : Nat} (h : B ≤ r) : V B r = (B + r % B) * 2 ^ (r / B - 1) := if_neg (by omega)
theorem V_lt {B r r' : Nat} (hB : 0 < B) (h : r < r') : V B r < V B r' := by
  by_cases h1 : r' < B
  · rw [V_small h1, V_small (by omega)]; exact h
  have hq' : 1 ≤ r' / B := (Nat.le_div_iff_mul_le hB).2 (by omega)
  have hm' : r' % B < B := Nat.mod_lt _ hB
  rw [V_big (by omega : B ≤ r')]
  by_cases h2 : r < B
  · rw [V_small h2]
    have h3 : B ≤ (B + r' % B) * 2 ^ (r' / B - 1) := Nat.le_trans (Nat.le_add_right _ _) (Nat.le_mul_of_pos_right _ (Nat.two_pow_pos _))
    omega
  have hq : 1 ≤ r / B := (Nat.le_div_iff_mul_le hB).2 (by omega)
  have hm : r % B < B := Nat.mod_lt _ hB
  rw [V_big (by omega : B ≤ r)]
  have hle : r / B ≤ r' / B := Nat.div_le_div_right (Nat.le_of_lt h)
  have e1 := Nat.div_add_mod r B
  have e2 := Nat.div_add_mod r' B
  rcases Nat.eq_or_lt_of_le hle with he | hlt
  · rw [he] at e1 ⊢
    exact Nat.mul_lt_mul_of_pos_right (by omega) (Nat.two_pow_pos _)
  · obtain ⟨d, hd⟩ : ∃ d, r' / B - 1 = (r / B - 1) + 1 + d := ⟨r' / B - 1 - (r / B - 1) - 1, by omega⟩
    rw [hd, Nat.pow_add, Nat.pow_add]
    have h4 : (B + r % B) * 2 ^ (r / B - 1) < B * (2 ^ (r / B - 1) * 2 ^ 1) := by
      rw [show B * (2 ^ (r / B - 1) * 2 ^ 1) = (2 * B) * 2 ^ (r / B - 1) by rw [Nat.pow_one, Nat.mul_comm (2 ^ _) 2, ← Nat.mul_assoc, Nat.mul_comm B 2]]
      exact Nat.mul_lt_mul_of_pos_right (by omega) (Nat.two_pow_pos _)
    refine Nat.lt_of_lt_of_le h4 ?_
    refine Nat.mul_le_mul (Nat.le_add_right _ _) (Nat.le_mul_of_pos_right _ (Nat.two_pow_pos _))
theorem V_cmp {B r r' : Nat} (hB : 0 < B) : compare (V B r) (V B r') = compare r r' := by
  rcases Nat.lt_trichotomy r r' with h | h | h
  · rw [Nat.compare_eq_lt.2 h, Nat.compare_eq_lt.2 (V_lt hB h)]
  · subst h; simp
  · rw [Nat.compare_eq_gt.2 h, Nat.compare_eq_gt.2 (V_lt hB h)]

/-- A rung with its sign. -/
def sg (s : Bool) (r : Nat) : Int := if s then -(r : Int) else r
theorem signed_sg (s : Bool) (m up : Nat) : signed s m up = sg s (m * 2 ^ up) := by
  unfold signed sg; rw [Nat.shiftLeft_eq]
theorem sg_scale (s : Bool) (a c : Nat) : sg s (a * c) = sg s a * c := by
  unfold sg; split <;> simp [Int.neg_mul]
theorem cmp_scale (x y : Int) {c : Nat} (hc : 0 < c) : compare (x * c) (y * c) = compare x y := by
  have hc' : (0 : Int) < c := by omega
  rcases Int.lt_trichotomy x y with h | h | h
  · rw [Int.compare_eq_lt.2 h, Int.compare_eq_lt.2 (Int.mul_lt_mul_of_pos_right h hc')]
  · subst h; simp
  · rw [Int.compare_eq_gt.2 h, Int.compare_eq_gt.2 (Int.mul_lt_mul_of_pos_right h hc')]
theorem sg_V_cmp {B : Nat} (hB : 0 < B) (s t : Bool) (r r' : Nat) : compare (sg s (V B r)) (sg t (V B r')) = compare (sg s r) (sg t r') := by
  have h0 : ∀ r, 0 < r → 0 < V B r := fun r hr => by have := V_lt hB hr; rw [V_small hB] at this; exact this
  have hz : V B 0 = 0 := V_small hB
  have key : ∀ a b : Nat, compare ((a : Int)) (b : Int) = compare a b := fun a b => by
    rcases Nat.lt_trichotomy a b with h | h | h
    · rw [Nat.compare_eq_lt.2 h, Int.compare_eq_lt.2 (by omega)]
    · subst h; simp
    · rw [Nat.compare_eq_gt.2 h, Int.compare_eq_gt.2 (by omega)]
  have keyn : ∀ a b : Nat, compare (-(a : Int)) (-(b : Int)) = compare b a := fun a b => by
    rcases Nat.lt_trichotomy a b with h | h | h
    · rw [Nat.compare_eq_gt.2 h, Int.compare_eq_gt.2 (by omega)]
    · subst h; simp
    · rw [Nat.compare_eq_lt.2 h, Int.compare_eq_lt.2 (by omega)]
  unfold sg
  cases s <;> cases t <;> simp only [Bool.false_eq_true, if_false, if_true]
  · rw [key, key, V_cmp hB]
  · by_cases ha : r = 0
    · subst ha
      by_cases hb : r' = 0
      · subst hb; simp [hz]
      · have := h0 r' (by omega)
        rw [hz, Int.compare_eq_gt.2 (by omega), Int.compare_eq_gt.2 (by omega)]
    · have := h0 r (by omega)
      rw [Int.compare_eq_gt.2 (by omega), Int.compare_eq_gt.2 (by omega)]
  · by_cases ha : r = 0
    · subst ha
      by_cases hb : r' = 0
      · subst hb; simp [hz]
      · have := h0 r' (by omega)
        rw [hz, Int.compare_eq_lt.2 (by omega), Int.compare_eq_lt.2 (by omega)]
    · have := h0 r (by omega)
      rw [Int.compare_eq_lt.2 (by omega), Int.compare_eq_lt.2 (by omega)]
  · rw [keyn, keyn, V_cmp hB]

def neg (f : Format) (b : Nat) : Bool := b / f.signWeight % 2 == 1
def rung (f : Format) (b : Nat) : Nat := b % f.signWeight
/-- A word as a signed rung. -/
def sr (f : Format) (b : Nat) : Int := sg (neg f b) (rung f b)

/-- What is read of a finite word is V least units. -/
theorem read_finite (f : Format) {b : Nat} (h : rung f b < f.infRung) : ∃ m i, f.read b = .number (neg f b) m i ∧ f.leastPlace ≤ i ∧ m * 2 ^ (i - f.leastPlace).toNat = V f.binade (rung f b) := by
  unfold Format.read
  dsimp only
  by_cases h1 : b % f.signWeight < f.binade
  · rw [if_pos h1]
    refine ⟨_, _, rfl, Int.le_refl _, ?_⟩
    show _ = V f.binade (b % f.signWeight)
    rw [V_small h1, Int.sub_self]; simp
  · have h2 : b % f.signWeight < f.infRung := h
    rw [if_neg h1, if_pos h2]
    refine ⟨_, _, rfl, by omega, ?_⟩
    show _ = V f.binade (b % f.signWeight)
    rw [V_big (by omega)]
    congr 2
    omega
theorem read_inf (f : Format) {b : Nat} (hB : f.binade ≤ f.infRung) (h : rung f b = f.infRung) : f.read b = .infinity (neg f b) := by
  have h' : b % f.signWeight = f.infRung := h
  unfold Format.read
  dsimp only
  rw [if_neg (by omega), if_neg (by omega), if_pos h']; rfl
theorem read_nan (f : Format) {b : Nat} (hB : f.binade ≤ f.infRung) (h : f.infRung < rung f b) : (f.read b).isNaN = true := by
  have h' : f.infRung < b % f.signWeight := h
  unfold Format.read
  dsimp only
  rw [if_neg (by omega), if_neg (by omega), if_neg (by omega)]; rfl
theorem rung_le_of_not_nan (f : Format) {b : Nat} (hB : f.binade ≤ f.infRung) (h : (f.read b).isNaN = false) : rung f b ≤ f.infRung := by
  rcases Nat.lt_or_ge f.infRung (rung f b) with h1 | h1
  · rw [read_nan f hB h1] at h; cases h
  · exact h1
theorem order_words (f : Format) (hB : 0 < f.binade) (hI : f.binade ≤ f.infRung) {a b : Nat} (ha : rung f a ≤ f.infRung) (hb : rung f b ≤ f.infRung) :
    f.order a b = some (compare (sr f a) (sr f b)) := by
  unfold Format.order sr
  have hsgle : ∀ (s : Bool) (r : Nat), r < f.infRung → -(f.infRung : Int) < sg s r ∧ sg s r < f.infRung := fun s r h => by unfold sg; split <;> omega
  rcases Nat.eq_or_lt_of_le ha with ha | ha
  · rw [read_inf f hI ha, ha]
    rcases Nat.eq_or_lt_of_le hb with hb | hb
    · rw [read_inf f hI hb, hb]
      have hp : 0 < f.infRung := by omega
      generalize neg f a = s
      generalize neg f b = t
      cases s <;> cases t <;> simp only [Datum.order, sg, Bool.toNat, Bool.false_eq_true, if_false, if_true, cond_true, cond_false] <;> congr 1
      · simp
      · rw [Nat.compare_eq_gt.2 (by omega), Int.compare_eq_gt.2 (by omega)]
      · rw [Nat.compare_eq_lt.2 (by omega), Int.compare_eq_lt.2 (by omega)]
      · simp
    · obtain ⟨m, i, he, _⟩ := read_finite f hb
      rw [he]
      have := hsgle (neg f b) _ hb
      generalize neg f a = s
      cases s <;> simp only [Datum.order, Bool.false_eq_true, if_false, if_true]
      · rw [Int.compare_eq_gt.2 (by simp only [sg, Bool.false_eq_true, if_false] at *; omega)]
      · rw [Int.compare_eq_lt.2 (by simp only [sg, if_true] at *; omega)]
  · obtain ⟨m, i, he, hi, hv⟩ := read_finite f ha
    rw [he]
    rcases Nat.eq_or_lt_of_le hb with hb | hb
    · rw [read_inf f hI hb, hb]
      have := hsgle (neg f a) _ ha
      generalize neg f b = t
      cases t <;> simp only [Datum.order, Bool.false_eq_true, if_false, if_true]
      · rw [Int.compare_eq_lt.2 (by simp only [sg, Bool.false_eq_true, if_false] at *; omega)]
      · rw [Int.compare_eq_gt.2 (by simp only [sg, if_true] at *; omega)]
    · obtain ⟨n, j, he', hj, hv'⟩ := read_finite f hb
      rw [he']
      simp only [Datum.order]
      congr 1
      rw [← sg_V_cmp hB (neg f a) (neg f b), ← hv, ← hv', signed_sg, signed_sg]
      obtain ⟨c, hc⟩ : ∃ c : Nat, min i j = f.leastPlace + c := ⟨(min i j - f.leastPlace).toNat, by omega⟩
      have e1 : (i - f.leastPlace).toNat = (i - min i j).toNat + c := by omega
      have e2 : (j - f.leastPlace).toNat = (j - min i j).toNat + c := by omega
      rw [e1, e2, Nat.pow_add, Nat.pow_add, ← Nat.mul_assoc, ← Nat.mul_assoc, sg_scale _ _ (2 ^ c), sg_scale _ _ (2 ^ c), cmp_scale _ _ (Nat.two_pow_pos c)]
end Go.Proofs.Ytjodoohmlkdlfaa.Fp
