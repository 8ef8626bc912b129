/- Plain laws on the words of IEEE 754: how words stand to each other, what is written of what was read, what rounding keeps. Conditions: none; no program in sight. -/
import Derived.Laws.FloatBits
set_option linter.unusedVariables false
set_option linter.unusedSimpArgs false
namespace Go.Proofs.YtajnncidkmafgaaDoor.Fp
open Ieee

/-- How many least units the magnitude of a rung has. -/
def V (B r : Nat) : Nat := if r < B then r else (B + r % B) * 2 ^ (r / B - 1)
theorem V_small {B r : Nat} (h : r < B) : V B r = r := if_pos h
theorem V_big {B r : Nat} (h : B ≤ r) : V B r = (B + r % B) * 2 ^ (r / B - 1) := if_neg (by omega)
theorem V_lt {B r r' : Nat} (hB : 0 < B) (h : r < r') : V B r < V B r' := by
  by_cases h1 : r' < B
  · rw [V_small h1, V_small (by omega)]; exact h
  have hq' : 1 ≤ r' / B := (Nat.le_div_iff_mul_le hB).2 (by omega)
  have hm' : r' % B < B := Nat.mod_lt _ hB
  rw [V_big (by omega : B ≤ r')]
  by_cases h2 : r < B
  · rw [V_small h2]
    have h3 : B ≤ (B + r' % B) * 2 ^ (r' / B - 1) := Nat.le_trans (Nat.le_add_right _ _) (Nat.le_mul_of_pos_right _ (Nat.two_pow_pos _))
    omega
  have hq : 1 ≤ r / B := (Nat.le_div_iff_mul_le hB).2 (by omega)
  have hm : r % B < B := Nat.mod_lt _ hB
  rw [V_big (by omega : B ≤ r)]
  have hle : r / B ≤ r' / B := Nat.div_le_div_right (Nat.le_of_lt h)
  have e1 := Nat.div_add_mod r B
  have e2 := Nat.div_add_mod r' B
  rcases Nat.eq_or_lt_of_le hle with he | hlt
  · rw [he] at e1 ⊢
    exact Nat.mul_lt_mul_of_pos_right (by omega) (Nat.two_pow_pos _)
  · obtain ⟨d, hd⟩ : ∃ d, r' / B - 1 = (r / B - 1) + 1 + d := ⟨r' / B - 1 - (r / B - 1) - 1, by omega⟩
    rw [hd, Nat.pow_add, Nat.pow_add]
    have h4 : (B + r % B) * 2 ^ (r / B - 1) < B * (2 ^ (r / B - 1) * 2 ^ 1) := by
      rw [show B * (2 ^ (r / B - 1) * 2 ^ 1) = (2 * B) * 2 ^ (r / B - 1) by rw [Nat.pow_one, Nat.mul_comm (2 ^ _) 2, ← Nat.mul_assoc, Nat.mul_comm B 2]]
      exact Nat.mul_lt_mul_of_pos_right (by omega) (Nat.two_pow_pos _)
    refine Nat.lt_of_lt_of_le h4 ?_
    refine Nat.mul_le_mul (Nat.le_add_right _ _) (Nat.le_mul_of_pos_right _ (Nat.two_pow_pos _))
theorem V_cmp {B r r' : Nat} (hB : 0 < B) : compare (V B r) (V B r') = compare r r' := by
  rcases Nat.lt_trichotomy r r' with h | h | h
  · rw [Nat.compare_eq_lt.2 h, Nat.compare_eq_lt.2 (V_lt hB h)]
  · subst h; simp
  · rw [Nat.compare_eq_gt.2 h, Nat.compare_eq_gt.2 (V_lt hB h)]

/-- A rung with its sign. -/
def sg (s : Bool) (r : Nat) : Int := if s then -(r : Int) else r
theorem signed_sg (s : Bool) (m up : Nat) : signed s m up = sg s (m * 2 ^ up) := by
  unfold signed sg; rw [Nat.shiftLeft_eq]
theorem sg_scale (s : Bool) (a c : Nat) : sg s (a * c) = sg s a * c := by
  unfold sg; split <;> simp [Int.neg_mul]
theorem cmp_scale (x y : Int) {c : Nat} (hc : 0 < c) : compare (x * c) (y * c) = compare x y := by
  have hc' : (0 : Int) < c := by omega
  rcases Int.lt_trichotomy x y with h | h | h
  · rw [Int.compare_eq_lt.2 h, Int.compare_eq_lt.2 (Int.mul_lt_mul_of_pos_right h hc')]
  · subst h; simp
  · rw [Int.compare_eq_gt.2 h, Int.compare_eq_gt.2 (Int.mul_lt_mul_of_pos_right h hc')]
theorem sg_V_cmp {B : Nat} (hB : 0 < B) (s t : Bool) (r r' : Nat) : compare (sg s (V B r)) (sg t (V B r')) = compare (sg s r) (sg t r') := by
  have h0 : ∀ r, 0 < r → 0 < V B r := fun r hr => by have := V_lt hB hr; rw [V_small hB] at this; exact this
  have hz : V B 0 = 0 := V_small hB
  have key : ∀ a b : Nat, compare ((a : Int)) (b : Int) = compare a b := fun a b => by
    rcases Nat.lt_trichotomy a b with h | h | h
    · rw [Nat.compare_eq_lt.2 h, Int.compare_eq_lt.2 (by omega)]
    · subst h; simp
    · rw [Nat.compare_eq_gt.2 h, Int.compare_eq_gt.2 (by omega)]
  have keyn : ∀ a b : Nat, compare (-(a : Int)) (-(b : Int)) = compare b a := fun a b => by
    rcases Nat.lt_trichotomy a b with h | h | h
    · rw [Nat.compare_eq_gt.2 h, Int.compare_eq_gt.2 (by omega)]
    · subst h; simp
    · rw [Nat.compare_eq_lt.2 h, Int.compare_eq_lt.2 (by omega)]
  unfold sg
  cases s <;> cases t <;> simp only [Bool.false_eq_true, if_false, if_true]
  · rw [key, key, V_cmp hB]
  · by_cases ha : r = 0
    · subst ha
      by_cases hb : r' = 0
      · subst hb; simp [hz]
      · have := h0 r' (by omega)
        rw [hz, Int.compare_eq_gt.2 (by omega), Int.compare_eq_gt.2 (by omega)]
    · have := h0 r (by omega)
      rw [Int.compare_eq_gt.2 (by omega), Int.compare_eq_gt.2 (by omega)]
  · by_cases ha : r = 0
    · subst ha
      by_cases hb : r' = 0
      · subst hb; simp [hz]
      · have := h0 r' (by omega)
        rw [hz, Int.compare_eq_lt.2 (by omega), Int.compare_eq_lt.2 (by omega)]
    · have := h0 r (by omega)
      rw [Int.compare_eq_lt.2 (by omega), Int.compare_eq_lt.2 (by omega)]
  · rw [keyn, keyn, V_cmp hB]

def neg (f : Format) (b : Nat) : Bool := b / f.signWeight % 2 == 1
def rung (f : Format) (b : Nat) : Nat := b % f.signWeight
/-- A word as a signed rung. -/
def sr (f : Format) (b : Nat) : Int := sg (neg f b) (rung f b)

/-- What is read of a finite word is V least units. -/
theorem read_finite (f : Format) {b : Nat} (h : rung f b < f.infRung) : ∃ m i, f.read b = .number (neg f b) m i ∧ f.leastPlace ≤ i ∧ m * 2 ^ (i - f.leastPlace).toNat = V f.binade (rung f b) := by
  unfold Format.read
  dsimp only
  by_cases h1 : b % f.signWeight < f.binade
  · rw [if_pos h1]
    refine ⟨_, _, rfl, Int.le_refl _, ?_⟩
    show _ = V f.binade (b % f.signWeight)
    rw [V_small h1, Int.sub_self]; simp
  · have h2 : b % f.signWeight < f.infRung := h
    rw [if_neg h1, if_pos h2]
    refine ⟨_, _, rfl, by omega, ?_⟩
    show _ = V f.binade (b % f.signWeight)
    rw [V_big (by omega)]
    congr 2
    omega
theorem read_inf (f : Format) {b : Nat} (hB : f.binade ≤ f.infRung) (h : rung f b = f.infRung) : f.read b = .infinity (neg f b) := by
  have h' : b % f.signWeight = f.infRung := h
  unfold Format.read
  dsimp only
  rw [if_neg (by omega), if_neg (by omega), if_pos h']; rfl
theorem read_nan (f : Format) {b : Nat} (hB : f.binade ≤ f.infRung) (h : f.infRung < rung f b) : (f.read b).isNaN = true := by
  have h' : f.infRung < b % f.signWeight := h
  unfold Format.read
  dsimp only
  rw [if_neg (by omega), if_neg (by omega), if_neg (by omega)]; rfl
theorem rung_le_of_not_nan (f : Format) {b : Nat} (hB : f.binade ≤ f.infRung) (h : (f.read b).isNaN = false) : rung f b ≤ f.infRung := by
  rcases Nat.lt_or_ge f.infRung (rung f b) with h1 | h1
  · rw [read_nan f hB h1] at h; cases h
  · exact h1
theorem order_words (f : Format) (hB : 0 < f.binade) (hI : f.binade ≤ f.infRung) {a b : Nat} (ha : rung f a ≤ f.infRung) (hb : rung f b ≤ f.infRung) :
    f.order a b = some (compare (sr f a) (sr f b)) := by
  unfold Format.order sr
  have hsgle : ∀ (s : Bool) (r : Nat), r < f.infRung → -(f.infRung : Int) < sg s r ∧ sg s r < f.infRung := fun s r h => by unfold sg; split <;> omega
  rcases Nat.eq_or_lt_of_le ha with ha | ha
  · rw [read_inf f hI ha, ha]
    rcases Nat.eq_or_lt_of_le hb with hb | hb
    · rw [read_inf f hI hb, hb]
      have hp : 0 < f.infRung := by omega
      generalize neg f a = s
      generalize neg f b = t
      cases s <;> cases t <;> simp only [Datum.order, sg, Bool.toNat, Bool.false_eq_true, if_false, if_true, cond_true, cond_false] <;> congr 1
      · simp
      · rw [Nat.compare_eq_gt.2 (by omega), Int.compare_eq_gt.2 (by omega)]
      · rw [Nat.compare_eq_lt.2 (by omega), Int.compare_eq_lt.2 (by omega)]
      · simp
    · obtain ⟨m, i, he, _⟩ := read_finite f hb
      rw [he]
      have := hsgle (neg f b) _ hb
      generalize neg f a = s
      cases s <;> simp only [Datum.order, Bool.false_eq_true, if_false, if_true]
      · rw [Int.compare_eq_gt.2 (by simp only [sg, Bool.false_eq_true, if_false] at *; omega)]
      · rw [Int.compare_eq_lt.2 (by simp only [sg, if_true] at *; omega)]
  · obtain ⟨m, i, he, hi, hv⟩ := read_finite f ha
    rw [he]
    rcases Nat.eq_or_lt_of_le hb with hb | hb
    · rw [read_inf f hI hb, hb]
      have := hsgle (neg f a) _ ha
      generalize neg f b = t
      cases t <;> simp only [Datum.order, Bool.false_eq_true, if_false, if_true]
      · rw [Int.compare_eq_lt.2 (by simp only [sg, Bool.false_eq_true, if_false] at *; omega)]
      · rw [Int.compare_eq_gt.2 (by simp only [sg, if_true] at *; omega)]
    · obtain ⟨n, j, he', hj, hv'⟩ := read_finite f hb
      rw [he']
      simp only [Datum.order]
      congr 1
      rw [← sg_V_cmp hB (neg f a) (neg f b), ← hv, ← hv', signed_sg, signed_sg]
      obtain ⟨c, hc⟩ : ∃ c : Nat, min i j = f.leastPlace + c := ⟨(min i j - f.leastPlace).toNat, by omega⟩
      have e1 : (i - f.leastPlace).toNat = (i - min i j).toNat + c := by omega
      have e2 : (j - f.leastPlace).toNat = (j - min i j).toNat + c := by omega
      rw [e1, e2, Nat.pow_add, Nat.pow_add, ← Nat.mul_assoc, ← Nat.mul_assoc, sg_scale _ _ (2 ^ c), sg_scale _ _ (2 ^ c), cmp_scale _ _ (Nat.two_pow_pos c)]

/-! ### What is written of a number that the format has -/
theorem cut_exact (neg : Bool) (K d : Nat) (hK : 0 < K) : Toward.even.cut neg (K * 2 ^ d) d = K := by
  have hn : K * 2 ^ d ≠ 0 := by have := Nat.two_pow_pos d; have := Nat.mul_pos hK this; omega
  have hlog : d ≤ (K * 2 ^ d).log2 := (Nat.le_log2 hn).2 (Nat.le_mul_of_pos_left _ hK)
  unfold Toward.cut
  dsimp only
  rw [Nat.min_eq_left (by omega), Nat.one_shiftLeft, Nat.mul_div_cancel _ (Nat.two_pow_pos d), Nat.mul_mod_left]
  have hp := Nat.two_pow_pos d
  rw [show decide (2 ^ d < 2 * 0) = false by simp, show (2 ^ d == 2 * 0) = false by rw [beq_eq_false_iff_ne]; omega]
  simp
theorem cut_zero (neg : Bool) (n : Nat) : Toward.even.cut neg n 0 = n := by
  rcases Nat.eq_zero_or_pos n with h | h
  · subst h; rfl
  · have := cut_exact neg n 0 h; simpa using this
/-- The place of the last digit kept, and the number there, name the rung. -/
theorem nearest_of (f : Format) (neg : Bool) {m K : Nat} {p last : Int} (hm : 0 < m) (hK : 0 < K) (hl : last = max (p + m.log2 - f.fractionBits) f.leastPlace)
    (h : (last ≤ p ∧ K = m * 2 ^ (p - last).toNat) ∨ (p ≤ last ∧ m = K * 2 ^ (last - p).toNat)) :
    f.nearest neg m p = f.word neg (min ((last - f.leastPlace).toNat * f.binade + K) f.infRung) := by
  unfold Format.nearest
  dsimp only
  rw [if_neg (by omega), ← hl]
  congr 3
  rcases h with ⟨h1, h2⟩ | ⟨h1, h2⟩
  · rw [show (last - p).toNat = 0 by omega, cut_zero, Nat.shiftLeft_eq, ← h2]
  · rw [show (p - last).toNat = 0 by omega, Nat.shiftLeft_zero]
    conv => lhs; rw [h2]
    exact cut_exact neg K _ hK
theorem log2_mul_pow {a : Nat} (ha : 0 < a) (k : Nat) : (a * 2 ^ k).log2 = a.log2 + k := by
  have ha' : a ≠ 0 := by omega
  have h1 : a * 2 ^ k ≠ 0 := Nat.mul_ne_zero ha' (Nat.ne_of_gt (Nat.two_pow_pos k))
  apply (Nat.log2_eq_iff h1).2
  have h2 := Nat.log2_self_le ha'
  have h3 : a < 2 ^ (a.log2 + 1) := Nat.lt_log2_self
  refine ⟨by rw [Nat.pow_add]; exact Nat.mul_le_mul_right _ h2, ?_⟩
  rw [show a.log2 + k + 1 = (a.log2 + 1) + k by omega, Nat.pow_add _ (a.log2 + 1)]
  exact Nat.mul_lt_mul_of_pos_right h3 (Nat.two_pow_pos k)
/-- A number of the format (so many least units as a rung has) is written as that rung. -/
theorem nearest_exact (f : Format) (neg : Bool) {m r : Nat} {p : Int} (hr : r < f.infRung) (hr0 : 0 < r)
    (h : (f.leastPlace ≤ p ∧ m * 2 ^ (p - f.leastPlace).toNat = V f.binade r) ∨ (p ≤ f.leastPlace ∧ m = V f.binade r * 2 ^ (f.leastPlace - p).toNat)) :
    f.nearest neg m p = f.word neg r := by
  have hB : 0 < f.binade := Nat.two_pow_pos _
  have hV : 0 < V f.binade r := by have := V_lt hB hr0; rw [V_small hB] at this; exact this
  have hm : 0 < m := by
    rcases Nat.eq_zero_or_pos m with h0 | h0
    · subst h0; rcases h with ⟨_, h⟩ | ⟨_, h⟩
      · simp at h; omega
      · have := Nat.mul_pos hV (Nat.two_pow_pos (f.leastPlace - p).toNat); omega
    · exact h0
  have hlog : p + m.log2 = f.leastPlace + (V f.binade r).log2 := by
    rcases h with ⟨h1, h2⟩ | ⟨h1, h2⟩
    · rw [← h2, log2_mul_pow hm]; omega
    · rw [h2, log2_mul_pow hV]; omega
  by_cases hs : r < f.binade
  · have hv : V f.binade r = r := V_small hs
    rw [hv] at h hlog
    have hl2 : r.log2 < f.fractionBits := (Nat.log2_lt (by omega)).2 hs
    have := nearest_of f neg (m := m) (K := r) (p := p) (last := f.leastPlace) hm hr0 (by omega) (by
      rcases h with ⟨h1, h2⟩ | ⟨h1, h2⟩
      · exact .inl ⟨h1, h2.symm⟩
      · exact .inr ⟨h1, h2⟩)
    rw [this]
    congr 1
    rw [Int.sub_self]; simp; omega
  · have hq : 1 ≤ r / f.binade := (Nat.le_div_iff_mul_le hB).2 (by omega)
    have hv : V f.binade r = (f.binade + r % f.binade) * 2 ^ (r / f.binade - 1) := V_big (by omega)
    have hmod := Nat.mod_lt r hB
    have hdm := Nat.div_add_mod r f.binade
    have hl3 : (f.binade + r % f.binade).log2 = f.fractionBits := by
      apply (Nat.log2_eq_iff (by omega)).2
      have e : f.binade = 2 ^ f.fractionBits := rfl
      rw [Nat.pow_succ, ← e]; omega
    rw [hv] at h hlog
    rw [log2_mul_pow (by omega), hl3] at hlog
    generalize hQ : r / f.binade - 1 = Q at *
    have hK : 0 < f.binade + r % f.binade := by omega
    have := nearest_of f neg (m := m) (K := f.binade + r % f.binade) (p := p) (last := f.leastPlace + Q) hm hK (by omega) (by
      rcases h with ⟨h1, h2⟩ | ⟨h1, h2⟩
      · rcases Int.le_total (f.leastPlace + Q) p with h3 | h3
        · refine .inl ⟨h3, ?_⟩
          have e : (p - f.leastPlace).toNat = (p - (f.leastPlace + Q)).toNat + Q := by omega
          rw [e, Nat.pow_add, ← Nat.mul_assoc] at h2
          exact (Nat.eq_of_mul_eq_mul_right (Nat.two_pow_pos Q) h2).symm
        · refine .inr ⟨h3, ?_⟩
          have e : Q = (f.leastPlace + Q - p).toNat + (p - f.leastPlace).toNat := by omega
          rw [e, Nat.pow_add, ← Nat.mul_assoc] at h2
          have h5 := Nat.eq_of_mul_eq_mul_right (Nat.two_pow_pos _) h2
          exact h5
      · refine .inr ⟨by omega, ?_⟩
        have e : (f.leastPlace + Q - p).toNat = Q + (f.leastPlace - p).toNat := by omega
        rw [e, Nat.pow_add, ← Nat.mul_assoc]; exact h2)
    rw [this]
    congr 1
    rw [show (f.leastPlace + (Q : Int) - f.leastPlace).toNat = Q by omega]
    have : Q * f.binade + f.binade = f.binade * (r / f.binade) := by
      rw [← Nat.succ_mul, Nat.mul_comm]; congr 1; omega
    omega
theorem nearest_zero (f : Format) (neg : Bool) (p : Int) : f.nearest neg 0 p = f.word neg 0 := by
  unfold Format.nearest; rfl
theorem word_parts (f : Format) {b : Nat} (hb : b < 2 * f.signWeight) : f.word (neg f b) (rung f b) = b := by
  have hp : 0 < f.signWeight := Nat.two_pow_pos _
  unfold Format.word neg rung
  have h1 := Nat.div_add_mod b f.signWeight
  have h2 : b / f.signWeight < 2 := (Nat.div_lt_iff_lt_mul hp).2 hb
  rcases Nat.eq_zero_or_pos (b / f.signWeight) with h | h
  · rw [h]; simp; rw [h] at h1; omega
  · have h3 : b / f.signWeight = 1 := by omega
    rw [h3]; simp; rw [h3] at h1; omega
theorem rung_word (f : Format) (s : Bool) {r : Nat} (h : r < f.signWeight) : rung f (f.word s r) = r ∧ neg f (f.word s r) = s := by
  have hp : 0 < f.signWeight := Nat.two_pow_pos _
  unfold rung neg Format.word
  cases s
  · simp [Nat.div_eq_of_lt h, Nat.mod_eq_of_lt h]
  · simp [Nat.add_div_left _ hp, Nat.div_eq_of_lt h, Nat.mod_eq_of_lt h]
/-- What was read of a word that is no not-a-number, written again, is that word. -/
theorem write_read (f : Format) (hI : f.binade ≤ f.infRung) {b : Nat} (hb : b < 2 * f.signWeight) (hr : rung f b ≤ f.infRung) : f.write (f.read b) = b := by
  rcases Nat.eq_or_lt_of_le hr with h | h
  · rw [read_inf f hI h]
    show f.word (neg f b) f.infRung = b
    rw [← h]; exact word_parts f hb
  · obtain ⟨m, i, he, hi, hv⟩ := read_finite f h
    rw [he]
    show f.nearest (neg f b) m i = b
    rcases Nat.eq_zero_or_pos (rung f b) with h0 | h0
    · rw [h0] at hv
      have hB : 0 < f.binade := Nat.two_pow_pos _
      rw [V_small hB] at hv
      have : m = 0 := by
        rcases Nat.mul_eq_zero.1 hv with h | h
        · exact h
        · exact absurd h (Nat.ne_of_gt (Nat.two_pow_pos _))
      subst this
      rw [nearest_zero, ← h0]; exact word_parts f hb
    · rw [nearest_exact f (neg f b) h h0 (.inl ⟨hi, hv⟩)]; exact word_parts f hb
end Go.Proofs.YtajnncidkmafgaaDoor.Fp
