/- Rounding is monotone: a number below a rung is rounded to no more than that rung, one above it to no less. Conditions: none. -/
import Derived.Test.YtpeflkakljaheaaFw
set_option linter.unusedVariables false
set_option linter.unusedSimpArgs false
namespace Go.Proofs.Ytpeflkakljaheaa
open Go.RowKit Ieee
namespace Fb

theorem cut_form (s : Bool) (n d : Nat) : Toward.even.cut s n d = n / 2 ^ min d (n.log2 + 2) + (decide (2 ^ min d (n.log2 + 2) < 2 * (n % 2 ^ min d (n.log2 + 2))) || (2 ^ min d (n.log2 + 2) == 2 * (n % 2 ^ min d (n.log2 + 2)) && n / 2 ^ min d (n.log2 + 2) % 2 == 1)).toNat := by
  unfold Toward.cut
  dsimp only
  rw [Nat.one_shiftLeft]
theorem cut_le {s : Bool} {n d K : Nat} (h : n ≤ K * 2 ^ d) : Toward.even.cut s n d ≤ K := by
  rw [cut_form]
  rcases Nat.lt_or_ge (n.log2 + 2) d with hd | hd
  · rw [Nat.min_eq_right (Nat.le_of_lt hd)]
    have h1 : n < 2 ^ (n.log2 + 1) := Nat.lt_log2_self
    have h2 : 2 ^ (n.log2 + 2) = 2 * 2 ^ (n.log2 + 1) := by rw [Nat.pow_succ 2 (n.log2 + 1), Nat.mul_comm]
    have h3 : n < 2 ^ (n.log2 + 2) := by omega
    rw [Nat.div_eq_of_lt h3, Nat.mod_eq_of_lt h3]
    rw [show decide (2 ^ (n.log2 + 2) < 2 * n) = false by rw [decide_eq_false_iff_not]; omega, show ((2 ^ (n.log2 + 2) == 2 * n) = false) by rw [beq_eq_false_iff_ne]; omega]
    simp
  · rw [Nat.min_eq_left hd]
    have hp := Nat.two_pow_pos d
    have h1 := Nat.div_add_mod n (2 ^ d)
    generalize hg : 2 ^ d = g at *
    have h2 : n / g ≤ K := by
      have := Nat.div_le_div_right (c := g) h
      rwa [Nat.mul_div_cancel _ hp] at this
    rcases Nat.eq_or_lt_of_le h2 with h3 | h3
    · have h4 : n % g = 0 := by rw [h3, Nat.mul_comm] at h1; omega
      rw [h4, h3]
      rw [show decide (g < 2 * 0) = false by simp, show (g == 2 * 0) = false by rw [beq_eq_false_iff_ne]; omega]
      simp
    · have := Bool.toNat_le (decide (g < 2 * (n % g)) || (g == 2 * (n % g) && n / g % 2 == 1))
      omega
theorem le_cut {s : Bool} {n d K : Nat} (h : K * 2 ^ d ≤ n) : K ≤ Toward.even.cut s n d := by
  rw [cut_form]
  rcases Nat.lt_or_ge (n.log2 + 2) d with hd | hd
  · have h1 : n < 2 ^ (n.log2 + 1) := Nat.lt_log2_self
    have h2 : 2 ^ (n.log2 + 1) ≤ 2 ^ d := Nat.pow_le_pow_right (by decide) (by omega)
    have h3 : K = 0 := by
      rcases Nat.eq_zero_or_pos K with h | h
      · exact h
      · have := Nat.mul_le_mul_right (2 ^ d) (show 1 ≤ K from h); omega
    rw [h3]; exact Nat.zero_le _
  · rw [Nat.min_eq_left hd]
    have := Nat.div_le_div_right (c := 2 ^ d) h
    rw [Nat.mul_div_cancel _ (Nat.two_pow_pos d)] at this
    omega

/-- The shape of a rounded number: how far the last place kept lies above the least, and what is kept. -/
theorem nearest_form (f : Format) (s : Bool) {m : Nat} {p : Int} (hm : 0 < m) :
    ∃ q kept, f.nearest s m p = f.word s (min (q * f.binade + kept) f.infRung) ∧
      (q = 0 → (m * 2 ^ (p - f.leastPlace).toNat).log2 ≤ f.fractionBits + (f.leastPlace - p).toNat) ∧ (0 < q → (m * 2 ^ (p - f.leastPlace).toNat).log2 = q + f.fractionBits + (f.leastPlace - p).toNat) ∧
      (∀ K, m * 2 ^ (p - f.leastPlace).toNat ≤ K * 2 ^ (q + (f.leastPlace - p).toNat) → kept ≤ K) ∧ (∀ K, K * 2 ^ (q + (f.leastPlace - p).toNat) ≤ m * 2 ^ (p - f.leastPlace).toNat → K ≤ kept) := by
  generalize hL : f.leastPlace = L
  have hlog := Fp.log2_mul_pow hm (p - L).toNat
  generalize hM : (m * 2 ^ (p - L).toNat).log2 = lg at *
  refine ⟨(max (p + m.log2 - f.fractionBits) L - L).toNat, Toward.even.cut s (m <<< (p - max (p + m.log2 - f.fractionBits) L).toNat) (max (p + m.log2 - f.fractionBits) L - p).toNat, ?_, ?_, ?_, ?_, ?_⟩
  · unfold Format.nearest
    dsimp only
    rw [if_neg (by omega), hL]
  · intro h; omega
  · intro h; omega
  · intro K hK
    generalize hlast : max (p + m.log2 - f.fractionBits) L = last at *
    rcases Int.le_total p last with h | h
    · rw [show (p - last).toNat = 0 by omega, Nat.shiftLeft_zero]
      refine cut_le ?_
      rw [show (last - L).toNat + (L - p).toNat = (last - p).toNat + (p - L).toNat by omega, Nat.pow_add, ← Nat.mul_assoc] at hK
      exact Nat.le_of_mul_le_mul_right hK (Nat.two_pow_pos _)
    · rw [show (last - p).toNat = 0 by omega, Nat.shiftLeft_eq]
      refine cut_le ?_
      rw [show (last - L).toNat + (L - p).toNat = (last - L).toNat by omega, show (p - L).toNat = (p - last).toNat + (last - L).toNat by omega, Nat.pow_add, ← Nat.mul_assoc] at hK
      simpa using Nat.le_of_mul_le_mul_right hK (Nat.two_pow_pos _)
  · intro K hK
    generalize hlast : max (p + m.log2 - f.fractionBits) L = last at *
    rcases Int.le_total p last with h | h
    · rw [show (p - last).toNat = 0 by omega, Nat.shiftLeft_zero]
      refine le_cut ?_
      rw [show (last - L).toNat + (L - p).toNat = (last - p).toNat + (p - L).toNat by omega, Nat.pow_add, ← Nat.mul_assoc] at hK
      exact Nat.le_of_mul_le_mul_right hK (Nat.two_pow_pos _)
    · rw [show (last - p).toNat = 0 by omega, Nat.shiftLeft_eq]
      refine le_cut ?_
      rw [show (last - L).toNat + (L - p).toNat = (last - L).toNat by omega, show (p - L).toNat = (p - last).toNat + (last - L).toNat by omega, Nat.pow_add, ← Nat.mul_assoc] at hK
      simpa using Nat.le_of_mul_le_mul_right hK (Nat.two_pow_pos _)
theorem nearest_le (f : Format) (s : Bool) {m r0 : Nat} {p : Int} (hr : r0 < f.infRung) (h : m * 2 ^ (p - f.leastPlace).toNat ≤ Fp.V f.binade r0 * 2 ^ (f.leastPlace - p).toNat) : ∃ r, r ≤ r0 ∧ f.nearest s m p = f.word s r := by
  rcases Nat.eq_zero_or_pos m with h0 | hm
  · subst h0; exact ⟨0, Nat.zero_le _, Fp.nearest_zero _ _ _⟩
  · obtain ⟨q, kept, he, hq0, hq1, hk, _⟩ := nearest_form f s (p := p) hm
    generalize (f.leastPlace - p).toNat = c at *
    generalize hM : m * 2 ^ (p - f.leastPlace).toNat = M at *
    have hM0 : M ≠ 0 := by rw [← hM]; exact Nat.ne_of_gt (Nat.mul_pos hm (Nat.two_pow_pos _))
    have eB : f.binade = 2 ^ f.fractionBits := rfl
    have hB : 0 < f.binade := Nat.two_pow_pos _
    have hself := Nat.log2_self_le hM0
    have hlt : M < 2 ^ (M.log2 + 1) := Nat.lt_log2_self
    refine ⟨_, ?_, he⟩
    refine Nat.le_trans (Nat.min_le_left _ _) ?_
    by_cases hs : r0 < f.binade
    · rw [Fp.V_small hs] at h
      have h1 : M < 2 ^ (f.fractionBits + c) := by
        rw [Nat.pow_add, ← eB]
        exact Nat.lt_of_le_of_lt h (Nat.mul_lt_mul_of_pos_right hs (Nat.two_pow_pos c))
      have h2 : M.log2 < f.fractionBits + c := (Nat.log2_lt hM0).2 h1
      have h3 : q = 0 := by omega
      subst h3
      have := hk r0 (by simpa using h)
      omega
    · have hq := (Nat.le_div_iff_mul_le hB).2 (show 1 * f.binade ≤ r0 by omega)
      have hmod := Nat.mod_lt r0 hB
      have hdm := Nat.div_add_mod r0 f.binade
      rw [Fp.V_big (by omega)] at h
      obtain ⟨e0, he0⟩ : ∃ e0, r0 / f.binade = e0 + 1 := ⟨r0 / f.binade - 1, by omega⟩
      rw [he0] at h hdm
      rw [Nat.add_sub_cancel, Nat.mul_assoc, ← Nat.pow_add] at h
      have hr0 : r0 = e0 * f.binade + f.binade + r0 % f.binade := by rw [Nat.mul_add, Nat.mul_comm f.binade e0] at hdm; omega
      have h1 : M < 2 ^ (f.fractionBits + 1 + (e0 + c)) := by
        rw [Nat.pow_add 2 (f.fractionBits + 1)]
        refine Nat.lt_of_le_of_lt h (Nat.mul_lt_mul_of_pos_right ?_ (Nat.two_pow_pos _))
        rw [Nat.pow_succ, ← eB]; omega
      have h2 : M.log2 < f.fractionBits + 1 + (e0 + c) := (Nat.log2_lt hM0).2 h1
      have h3 : q ≤ e0 := by omega
      rcases Nat.eq_or_lt_of_le h3 with h4 | h4
      · subst h4
        have := hk _ h
        omega
      · have h5 : M ≤ 2 * f.binade * 2 ^ (q + c) := by
          have e : 2 * f.binade * 2 ^ (q + c) = 2 ^ (f.fractionBits + 1 + (q + c)) := by rw [Nat.pow_add 2 (f.fractionBits + 1), Nat.pow_succ, ← eB, Nat.mul_comm 2]
          rw [e]
          refine Nat.le_trans (Nat.le_of_lt hlt) (Nat.pow_le_pow_right (by decide) ?_)
          omega
        have h6 := hk _ h5
        have h7 : (q + 1) * f.binade ≤ e0 * f.binade := Nat.mul_le_mul_right _ h4
        rw [Nat.add_mul] at h7
        omega
theorem nearest_ge (f : Format) (s : Bool) {m r0 : Nat} {p : Int} (hm : 0 < m) (hr : r0 ≤ f.infRung) (h : Fp.V f.binade r0 * 2 ^ (f.leastPlace - p).toNat ≤ m * 2 ^ (p - f.leastPlace).toNat) : ∃ r, r0 ≤ r ∧ r ≤ f.infRung ∧ f.nearest s m p = f.word s r := by
  obtain ⟨q, kept, he, hq0, hq1, _, hk⟩ := nearest_form f s (p := p) hm
  generalize (f.leastPlace - p).toNat = c at *
  generalize hM : m * 2 ^ (p - f.leastPlace).toNat = M at *
  have hM0 : M ≠ 0 := by rw [← hM]; exact Nat.ne_of_gt (Nat.mul_pos hm (Nat.two_pow_pos _))
  have eB : f.binade = 2 ^ f.fractionBits := rfl
  have hB : 0 < f.binade := Nat.two_pow_pos _
  have hself := Nat.log2_self_le hM0
  refine ⟨_, ?_, Nat.min_le_right _ _, he⟩
  refine Nat.le_min.2 ⟨?_, hr⟩
  have big : 0 < q → f.binade ≤ kept := fun h0 => by
    refine hk _ ?_
    rw [eB, ← Nat.pow_add]
    refine Nat.le_trans (Nat.pow_le_pow_right (by decide) ?_) hself
    have := hq1 h0
    omega
  by_cases hs : r0 < f.binade
  · rw [Fp.V_small hs] at h
    rcases Nat.eq_zero_or_pos q with h0 | h0
    · subst h0
      have := hk r0 (by simpa using h)
      omega
    · have := big h0
      omega
  · have hq := (Nat.le_div_iff_mul_le hB).2 (show 1 * f.binade ≤ r0 by omega)
    have hmod := Nat.mod_lt r0 hB
    have hdm := Nat.div_add_mod r0 f.binade
    rw [Fp.V_big (by omega)] at h
    obtain ⟨e0, he0⟩ : ∃ e0, r0 / f.binade = e0 + 1 := ⟨r0 / f.binade - 1, by omega⟩
    rw [he0] at h hdm
    rw [Nat.add_sub_cancel, Nat.mul_assoc, ← Nat.pow_add] at h
    have hr0 : r0 = e0 * f.binade + f.binade + r0 % f.binade := by rw [Nat.mul_add, Nat.mul_comm f.binade e0] at hdm; omega
    have h1 : 2 ^ (f.fractionBits + (e0 + c)) ≤ M := by
      rw [Nat.pow_add 2 f.fractionBits, ← eB]
      exact Nat.le_trans (Nat.mul_le_mul_right _ (Nat.le_add_right _ _)) h
    have h2 : f.fractionBits + (e0 + c) ≤ M.log2 := (Nat.le_log2 hM0).2 h1
    have h3 : e0 ≤ q := by omega
    rcases Nat.eq_or_lt_of_le h3 with h4 | h4
    · subst h4
      have := hk _ h
      omega
    · have h5 := big (by omega)
      have h7 : (e0 + 1) * f.binade ≤ q * f.binade := Nat.mul_le_mul_right _ h4
      rw [Nat.add_mul] at h7
      omega
end Fb
end Go.Proofs.Ytpeflkakljaheaa
