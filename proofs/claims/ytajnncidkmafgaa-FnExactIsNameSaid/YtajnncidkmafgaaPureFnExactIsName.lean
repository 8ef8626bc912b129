import Derived.Test.YtajnncidkmafgaaPFnExactIsNamex1
namespace Go.Proofs.Ytajnncidkmafgaa.Pure
open Go.RowKit Go.Proofs.Ytajnncidkmafgaa.PFnExactIsName Go.Proofs.YtajnncidkmafgaaW.PrintWords Go.Proofs.YtajnncidkmafgaaW.PrintLast

theorem wrap_next {i : Int} {n : Nat} (h0 : 0 ≤ i) (h : i < (n : Int)) (hn : n ≤ 140737488351232) : wrap64 (i + 1) = i + 1 := by
  unfold wrap64
  omega
/-- The letters are looked at alike; the reference looks at the length last. -/
theorem letters (s : ByteArray) (hn : s.size ≤ 140737488351232) (d : Nat) : ∀ (k : Nat) (i : Int), 0 ≤ i → i ≤ s.size → (s.size : Int) - i = d → d < k →
    ∃ b, impl_IsName.l0 k s i = some b ∧ spec_IsName.l0 k s i = some (b && (decide ((s.size : Int) ≥ 1) && decide ((s.size : Int) ≤ 8))) := by
  induction d with
  | zero =>
    intro k i h0 h1 hd hk
    obtain ⟨k, rfl⟩ : ∃ m, k = m + 1 := ⟨k - 1, by omega⟩
    refine ⟨true, ?_, ?_⟩
    · simp only [impl_IsName.l0]; rw [if_neg (by omega)]
    · simp only [spec_IsName.l0]; rw [if_neg (by omega)]
      by_cases h : (s.size : Int) ≥ 1
      · rw [if_pos h]; simp [h]
      · rw [if_neg h]; simp; omega
  | succ d ih =>
    intro k i h0 h1 hd hk
    obtain ⟨k, rfl⟩ : ∃ m, k = m + 1 := ⟨k - 1, by omega⟩
    have hlt : i < (s.size : Int) := by omega
    simp only [impl_IsName.l0, spec_IsName.l0]
    rw [if_pos hlt, if_pos hlt, if_pos h0, if_pos h0, wrap_next h0 hlt hn]
    by_cases c1 : bt s i < 97
    · rw [if_pos c1, if_pos c1]; exact ⟨false, rfl, by simp⟩
    · rw [if_neg c1, if_neg c1]
      by_cases c2 : bt s i > 122
      · rw [if_pos c2, if_pos c2]; exact ⟨false, rfl, by simp⟩
      · rw [if_neg c2, if_neg c2]
        exact ih k (i + 1) (by omega) (by omega) (by omega) (by omega)
/-- The law on names. -/
theorem FnExactIsName : laws_FnExactIsName.Pure := by
  intro s hn
  obtain ⟨b, h1, h2⟩ := letters s hn s.size (s.size + 1) 0 (by omega) (by omega) (by omega) (by omega)
  refine ⟨s.size + 1, ?_⟩
  unfold laws_FnExactIsName.f spec_IsName.f impl_IsName.f impl_size.f impl_within.f
  by_cases hb : (s.size : Int) > 1048576
  · rw [if_pos hb]
  · rw [if_neg hb, h2]
    simp only [Option.bind_some]
    by_cases c1 : (1 : Int) ≤ (s.size : Int)
    · rw [if_pos c1]
      simp only [Option.bind_some]
      by_cases c2 : (s.size : Int) ≤ 8
      · rw [if_pos (by simpa using c2), h1]
        simp only [Option.bind_some]
        rw [show decide ((s.size : Int) ≥ 1) = true by simpa using c1, show decide ((s.size : Int) ≤ 8) = true by simpa using c2]
        cases b <;> rfl
      · rw [if_neg (by simpa using c2)]
        simp only [Option.bind_some]
        rw [show decide ((s.size : Int) ≤ 8) = false by simpa using c2]
        cases b <;> simp
    · rw [if_neg c1]
      simp only [Option.bind_some]
      rw [if_neg (by decide)]
      simp only [Option.bind_some]
      rw [show decide ((s.size : Int) ≥ 1) = false by simpa using c1]
      cases b <;> simp
end Go.Proofs.Ytajnncidkmafgaa.Pure
