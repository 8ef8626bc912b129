import Derived.Test.YtajnncidkmafgaaPFnExactCheckOfx1
namespace Go.Proofs.Ytajnncidkmafgaa.Pure
open Go.RowKit Go.Proofs.Ytajnncidkmafgaa.PFnExactCheckOf Go.Proofs.YtajnncidkmafgaaW.PrintWords Go.Proofs.YtajnncidkmafgaaW.PrintLast

theorem wrap_next {i : Int} {n : Nat} (h0 : 0 ≤ i) (h : i < (n : Int)) (hn : n ≤ 140737488351232) : wrap64 (i + 1) = i + 1 := by
  unfold wrap64
  omega
/-- Both tell the same check number. -/
theorem checks (s : ByteArray) (hn : s.size ≤ 140737488351232) (d : Nat) : ∀ (k : Nat) (x i : Int), 0 ≤ i → i ≤ s.size → (s.size : Int) - i = d → d < k →
    ∃ r, spec_l01Check.l0 k x s i = some r ∧ impl_CheckOf.l0 k x s i = some (r, true) := by
  induction d with
  | zero =>
    intro k x i h0 h1 hd hk
    obtain ⟨k, rfl⟩ : ∃ m, k = m + 1 := ⟨k - 1, by omega⟩
    refine ⟨x, ?_, ?_⟩
    · simp only [spec_l01Check.l0]; rw [if_neg (by omega)]
    · simp only [impl_CheckOf.l0]; rw [if_neg (by omega)]
  | succ d ih =>
    intro k x i h0 h1 hd hk
    obtain ⟨k, rfl⟩ : ∃ m, k = m + 1 := ⟨k - 1, by omega⟩
    have hlt : i < (s.size : Int) := by omega
    simp only [impl_CheckOf.l0, spec_l01Check.l0]
    rw [if_pos hlt, if_pos hlt, if_pos h0, if_pos h0, wrap_next h0 hlt hn]
    exact ih k _ (i + 1) (by omega) (by omega) (by omega) (by omega)
/-- The law on check numbers. -/
theorem FnExactCheckOf : laws_FnExactCheckOf.Pure := by
  intro a s ha hn
  obtain ⟨r, h1, h2⟩ := checks s hn s.size (s.size + 1) a 0 (by omega) (by omega) (by omega) (by omega)
  refine ⟨s.size + 1, ?_⟩
  unfold laws_FnExactCheckOf.f spec_CheckOf.f impl_CheckOf.f spec_l01Check.f spec_l00In.f impl_within.f
  by_cases hb : (s.size : Int) > 1048576
  · rw [if_pos hb]
  · rw [if_neg hb, h1, h2]
    by_cases c1 : 0 ≤ a
    · by_cases c2 : a ≤ 65002
      · simp [c1, c2]
      · simp [c1, c2]
    · simp [c1]
end Go.Proofs.Ytajnncidkmafgaa.Pure
