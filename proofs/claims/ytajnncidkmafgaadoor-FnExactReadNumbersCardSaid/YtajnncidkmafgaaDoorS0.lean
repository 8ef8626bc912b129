/- Texts cut at a mark: plain laws, no program in sight. Conditions: none. -/
import Derived.Lib.SplitLaws
set_option linter.unusedVariables false
set_option linter.unusedSimpArgs false
namespace Go.Proofs.YtajnncidkmafgaaDoor
def cutG (m : UInt8) : List UInt8 → List UInt8 → List (List UInt8)
  | cur, [] => [cur]
  | cur, b :: r => if b = m then cur :: cutG m [] r else cutG m (cur ++ [b]) r
/-- The parts of a text between marks. -/
def cutT (m : UInt8) (l : List UInt8) : List (List UInt8) := cutG m [] l
theorem split_nil (m : UInt8) : Lib.split [] [m] = [[]] := by
  rw [Lib.split, Lib.count_miss (by simp [Lib.index])]; rfl
theorem split_eq (m : UInt8) (r : List UInt8) : Lib.split (m :: r) [m] = [] :: Lib.split r [m] := by
  have hix : Lib.index (m :: r) [m] = ((0 : Nat) : Int) := by rw [Lib.index]; simp [List.isPrefixOf]
  rw [Lib.split, Lib.count_cons_eq, Nat.add_comm, Lib.splitK, if_neg (by rw [hix]; decide), hix]
  simp [Lib.split]
theorem split_ne {b m : UInt8} (h : b ≠ m) (r : List UInt8) : ∃ x t, Lib.split r [m] = x :: t ∧ Lib.split (b :: r) [m] = (b :: x) :: t := by
  have hp : ([m] : List UInt8).isPrefixOf (b :: r) = false := by simp [List.isPrefixOf, Ne.symm h]
  have hix : Lib.index (b :: r) [m] = if Lib.index r [m] == -1 then -1 else Lib.index r [m] + 1 := by rw [Lib.index, hp]; simp
  by_cases hm : Lib.index r [m] = -1
  · have hm2 : Lib.index (b :: r) [m] = -1 := by rw [hix, if_pos (beq_iff_eq.2 hm)]
    exact ⟨r, [], by rw [Lib.split, Lib.count_miss hm]; rfl, by rw [Lib.split, Lib.count_miss hm2]; rfl⟩
  · have hge := Lib.index_ge r [m]
    obtain ⟨j, hj⟩ : ∃ j : Nat, Lib.index r [m] = j := ⟨(Lib.index r [m]).toNat, by omega⟩
    have hj2 : Lib.index (b :: r) [m] = ((j + 1 : Nat) : Int) := by rw [hix, if_neg (fun e => hm (beq_iff_eq.1 e)), hj]; omega
    refine ⟨r.take j, Lib.splitK [m] 0 (Lib.count (r.drop (j + 1)) [m]) (r.drop (j + 1)), ?_, ?_⟩
    · rw [Lib.split, Lib.count_hit (by simp) hj, Nat.add_comm, Lib.splitK, if_neg (by rw [hj]; intro e; have := beq_iff_eq.1 e; omega), hj]
      simp
    · rw [Lib.split, Lib.count_cons_ne b m r h, Lib.count_hit (by simp) hj, Nat.add_comm, Lib.splitK, if_neg (by rw [hj2]; intro e; have := beq_iff_eq.1 e; omega), hj2]
      simp
theorem cutG_split (m : UInt8) : ∀ (l cur : List UInt8), ∃ x t, Lib.split l [m] = x :: t ∧ cutG m cur l = (cur ++ x) :: t
  | [], cur => ⟨[], [], split_nil m, by simp [cutG]⟩
  | b :: r, cur => by
    by_cases h : b = m
    · subst h
      obtain ⟨x, t, h1, h2⟩ := cutG_split b r []
      refine ⟨[], Lib.split r [b], split_eq b r, ?_⟩
      rw [cutG, if_pos rfl, h2, h1]; simp
    · obtain ⟨x, t, h1, h2⟩ := cutG_split m r (cur ++ [b])
      obtain ⟨x', t', h3, h4⟩ := split_ne h r
      rw [h1] at h3
      injection h3 with e1 e2
      subst e1 e2
      refine ⟨b :: x, t, h4, ?_⟩
      rw [cutG, if_neg h, h2]; simp
theorem cut_split (m : UInt8) (l : List UInt8) : Lib.split l [m] = cutT m l := by
  obtain ⟨x, t, h1, h2⟩ := cutG_split m l []
  rw [cutT, h2, h1]; rfl
theorem cutG_length (m : UInt8) : ∀ (l cur : List UInt8), 1 ≤ (cutG m cur l).length ∧ (cutG m cur l).length ≤ l.length + 1
  | [], cur => by simp [cutG]
  | b :: r, cur => by
    rw [cutG]
    split
    · have := cutG_length m r []
      simp only [List.length_cons]; omega
    · have := cutG_length m r (cur ++ [b])
      simp only [List.length_cons]; omega
theorem cutG_most (m : UInt8) : ∀ (l cur : List UInt8) (x : List UInt8), x ∈ cutG m cur l → x.length ≤ cur.length + l.length
  | [], cur, x, h => by
    rw [cutG, List.mem_singleton] at h
    subst h; simp
  | b :: r, cur, x, h => by
    rw [cutG] at h
    split at h
    · rcases List.mem_cons.1 h with e | h1
      · subst e; omega
      · have := cutG_most m r [] x h1
        simp only [List.length_cons, List.length_nil] at this ⊢; omega
    · have := cutG_most m r (cur ++ [b]) x h
      simp only [List.length_cons, List.length_append, List.length_nil] at this ⊢; omega
theorem cut_most {m : UInt8} {l x : List UInt8} (h : x ∈ cutT m l) : x.length ≤ l.length := by
  have := cutG_most m l [] x h
  simpa using this
/-- The pieces as the library lays them. -/
theorem pieces (m : UInt8) (l : List UInt8) : (Lib.splitB ⟨#[m]⟩ 0 (Lib.countB ⟨l.toArray⟩ ⟨#[m]⟩) ⟨l.toArray⟩).map Value.string = (cutT m l).map fun x => Value.string ⟨x.toArray⟩ := by
  have h := Lib.splitB_data ⟨#[m]⟩ 0 (Lib.countB ⟨l.toArray⟩ ⟨#[m]⟩) ⟨l.toArray⟩
  have e1 : (ByteArray.mk l.toArray).data.toList = l := by simp
  have e2 : Lib.countB ⟨l.toArray⟩ ⟨#[m]⟩ = Lib.count l [m] := by show Lib.count (ByteArray.mk l.toArray).data.toList _ = _; rw [e1]
  rw [e1] at h
  have h2 : (Lib.splitB ⟨#[m]⟩ 0 (Lib.countB ⟨l.toArray⟩ ⟨#[m]⟩) ⟨l.toArray⟩).map (·.data.toList) = cutT m l := by
    rw [h, ← cut_split, Lib.split, e2]
  rw [← h2, List.map_map]
  exact List.map_congr_left (fun x _ => by show _ = Value.string ⟨x.data.toList.toArray⟩; cases x; simp)
end Go.Proofs.YtajnncidkmafgaaDoor
