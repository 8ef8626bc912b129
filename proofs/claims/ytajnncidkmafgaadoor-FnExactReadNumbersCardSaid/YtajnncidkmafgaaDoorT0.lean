/- Reading hexadecimal texts of numbers: plain laws. Conditions: none. -/
import Derived.Test.YtajnncidkmafgaaDoorW1
import Derived.Lib.Bytealg
set_option linter.unusedVariables false
set_option linter.unusedSimpArgs false
namespace Go.Proofs.YtajnncidkmafgaaDoor
def hexV (c : UInt8) : Option Nat := if 48 ≤ c.toNat ∧ c.toNat ≤ 57 then some (c.toNat - 48) else if 97 ≤ c.toNat ∧ c.toNat ≤ 102 then some (c.toNat - 97 + 10) else none
def hstep (a : Option Nat) (c : UInt8) : Option Nat := match a, hexV c with
  | some n, some d => some (16 * n + d)
  | _, _ => none
theorem hstep_some {c : UInt8} {d : Nat} (a : Nat) (h : hexV c = some d) : hstep (some a) c = some (16 * a + d) := by simp only [hstep, h]
theorem hstep_bad {c : UInt8} (a : Option Nat) (h : hexV c = none) : hstep a c = none := by cases a <;> simp only [hstep, h]
/-- The number that hexadecimal digits spell. -/
def hexNum (l : List UInt8) : Option Nat := l.foldl hstep (some 0)
theorem hexNum_snoc (l : List UInt8) (c : UInt8) : hexNum (l ++ [c]) = hstep (hexNum l) c := by simp [hexNum]
theorem hfold_none (l : List UInt8) : l.foldl hstep none = none := by
  induction l with
  | nil => rfl
  | cons c r ih => rw [List.foldl_cons]; exact ih
theorem hexNum_none {l : List UInt8} {k : Nat} (h : hexNum (l.take k) = none) : hexNum l = none := by
  have e : l = l.take k ++ l.drop k := (List.take_append_drop k l).symm
  rw [e, hexNum, List.foldl_append]
  have h' : (l.take k).foldl hstep (some 0) = none := h
  rw [h']
  exact hfold_none _
theorem hexV_lt {c : UInt8} {d : Nat} (h : hexV c = some d) : d < 16 := by
  unfold hexV at h
  split at h
  · have := Option.some.inj h; omega
  · split at h
    · have := Option.some.inj h; omega
    · cases h
theorem hfold_lt : ∀ (l : List UInt8) (a n : Nat), l.foldl hstep (some a) = some n → n < (a + 1) * 16 ^ l.length
  | [], a, n, h => by
    have := Option.some.inj h
    simp; omega
  | c :: r, a, n, h => by
    rw [List.foldl_cons] at h
    cases hc : hexV c with
    | none => rw [hstep_bad _ hc, hfold_none] at h; cases h
    | some d =>
      rw [hstep_some a hc] at h
      have h1 := hfold_lt r _ n h
      have hd := hexV_lt hc
      have h2 : (16 * a + d + 1) * 16 ^ r.length ≤ (16 * (a + 1)) * 16 ^ r.length := Nat.mul_le_mul_right _ (by omega)
      rw [List.length_cons, Nat.pow_succ]
      have e : (a + 1) * (16 ^ r.length * 16) = 16 * (a + 1) * 16 ^ r.length := by rw [Nat.mul_comm (16 ^ r.length) 16, ← Nat.mul_assoc, Nat.mul_comm (a + 1) 16]
      rw [e]; omega
theorem hexNum_lt {l : List UInt8} {n : Nat} (h : hexNum l = some n) : n < 16 ^ l.length := by
  have := hfold_lt l 0 n h
  simpa using this
theorem hexV_hexB {d : Nat} (h : d < 16) : hexV (hexB d) = some d := by
  have : d = 0 ∨ d = 1 ∨ d = 2 ∨ d = 3 ∨ d = 4 ∨ d = 5 ∨ d = 6 ∨ d = 7 ∨ d = 8 ∨ d = 9 ∨ d = 10 ∨ d = 11 ∨ d = 12 ∨ d = 13 ∨ d = 14 ∨ d = 15 := by omega
  rcases this with rfl | rfl | rfl | rfl | rfl | rfl | rfl | rfl | rfl | rfl | rfl | rfl | rfl | rfl | rfl | rfl <;> rfl
theorem hexNum_hexT {b : Int} (h0 : 0 ≤ b) (h1 : b < 4294967296) : ∀ k, k ≤ 8 → hexNum (hexT b k) = some (b.toNat / 2 ^ (32 - 4 * k))
  | 0, _ => by
    rw [show hexNum (hexT b 0) = some 0 from rfl]
    congr 1
    rw [Nat.div_eq_of_lt]; simp; omega
  | k + 1, hk => by
    rw [hexT_succ, hexNum_snoc, hexNum_hexT h0 h1 k (by omega), hstep_some _ (hexV_hexB (hexD_lt b k))]
    congr 1
    unfold hexD
    have e1 : 2 ^ (32 - 4 * k) = 2 ^ (28 - 4 * k) * 16 := by
      rw [show 32 - 4 * k = (28 - 4 * k) + 4 by omega, Nat.pow_add]
    have e2 : 32 - 4 * (k + 1) = 28 - 4 * k := by omega
    rw [e1, e2, ← Nat.div_div_eq_div_mul]
    omega
theorem hexNum_full {b : Int} (h0 : 0 ≤ b) (h1 : b < 4294967296) : hexNum (hexT b 8) = some b.toNat := by
  rw [hexNum_hexT h0 h1 8 (Nat.le_refl _)]; simp
theorem last_of {l : List UInt8} {k : Nat} (h : l.length = k + 1) : ∃ m c, l = m ++ [c] ∧ m.length = k := by
  have hn : l ≠ [] := by intro e; subst e; simp at h
  exact ⟨l.dropLast, l.getLast hn, (List.dropLast_concat_getLast hn).symm, by rw [List.length_dropLast]; omega⟩
theorem hexNum_inj : ∀ (k : Nat) (l m : List UInt8) (a n : Nat), l.length = k → m.length = k → l.foldl hstep (some a) = some n → m.foldl hstep (some a) = some n → l = m := by
  intro k
  induction k with
  | zero => intro l m a n hl hm _ _; rw [List.eq_nil_of_length_eq_zero hl, List.eq_nil_of_length_eq_zero hm]
  | succ k ih =>
    intro l m a n hl hm h1 h2
    obtain ⟨l, c, rfl, hl'⟩ := last_of hl
    obtain ⟨m', c', rfl, hm'⟩ := last_of hm
    rw [List.foldl_append] at h1 h2
    simp only [List.foldl_cons, List.foldl_nil] at h1 h2
    cases e1 : l.foldl hstep (some a) with
    | none => rw [e1] at h1; simp [hstep] at h1
    | some p =>
      cases e2 : m'.foldl hstep (some a) with
      | none => rw [e2] at h2; simp [hstep] at h2
      | some q =>
        rw [e1] at h1
        rw [e2] at h2
        cases d1 : hexV c with
        | none => simp [hstep, d1] at h1
        | some x =>
          cases d2 : hexV c' with
          | none => simp [hstep, d2] at h2
          | some y =>
            have hx := hexV_lt d1
            have hy := hexV_lt d2
            simp only [hstep, d1] at h1
            simp only [hstep, d2] at h2
            have v1 := Option.some.inj h1
            have v2 := Option.some.inj h2
            have hpq : p = q ∧ x = y := by omega
            obtain ⟨rfl, rfl⟩ := hpq
            have hll := ih l m' a p hl' hm' e1 e2
            subst hll
            have hcc : c = c' := by
              unfold hexV at d1 d2
              apply UInt8.toNat_inj.1
              split at d1 <;> split at d2
              · have := Option.some.inj d1; have := Option.some.inj d2; omega
              · split at d2
                · have := Option.some.inj d1; have := Option.some.inj d2; omega
                · cases d2
              · split at d1
                · have := Option.some.inj d1; have := Option.some.inj d2; omega
                · cases d1
              · split at d1 <;> split at d2
                · have := Option.some.inj d1; have := Option.some.inj d2; omega
                · cases d2
                · cases d1
                · cases d1
            rw [hcc]
/-- Whether a text is the text of a number. -/
def readH (l : List UInt8) : Bool := decide (l.length = 8) && (match hexNum l with
  | some n => decide (bitsC (cls .f32 n) = (n : Int))
  | none => false)
/-- The number's class. -/
def valH (l : List UInt8) : Option Nat := cls .f32 ((hexNum l).getD 0)
theorem readH_len {l : List UInt8} (h : l.length ≠ 8) : readH l = false := by rw [readH, decide_eq_false h]; rfl
theorem readH_none {l : List UInt8} (h : hexNum l = none) : readH l = false := by rw [readH, h, Bool.and_false]
theorem readH_some {l : List UInt8} {n : Nat} (hl : l.length = 8) (h : hexNum l = some n) : readH l = decide (bitsC (cls .f32 n) = (n : Int)) := by
  rw [readH, h, decide_eq_true hl, Bool.true_and]
theorem valH_some {l : List UInt8} {n : Nat} (h : hexNum l = some n) : valH l = cls .f32 n := by rw [valH, h]; rfl
theorem hex_bound {l : List UInt8} {n : Nat} (hl : l.length = 8) (h : hexNum l = some n) : n < 4294967296 := by
  have := hexNum_lt h
  rw [hl] at this
  exact this
theorem hex_back {l : List UInt8} {n : Nat} (hl : l.length = 8) (h : hexNum l = some n) {b : Int} (h0 : 0 ≤ b) (h1 : b < 4294967296) : (hexT b 8 = l) ↔ b = (n : Int) := by
  have hf := hexNum_full h0 h1
  constructor
  · intro e
    rw [e, h] at hf
    have := Option.some.inj hf
    omega
  · intro e
    refine hexNum_inj 8 _ _ 0 n (hexT_length _ _) hl ?_ h
    have : b.toNat = n := by omega
    rw [← this]; exact hf
/-- The place of a byte among the digits. -/
theorem index_hex (c : UInt8) : Lib.indexByte [48, 49, 50, 51, 52, 53, 54, 55, 56, 57, 97, 98, 99, 100, 101, 102] c = match hexV c with
  | some d => (d : Int)
  | none => -1 := by
  have key : ∀ n, n < 256 → Lib.indexByte [48, 49, 50, 51, 52, 53, 54, 55, 56, 57, 97, 98, 99, 100, 101, 102] (UInt8.ofNat n) = match hexV (UInt8.ofNat n) with
    | some d => (d : Int)
    | none => -1 := by decide +kernel
  have := key c.toNat c.toNat_lt
  rwa [UInt8.ofNat_toNat] at this
end Go.Proofs.YtajnncidkmafgaaDoor
