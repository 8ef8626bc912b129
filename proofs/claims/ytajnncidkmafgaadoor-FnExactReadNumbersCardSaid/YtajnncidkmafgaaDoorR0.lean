/- Reading decimal texts: plain laws, no program in sight. Conditions: none. -/
import Derived.Lib.ParseIntBCases
import Derived.Lib.ItoaLen
set_option linter.unusedVariables false
set_option linter.unusedSimpArgs false
namespace Go.Proofs.YtajnncidkmafgaaDoor
def vstep (acc : Nat) (c : UInt8) : Nat := if 48 ≤ c.toNat ∧ c.toNat ≤ 57 then 10 * acc + (c.toNat - 48) else acc
/-- The number that a text's digits spell. -/
def valN (l : List UInt8) : Nat := l.foldl vstep 0
theorem valN_snoc (l : List UInt8) (c : UInt8) : valN (l ++ [c]) = vstep (valN l) c := by simp [valN]
theorem fold_lt (l : List UInt8) : ∀ acc, l.foldl vstep acc < (acc + 1) * 10 ^ l.length := by
  induction l with
  | nil => intro acc; simp
  | cons c r ih =>
    intro acc
    have h := ih (vstep acc c)
    have hs : vstep acc c + 1 ≤ (acc + 1) * 10 := by unfold vstep; split <;> omega
    have h2 := Nat.mul_le_mul_right (10 ^ r.length) hs
    rw [List.foldl_cons, List.length_cons, Nat.pow_succ]
    have e : (acc + 1) * (10 ^ r.length * 10) = (acc + 1) * 10 * 10 ^ r.length := by rw [Nat.mul_assoc, Nat.mul_comm 10]
    rw [e]
    omega
theorem valN_lt (l : List UInt8) : valN l < 10 ^ l.length := by
  have := fold_lt l 0
  simpa [valN] using this
theorem fold_ge (l : List UInt8) : ∀ acc, acc ≤ l.foldl vstep acc := by
  induction l with
  | nil => intro acc; simp
  | cons c r ih =>
    intro acc
    have h := ih (vstep acc c)
    have hs : acc ≤ vstep acc c := by unfold vstep; split <;> omega
    rw [List.foldl_cons]; omega
theorem digit_of (d : Nat) (h : d < 10) : (UInt8.ofNat (48 + d)).toNat = 48 + d := by rw [UInt8.toNat_ofNat']; omega
theorem dec_digit (u : Nat) : ∀ c ∈ Lib.decDigits u, 48 ≤ c.toNat ∧ c.toNat ≤ 57 := by
  induction u using Nat.strongRecOn with
  | ind u ih =>
    intro c hc
    rw [Lib.decDigits] at hc
    split at hc
    · rename_i h
      rw [List.mem_singleton.1 hc, digit_of u h]; omega
    · rename_i h
      rcases List.mem_append.1 hc with h1 | h1
      · exact ih (u / 10) (by omega) c h1
      · rw [List.mem_singleton.1 h1, digit_of _ (Nat.mod_lt _ (by decide))]; omega
theorem valN_dec (u : Nat) : valN (Lib.decDigits u) = u := by
  induction u using Nat.strongRecOn with
  | ind u ih =>
    rw [Lib.decDigits]
    split
    · rename_i h
      have := digit_of u h
      simp only [valN, List.foldl_cons, List.foldl_nil, vstep, this]
      rw [if_pos (by omega)]; omega
    · rename_i h
      have := digit_of (u % 10) (Nat.mod_lt _ (by decide))
      rw [valN_snoc, ih (u / 10) (by omega), vstep, this, if_pos (by omega)]
      omega
theorem dec_ne (u : Nat) : Lib.decDigits u ≠ [] := by
  rw [Lib.decDigits]; split <;> simp
theorem parse_fold {M : Nat} (hM : 1000000000000000 ≤ M) : ∀ (l : List UInt8) (acc : Nat), (∀ c ∈ l, 48 ≤ c.toNat ∧ c.toNat ≤ 57) → l.foldl vstep acc ≤ 1000000000000000 → Lib.parseUintM M acc l = .ok (l.foldl vstep acc)
  | [], acc, _, _ => rfl
  | c :: r, acc, hd, hb => by
    have hc := hd c List.mem_cons_self
    rw [List.foldl_cons] at hb
    have hs : vstep acc c = acc * 10 + (c.toNat - 48) := by unfold vstep; rw [if_pos hc]; omega
    have hge := fold_ge r (vstep acc c)
    rw [Lib.parseUintM, if_pos hc, if_neg (by omega), if_neg (by omega), List.foldl_cons, ← hs]
    exact parse_fold hM r _ (fun x hx => hd x (List.mem_cons_of_mem _ hx)) hb
/-- The number that a text spells, by its sign. -/
def numOf (l : List UInt8) : Int := if l.head? = some 45 then -(valN l : Int) else valN l
theorem head_dec (u : Nat) : (Lib.decDigits u).head? ≠ some 45 := by
  intro h
  cases hl : Lib.decDigits u with
  | nil => exact dec_ne u hl
  | cons c r =>
    rw [hl] at h
    have hc : c = 45 := Option.some.inj h
    have := dec_digit u c (by rw [hl]; exact List.mem_cons_self)
    rw [hc] at this
    exact absurd this.1 (by decide)
theorem numOf_itoa (n : Int) : numOf (Lib.itoa n) = n := by
  unfold Lib.itoa
  split
  · rename_i h
    have e : valN (45 :: Lib.decDigits n.natAbs) = n.natAbs := by
      have : valN (45 :: Lib.decDigits n.natAbs) = valN (Lib.decDigits n.natAbs) := rfl
      rw [this, valN_dec]
    rw [numOf, if_pos (List.head?_cons), e]; omega
  · rename_i h
    rw [numOf, if_neg (head_dec _), valN_dec]; omega
theorem parse_itoa {n : Int} (h0 : -1000000000000000 ≤ n) (h1 : n ≤ 1000000000000000) : Lib.parseIntB 64 (Lib.itoa n) = .ok n := by
  have key : ∀ u : Nat, u ≤ 1000000000000000 → Lib.parseUintB 64 (Lib.decDigits u) = .ok u := fun u hu => by
    have e : (Lib.decDigits u).foldl vstep 0 = u := valN_dec u
    rw [Lib.parseUintB, if_neg (dec_ne u), parse_fold (by decide) _ 0 (dec_digit u) (by rw [e]; exact hu), e]
  unfold Lib.itoa
  split
  · rename_i h
    rw [Lib.parseIntB_minus, key _ (by omega), Lib.signedC, if_neg (by omega)]
    congr 1; omega
  · rename_i h
    cases hl : Lib.decDigits n.toNat with
    | nil => exact absurd hl (dec_ne _)
    | cons c r =>
      have hc := dec_digit n.toNat c (by rw [hl]; exact List.mem_cons_self)
      rw [Lib.parseIntB_plain 64 c r (by omega) (by omega), ← hl, key _ (by omega), Lib.signlessC, if_neg (by omega)]
      congr 1; omega
theorem nDigits_le (k : Nat) : ∀ u, u < 10 ^ (k + 1) → Lib.nDigits u ≤ k + 1 := by
  induction k with
  | zero => intro u hu; rw [Lib.nDigits_small (by simpa using hu)]; omega
  | succ k ih =>
    intro u hu
    by_cases h : u < 10
    · rw [Lib.nDigits_small h]; omega
    · rw [Lib.nDigits_big h]
      have : u / 10 < 10 ^ (k + 1) := by rw [Nat.pow_succ] at hu; omega
      have := ih _ this
      omega
theorem itoa_len {n : Int} (h0 : -1000000000000000 ≤ n) (h1 : n ≤ 1000000000000000) : 1 ≤ (Lib.itoa n).length ∧ (Lib.itoa n).length ≤ 17 := by
  have hd : (Lib.decDigits n.natAbs).length ≤ 16 := by
    rw [Lib.decDigits_length]
    exact nDigits_le 15 _ (by have : (10 : Nat) ^ (15 + 1) = 10000000000000000 := by decide
                              omega)
  have hp : 1 ≤ (Lib.decDigits n.natAbs).length := List.length_pos_iff.2 (dec_ne _)
  unfold Lib.itoa
  split
  · rw [List.length_cons]; omega
  · rename_i h
    rw [show n.toNat = n.natAbs by omega]; omega
def inD (n : Int) : Bool := decide (-1000000000000000 ≤ n) && decide (n ≤ 1000000000000000)
/-- Whether a text is the text of a number that is not too great. -/
def readC (l : List UInt8) : Bool := decide (1 ≤ l.length ∧ l.length ≤ 17) && inD (numOf l) && decide (Lib.itoa (numOf l) = l)
def readV (l : List UInt8) : Int := if readC l = true then numOf l else 0
theorem inD_iff {n : Int} : inD n = true ↔ -1000000000000000 ≤ n ∧ n ≤ 1000000000000000 := by simp [inD]
theorem readC_iff {l : List UInt8} : readC l = true ↔ inD (numOf l) = true ∧ Lib.itoa (numOf l) = l := by
  constructor
  · intro h
    simp only [readC, Bool.and_eq_true, decide_eq_true_eq] at h
    exact ⟨h.1.2, h.2⟩
  · rintro ⟨h1, h2⟩
    have := inD_iff.1 h1
    have hl := itoa_len this.1 this.2
    rw [h2] at hl
    simp only [readC, Bool.and_eq_true, decide_eq_true_eq]
    exact ⟨⟨hl, h1⟩, h2⟩
/-- What the parser gives and the two tests behind it come to the same. -/
theorem read_ok {l : List UInt8} {v : Int} (h : Lib.parseIntB 64 l = .ok v) : (inD v = true ∧ Lib.itoa v = l → readC l = true ∧ readV l = v) ∧ (¬ (inD v = true ∧ Lib.itoa v = l) → readC l = false ∧ readV l = 0) := by
  constructor
  · rintro ⟨h1, h2⟩
    have e : numOf l = v := by rw [← h2, numOf_itoa]
    have hr : readC l = true := readC_iff.2 ⟨by rw [e]; exact h1, by rw [e]; exact h2⟩
    exact ⟨hr, by rw [readV, if_pos hr, e]⟩
  · intro hn
    have hr : readC l = false := by
      rw [← Bool.not_eq_true]
      intro hr
      obtain ⟨h1, h2⟩ := readC_iff.1 hr
      have hb := inD_iff.1 h1
      have hp := parse_itoa hb.1 hb.2
      rw [h2, h] at hp
      obtain rfl : v = numOf l := by injection hp
      exact hn ⟨h1, h2⟩
    exact ⟨hr, by rw [readV, hr]; rfl⟩
theorem read_no {l : List UInt8} (h : ∀ v, Lib.parseIntB 64 l ≠ .ok v) : readC l = false ∧ readV l = 0 := by
  have hr : readC l = false := by
    rw [← Bool.not_eq_true]
    intro hr
    obtain ⟨h1, h2⟩ := readC_iff.1 hr
    have hb := inD_iff.1 h1
    have hp := parse_itoa hb.1 hb.2
    rw [h2] at hp
    exact h _ hp
  exact ⟨hr, by rw [readV, hr]; rfl⟩
end Go.Proofs.YtajnncidkmafgaaDoor
