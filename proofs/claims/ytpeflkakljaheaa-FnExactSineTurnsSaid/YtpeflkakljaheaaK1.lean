/- How great logarithms are: the loops that halve and double, and the bounds. Conditions: none. -/
import Derived.Test.YtpeflkakljaheaaN4
set_option linter.unusedVariables false
set_option linter.unusedSimpArgs false
namespace Go.Proofs.Ytpeflkakljaheaa
open Go.RowKit Ieee
open Fc Fb

theorem ford64 {a b : Nat} (na : isN .f64 a = false) (nb : isN .f64 b = false) : ford .f64 (some a) (some b) = some (compare (Fp.sr Ieee.double a) (Fp.sr Ieee.double b)) :=
  Fp.order_words Ieee.double (by decide) (by decide) (Fp.rung_le_of_not_nan _ (by decide) na) (Fp.rung_le_of_not_nan _ (by decide) nb)
def two : Nat := 4611686018427387904
def ge15 (X : Option Nat) : Bool := ford .f64 X (some 4609434218613702656) == some .gt || ford .f64 X (some 4609434218613702656) == some .eq
def lt075 (X : Option Nat) : Bool := ford .f64 X (some 4604930618986332160) == some .lt
theorem nan_of_bd {b a c : Nat} (h : Bd (some b) a c) : isN .f64 b = false := by
  obtain ⟨m, i, A, e1, _⟩ := read_fin (h b rfl).1
  show (Ieee.double.read b).isNaN = false
  rw [e1]; rfl
theorem ge15_iff {b a c : Nat} (h : Bd (some b) a c) : ge15 (some b) = decide (4609434218613702656 ≤ Fp.sr Ieee.double b) := by
  unfold ge15
  rw [ford64 (nan_of_bd h) (by decide), cmp_gt, cmp_eq, show Fp.sr Ieee.double 4609434218613702656 = 4609434218613702656 by decide, Bool.eq_iff_iff]
  simp only [Bool.or_eq_true, decide_eq_true_eq]; omega
theorem lt075_iff {b a c : Nat} (h : Bd (some b) a c) : lt075 (some b) = decide (Fp.sr Ieee.double b < 4604930618986332160) := by
  unfold lt075
  rw [ford64 (nan_of_bd h) (by decide), cmp_lt, show Fp.sr Ieee.double 4604930618986332160 = 4604930618986332160 by decide]
theorem sr_pos {b : Nat} (h : Fp.neg Ieee.double b = false) : Fp.sr Ieee.double b = (Fp.rung Ieee.double b : Int) := by
  unfold Fp.sr Fp.sg; rw [h]; rfl
theorem sr_le (b : Nat) : Fp.sr Ieee.double b ≤ (Fp.rung Ieee.double b : Int) := by
  unfold Fp.sr Fp.sg; split <;> omega
theorem rung_one : Fp.rung Ieee.double one = 4607182418800017408 := by decide
theorem not_ge15 {X : Option Nat} (h : Bd X 1 0) : ge15 X = false := by
  cases X with
  | none => rfl
  | some b =>
    rw [ge15_iff h, decide_eq_false_iff_not]
    obtain ⟨h1, h2⟩ := h b rfl
    have h3 : Fp.rung Ieee.double b ≤ Fp.rung Ieee.double one := by
      rcases Nat.lt_or_ge (Fp.rung Ieee.double one) (Fp.rung Ieee.double b) with h4 | h4
      · have := Fp.V_lt (B := Ieee.double.binade) (by decide) h4
        rw [Nat.pow_zero, Nat.mul_one, Nat.one_mul, ← mag_one] at h2
        exact absurd h2 (Nat.not_le.2 this)
      · exact h4
    rw [rung_one] at h3
    have := sr_le b
    omega
/-- A number, if it is one, has no fewer than 2^s least units. -/
def Lw (X : Option Nat) (s : Nat) : Prop := ∀ b, X = some b → 2 ^ s ≤ mag b
theorem not_lt075 {X : Option Nat} {a c : Nat} (h : Bd X a c) (hp : Po X) (hl : Lw X nU) : lt075 X = false := by
  cases X with
  | none => rfl
  | some b =>
    rw [lt075_iff h, decide_eq_false_iff_not, sr_pos (hp b rfl)]
    have := rung_ge (hl b rfl)
    rw [rung_one] at this
    omega
theorem rung_two (r : Nat) (h : r ≤ nU + 900) : ∃ R, R ≤ Ieee.double.infRung ∧ Fp.V Ieee.double.binade R = 2 ^ r := by
  obtain ⟨R, h1, h2⟩ := exists_rung Ieee.double (1 * 2 ^ r) 1 r (Nat.mul_pos (by decide) (Nat.two_pow_pos _)) rfl (by decide)
  refine ⟨R, Nat.le_of_lt (Nat.lt_of_lt_of_le h2 ?_), by rw [h1, Nat.one_mul]⟩
  have := log2_le (j := r) (n := 1) (show 0 < 1 by decide) (by decide)
  have hn := nU_eq
  generalize (1 * 2 ^ r).log2 = l at *
  show (l - 52 + 2) * 4503599627370496 ≤ 2047 * 4503599627370496
  exact Nat.mul_le_mul_right _ (by omega)
theorem out_ge {s : Bool} {r r0 : Nat} (h1 : r0 ≤ r) (h2 : r ≤ Ieee.double.infRung) : Fp.V Ieee.double.binade r0 ≤ mag (Ieee.double.word s r) := by
  obtain ⟨g1, _⟩ := Fp.rung_word Ieee.double s (r := r) (Nat.lt_of_le_of_lt h2 (by decide))
  unfold mag; rw [g1]; exact V_mono (by decide) h1
theorem pos_of_mag {m A s : Nat} (h : 2 ^ s ≤ m * 2 ^ A) : 0 < m := by
  rcases Nat.eq_zero_or_pos m with h0 | h0
  · subst h0; rw [Nat.zero_mul] at h; have := Nat.two_pow_pos s; omega
  · exact h0
theorem lw_mul {X Y : Option Nat} {a c b d s t r : Nat} (hX : Bd X a c) (hY : Bd Y b d) (hs : Lw X s) (ht : Lw Y t) (h : r + nU ≤ s + t) (hr : r ≤ nU + 900) : Lw (fop .mul .f64 X Y) r := by
  intro u hu
  obtain ⟨x, y, rfl, rfl, hf⟩ := fop_some hu
  obtain ⟨m, i, A, e1, e2, e3⟩ := read_fin (hX x rfl).1
  obtain ⟨n, j, D, e4, e5, e6⟩ := read_fin (hY y rfl).1
  have hx := hs x rfl
  have hy := ht y rfl
  obtain ⟨r0, hr0, hV⟩ := rung_two r hr
  have hf' : ((Ieee.double.read x).product (Ieee.double.read y)).map Ieee.double.write = some u := hf
  rw [e1, e4] at hf'
  have ht' : Ieee.double.nearest (Fp.neg Ieee.double x ^^ Fp.neg Ieee.double y) (m * n) (i + j) = u := Option.some.inj hf'
  rw [← e3] at hx
  rw [← e6] at hy
  obtain ⟨q, h1, h2, h3⟩ := near_ge (Fp.neg Ieee.double x ^^ Fp.neg Ieee.double y) (m := m * n) (r0 := r0) (E := A + D) (F := nU) (p := i + j) (Nat.mul_pos (pos_of_mag hx) (pos_of_mag hy)) (by omega) hr0 (by
    rw [hV, ← Nat.pow_add]
    refine Nat.le_trans (Nat.pow_le_pow_right (by decide) h) ?_
    rw [Nat.pow_add, Nat.pow_add]
    calc 2 ^ s * 2 ^ t ≤ m * 2 ^ A * (n * 2 ^ D) := Nat.mul_le_mul hx hy
      _ = m * n * (2 ^ A * 2 ^ D) := by simp only [Nat.mul_assoc, Nat.mul_left_comm, Nat.mul_comm])
  rw [← ht', h3, ← hV]
  exact out_ge h1 h2
theorem neg_nearest (m : Nat) (p : Int) : Fp.neg Ieee.double (Ieee.double.nearest false m p) = false := by
  unfold Format.nearest
  dsimp only
  have key : ∀ r, r ≤ Ieee.double.infRung → Fp.neg Ieee.double (Ieee.double.word false r) = false := fun r h => (Fp.rung_word Ieee.double false (Nat.lt_of_le_of_lt h (by decide))).2
  split
  · exact key 0 (Nat.zero_le _)
  · exact key _ (Nat.min_le_right _ _)
theorem po_mul {X Y : Option Nat} {a c b d : Nat} (hX : Bd X a c) (hY : Bd Y b d) (pX : Po X) (pY : Po Y) : Po (fop .mul .f64 X Y) := by
  intro t ht
  obtain ⟨x, y, rfl, rfl, hf⟩ := fop_some ht
  obtain ⟨m, i, A, e1, e2, e3⟩ := read_fin (hX x rfl).1
  obtain ⟨n, j, D, e4, e5, e6⟩ := read_fin (hY y rfl).1
  have hf' : ((Ieee.double.read x).product (Ieee.double.read y)).map Ieee.double.write = some t := hf
  rw [e1, e4, pX x rfl, pY y rfl] at hf'
  have ht' : Ieee.double.nearest (false ^^ false) (m * n) (i + j) = t := Option.some.inj hf'
  rw [← ht', Bool.xor_self]
  exact neg_nearest _ _
theorem mag_two : mag two = 2 ^ (nU + 1) := by
  have hn := nU_eq
  obtain ⟨q, hq⟩ : ∃ q, q = 1024 := ⟨_, rfl⟩
  rw [mag_lit (b := two) q (by rw [hq]; decide) (by omega)]
  congr 1; omega
theorem read_two : ∃ n j D, Ieee.double.read two = .number false n j ∧ j + nU = ((D : Nat) : Int) ∧ n * 2 ^ D = 2 ^ (nU + 1) := by
  obtain ⟨n, j, D, h1, h2, h3⟩ := read_fin (b := two) (by decide)
  exact ⟨n, j, D, by rw [h1, show Fp.neg Ieee.double two = false by decide], h2, by rw [h3, mag_two]⟩
theorem quot_ge {m n more : Nat} (hm : 0 < m) (hn : 0 < n) (hmore : 54 + n.log2 ≤ m.log2 + more) : m * 2 ^ more ≤ (2 * ((m <<< more) / n) + ((m <<< more) % n != 0).toNat) * n := by
  rw [Nat.shiftLeft_eq]
  generalize hD : m * 2 ^ more = D
  have h1 : 2 ^ (53 : Nat) * n ≤ D := by
    have a1 := Nat.log2_self_le (n := m) (by omega)
    have a2 : n < 2 ^ (n.log2 + 1) := Nat.lt_log2_self
    calc 2 ^ 53 * n ≤ 2 ^ 53 * 2 ^ (n.log2 + 1) := Nat.mul_le_mul_left _ (Nat.le_of_lt a2)
      _ = 2 ^ (54 + n.log2) := by rw [← Nat.pow_add]; congr 1; omega
      _ ≤ 2 ^ (m.log2 + more) := Nat.pow_le_pow_right (by decide) hmore
      _ = 2 ^ m.log2 * 2 ^ more := Nat.pow_add _ _ _
      _ ≤ D := by rw [← hD]; exact Nat.mul_le_mul_right _ a1
  have h2 : 1 ≤ D / n := (Nat.le_div_iff_mul_le hn).2 (Nat.le_trans (Nat.mul_le_mul_right n (by decide)) h1)
  have h3 : D < (D / n + 1) * n := by
    have := Nat.lt_mul_div_succ D hn
    rwa [Nat.mul_comm] at this
  generalize (D % n != 0).toNat = z
  have h4 : (D / n + 1) * n ≤ (2 * (D / n) + z) * n := Nat.mul_le_mul_right _ (by omega)
  omega
theorem half_form {x t : Nat} (hx : Fp.rung Ieee.double x < Ieee.double.infRung) (hf : floatBits .quo .f64 x two = some t) : ∃ m i A n j D more : Nat, ∃ i' j' : Int, Ieee.double.read x = .number (Fp.neg Ieee.double x) m i' ∧ i' + nU = ((A : Nat) : Int) ∧ m * 2 ^ A = mag x ∧ j' + nU = ((D : Nat) : Int) ∧ n * 2 ^ D = 2 ^ (nU + 1) ∧ 0 < n ∧ 54 + n.log2 ≤ m.log2 + more ∧
    Ieee.double.nearest (Fp.neg Ieee.double x) (2 * ((m <<< more) / n) + ((m <<< more) % n != 0).toNat) (i' - j' - more - 1) = t := by
  obtain ⟨m, i, A, e1, e2, e3⟩ := read_fin hx
  obtain ⟨n, j, D, e4, e5, e6⟩ := read_two
  have hn : 0 < n := pos_of_mag (s := nU + 1) (A := D) (by rw [e6]; exact Nat.le_refl _)
  have hf' : ((Ieee.double.read x).quotient 54 (Ieee.double.read two)).map Ieee.double.write = some t := hf
  rw [e1, e4] at hf'
  unfold Datum.quotient at hf'
  simp only [Nat.ne_of_gt hn, if_false] at hf'
  have ht' : Ieee.double.nearest (Fp.neg Ieee.double x ^^ false) (2 * (m <<< (54 + n.log2 - m.log2) / n) + (m <<< (54 + n.log2 - m.log2) % n != 0).toNat) (i - j - (54 + n.log2 - m.log2 : Nat) - 1) = t := Option.some.inj hf'
  rw [Bool.xor_false] at ht'
  exact ⟨m, 0, A, n, 0, D, 54 + n.log2 - m.log2, i, j, e1, e2, e3, e5, e6, hn, by omega, ht'⟩
theorem lw_half {X : Option Nat} {a c s r : Nat} (hX : Bd X a c) (hs : Lw X s) (h : r + 2 ≤ s) (hr : r ≤ nU + 900) : Lw (fop .quo .f64 X (some two)) r := by
  intro u hu
  obtain ⟨x, y, rfl, hy, hf⟩ := fop_some hu
  obtain rfl := Option.some.inj hy
  obtain ⟨m, _, A, n, _, D, more, i, j, e1, e2, e3, e5, e6, hn, hmore, ht⟩ := half_form (hX x rfl).1 hf
  have hx := hs x rfl
  rw [← e3] at hx
  have hm := pos_of_mag hx
  have hq := quot_ge hm hn hmore
  generalize 2 * (m <<< more / n) + (m <<< more % n != 0).toNat = Q at *
  obtain ⟨r0, hr0, hV⟩ := rung_two r hr
  have hQ : 0 < Q := by
    rcases Nat.eq_zero_or_pos Q with h0 | h0
    · subst h0; rw [Nat.zero_mul] at hq; have := Nat.mul_pos hm (Nat.two_pow_pos more); omega
    · exact h0
  obtain ⟨q, h1, h2, h3⟩ := near_ge (Fp.neg Ieee.double x) (m := Q) (r0 := r0) (E := A + nU) (F := D + more + 1) (p := i - j - more - 1) hQ (by omega) hr0 (by
    rw [hV]
    refine Nat.le_of_mul_le_mul_right ?_ hn
    calc 2 ^ r * 2 ^ (D + more + 1) * n = 2 ^ r * 2 ^ (more + 1) * (n * 2 ^ D) := by rw [show D + more + 1 = D + (more + 1) by omega, Nat.pow_add 2 D]; simp only [Nat.mul_assoc, Nat.mul_left_comm, Nat.mul_comm]
      _ = 2 ^ (r + (more + 1) + (nU + 1)) := by rw [e6, ← Nat.pow_add, ← Nat.pow_add]
      _ ≤ 2 ^ (s + more + nU) := Nat.pow_le_pow_right (by decide) (by omega)
      _ = 2 ^ s * (2 ^ more * 2 ^ nU) := by rw [Nat.pow_add, Nat.pow_add, Nat.mul_assoc]
      _ ≤ m * 2 ^ A * (2 ^ more * 2 ^ nU) := Nat.mul_le_mul_right _ hx
      _ = m * 2 ^ more * (2 ^ A * 2 ^ nU) := by simp only [Nat.mul_assoc, Nat.mul_left_comm, Nat.mul_comm]
      _ ≤ Q * n * (2 ^ A * 2 ^ nU) := Nat.mul_le_mul_right _ hq
      _ = Q * 2 ^ (A + nU) * n := by rw [Nat.pow_add]; simp only [Nat.mul_assoc, Nat.mul_left_comm, Nat.mul_comm])
  rw [← ht, h3, ← hV]
  exact out_ge h1 h2
theorem po_half {X : Option Nat} {a c : Nat} (hX : Bd X a c) (hp : Po X) : Po (fop .quo .f64 X (some two)) := by
  intro u hu
  obtain ⟨x, y, rfl, hy, hf⟩ := fop_some hu
  obtain rfl := Option.some.inj hy
  obtain ⟨m, _, A, n, _, D, more, i, j, e1, e2, e3, e5, e6, hn, hmore, ht⟩ := half_form (hX x rfl).1 hf
  rw [← ht, hp x rfl]
  exact neg_nearest _ _
theorem los_two : Los (some two) 1 := by
  intro b hb
  obtain rfl := Option.some.inj hb
  exact ⟨by decide, by rw [mag_two]; exact Nat.le_refl _⟩
theorem lw_two : Lw (some two) (nU + 1) := by
  intro b hb
  obtain rfl := Option.some.inj hb
  rw [mag_two]; exact Nat.le_refl _
theorem bd_two' : Bd (some two) 2 0 := bd_two
theorem po_two : Po (some two) := by
  intro b hb
  obtain rfl := Option.some.inj hb
  decide

/-! ### The loops -/
def halveC : Nat → Option Nat → Nat → Option Nat × Nat
  | 0, X, e => (X, e)
  | f + 1, X, e => if ge15 X = true then halveC f (fop .quo .f64 X (some two)) (e + 1) else (X, e)
def dblC : Nat → Option Nat → Nat → Option Nat × Nat
  | 0, X, e => (X, e)
  | f + 1, X, e => if lt075 X = true then dblC f (fop .mul .f64 X (some two)) (e + 1) else (X, e)
def HI (j : Nat) (X : Option Nat) : Prop :=
  (∃ i, (j = 2 * i ∧ i ≤ 130 ∧ Bd X (2 ^ (130 - i)) 0) ∨ (j = 2 * i + 1 ∧ i < 130 ∧ Bd X (9 * 2 ^ (130 - i)) 4)) ∧ Po X ∧ Lw X (nU - 149)
theorem HI.bd {j : Nat} {X : Option Nat} (h : HI j X) : ∃ a c, Bd X a c := by
  obtain ⟨⟨i, ⟨_, _, h1⟩ | ⟨_, _, h1⟩⟩, _⟩ := h
  · exact ⟨_, _, h1⟩
  · exact ⟨_, _, h1⟩
theorem HI.le {j : Nat} {X : Option Nat} (h : HI j X) : j ≤ 260 := by
  obtain ⟨⟨i, ⟨_, _, h1⟩ | ⟨_, _, h1⟩⟩, _⟩ := h <;> omega
theorem HI.step {j : Nat} {X : Option Nat} (h : HI j X) (hg : ge15 X = true) : j < 260 ∧ HI (j + 1) (fop .quo .f64 X (some two)) := by
  obtain ⟨a, c, hb⟩ := h.bd
  obtain ⟨⟨i, hi⟩, hp, hl⟩ := h
  have hn := nU_eq
  have hl2 : Lw X nU := by
    intro b hb'
    subst hb'
    rw [ge15_iff hb, decide_eq_true_eq] at hg
    have := sr_le b
    rw [← mag_one]
    refine V_mono (by decide) ?_
    rw [rung_one]; omega
  have hk : Po (fop .quo .f64 X (some two)) ∧ Lw (fop .quo .f64 X (some two)) (nU - 149) := ⟨po_half hb hp, lw_half hb hl2 (by omega) (by omega)⟩
  rcases hi with ⟨rfl, h1, h2⟩ | ⟨rfl, h1, h2⟩
  · have h3 : i < 130 := by
      rcases Nat.lt_or_ge i 130 with h3 | h3
      · exact h3
      · obtain rfl : i = 130 := by omega
        rw [not_ge15 (by simpa using h2)] at hg
        exact absurd hg (by decide)
    refine ⟨by omega, ⟨i, .inr ⟨rfl, h3, ?_⟩⟩, hk⟩
    obtain ⟨k, hk⟩ : ∃ k, 130 - i = k := ⟨_, rfl⟩
    rw [hk] at h2 ⊢
    exact bd_quo_s (v := 1) h2 los_two (by generalize 2 ^ k = z; omega) (rp_of 9 k rfl (by decide) (by decide) (by omega)) (by omega)
  · refine ⟨by omega, ⟨i + 1, .inl ⟨by omega, by omega, ?_⟩⟩, hk⟩
    obtain ⟨k, hk⟩ : ∃ k, 130 - (i + 1) = k := ⟨_, rfl⟩
    rw [show 130 - i = k + 1 by omega] at h2
    rw [hk]
    exact bd_quo_s (v := 1) h2 los_two (by rw [Nat.pow_succ]; generalize 2 ^ k = z; omega) (rp_of 1 k (by rw [Nat.one_mul]) (by decide) (by decide) (by omega)) (by omega)
theorem halveC_go {j : Nat} {X : Option Nat} (h : HI j X) (hg : ge15 X = true) : halveC (260 - j) X j = halveC (260 - (j + 1)) (fop .quo .f64 X (some two)) (j + 1) := by
  have := (h.step hg).1
  rw [show 260 - j = (260 - (j + 1)) + 1 by omega, halveC, if_pos hg]
theorem halveC_end {f j : Nat} {X : Option Nat} (hg : ge15 X = false) : halveC f X j = (X, j) := by
  cases f with
  | zero => rfl
  | succ f => rw [halveC, if_neg (by rw [hg]; decide)]
def DI (j : Nat) (X : Option Nat) : Prop := Bd X 3 1 ∧ Po X ∧ Lw X (nU - 149 + j) ∧ j ≤ 149
theorem mag_of_rung {b q k : Nat} (h : Fp.rung Ieee.double b ≤ q * 4503599627370496 + 2251799813685248) (h1 : 1 ≤ q) (hk : 51 + (q - 1) = k) : mag b ≤ 3 * 2 ^ k := by
  unfold mag
  refine Nat.le_trans (V_mono (by decide) h) ?_
  rw [show Ieee.double.binade = 4503599627370496 by decide, Fp.V_big (by omega), show (q * 4503599627370496 + 2251799813685248) % 4503599627370496 = 2251799813685248 by omega, show (q * 4503599627370496 + 2251799813685248) / 4503599627370496 = q by omega, show 4503599627370496 + 2251799813685248 = 3 * 2 ^ 51 by decide, Nat.mul_assoc, ← Nat.pow_add, hk]
  exact Nat.le_refl _
theorem HI.end_ {j : Nat} {X : Option Nat} (h : HI j X) (hg : ge15 X = false) : DI 0 X := by
  obtain ⟨a, c, hb⟩ := h.bd
  obtain ⟨_, hp, hl⟩ := h
  refine ⟨?_, hp, by rw [Nat.add_zero]; exact hl, by decide⟩
  intro b hb'
  subst hb'
  rw [ge15_iff hb, decide_eq_false_iff_not, sr_pos (hp b rfl)] at hg
  refine ⟨(hb b rfl).1, ?_⟩
  have hn := nU_eq
  obtain ⟨q, hq⟩ : ∃ q, q = 1023 := ⟨_, rfl⟩
  have := mag_of_rung (b := b) (q := q) (k := 51 + (q - 1)) (by omega) (by omega) rfl
  refine Nat.le_trans (Nat.mul_le_mul_right _ this) ?_
  rw [Nat.mul_assoc, ← Nat.pow_add]
  exact Nat.mul_le_mul_left _ (Nat.pow_le_pow_right (by decide) (by omega))
theorem DI.step {j : Nat} {X : Option Nat} (h : DI j X) (hg : lt075 X = true) : j < 149 ∧ DI (j + 1) (fop .mul .f64 X (some two)) := by
  obtain ⟨hb, hp, hl, hj⟩ := h
  have hn := nU_eq
  have hj2 : j < 149 := by
    rcases Nat.lt_or_ge j 149 with h3 | h3
    · exact h3
    · obtain rfl : j = 149 := by omega
      rw [not_lt075 hb hp (by rwa [show nU - 149 + 149 = nU by omega] at hl)] at hg
      exact absurd hg (by decide)
  have hb2 : Bd X 3 2 := by
    intro b hb'
    subst hb'
    rw [lt075_iff hb, decide_eq_true_eq, sr_pos (hp b rfl)] at hg
    refine ⟨(hb b rfl).1, ?_⟩
    obtain ⟨q, hq⟩ : ∃ q, q = 1022 := ⟨_, rfl⟩
    have := mag_of_rung (b := b) (q := q) (k := 51 + (q - 1)) (by omega) (by omega) rfl
    refine Nat.le_trans (Nat.mul_le_mul_right _ this) ?_
    rw [Nat.mul_assoc, ← Nat.pow_add]
    exact Nat.mul_le_mul_left _ (Nat.pow_le_pow_right (by decide) (by omega))
  exact ⟨hj2, bd_mul hb2 bd_two' (by decide) (rp_of 3 0 rfl (by decide) (by decide) (by decide)) (by omega), po_mul hb2 bd_two' hp po_two, lw_mul hb2 bd_two' hl lw_two (by omega) (by omega), by omega⟩
theorem dblC_go {j : Nat} {X : Option Nat} (h : DI j X) (hg : lt075 X = true) : dblC (149 - j) X j = dblC (149 - (j + 1)) (fop .mul .f64 X (some two)) (j + 1) := by
  have := (h.step hg).1
  rw [show 149 - j = (149 - (j + 1)) + 1 by omega, dblC, if_pos hg]
theorem dblC_end {f j : Nat} {X : Option Nat} (hg : lt075 X = false) : dblC f X j = (X, j) := by
  cases f with
  | zero => rfl
  | succ f => rw [dblC, if_neg (by rw [hg]; decide)]

/-! ### The series -/
def kL (j : Nat) : Option Nat := some (floatOfInt .f64 (25 - 2 * (j : Int)))
def logQ (U : Option Nat) : Nat → Option Nat
  | 0 => some 0
  | j + 1 => fop .add .f64 (fop .quo .f64 (some 4607182418800017408) (kL j)) (fop .mul .f64 U (logQ U j))
theorem lo_kL : ∀ j, j < 13 → Lo (kL j) := by
  intro j hj
  have key : ∀ i : Fin 13, Fp.rung Ieee.double one ≤ Fp.rung Ieee.double (floatOfInt .f64 (25 - 2 * (i.val : Int))) ∧ Fp.rung Ieee.double (floatOfInt .f64 (25 - 2 * (i.val : Int))) ≤ Ieee.double.infRung := by decide
  obtain ⟨h1, h2⟩ := key ⟨j, hj⟩
  exact lo_of h1 h2
theorem bd_zero : Bd (some 0) 1 0 := by
  intro b hb
  obtain rfl := Option.some.inj hb
  have := bd_zero_word false 1 0
  rwa [show Ieee.double.word false 0 = 0 by decide] at this
theorem logQ_bd {U : Option Nat} (hU : Bd U 9 0) : ∀ j, j ≤ 13 → Bd (logQ U j) (2 ^ (4 * j)) 0 := by
  intro j
  induction j with
  | zero => intro _; exact bd_zero
  | succ j ih =>
    intro hj
    have z : 0 ≤ nU := Nat.zero_le _
    have h1 := bd_quo (e := 2) (g := 0) bd_one (lo_kL j (by omega)) (by decide) (rp_of 2 0 (by decide) (by decide) (by decide) (by decide)) z
    have hk : 1 ≤ 2 ^ (4 * j) := Nat.one_le_two_pow
    have h2 := bd_mul (e := 9 * 2 ^ (4 * j)) (g := 0) hU (ih (by omega)) (Nat.le_refl _) (rp_of 9 (4 * j) rfl (by decide) (by decide) (by omega)) z
    refine bd_add (e := 2 ^ (4 * (j + 1))) (g := 0) h1 h2 ?_ (rp_of 1 (4 * (j + 1)) (by rw [Nat.one_mul]) (by decide) (by decide) (by omega)) z
    rw [show 4 * (j + 1) = 4 * j + 4 by omega, Nat.pow_add 2 (4 * j)]
    simp only [Nat.pow_zero, Nat.mul_one]
    generalize 2 ^ (4 * j) = y at *
    omega
def logS (L : Option Nat) : Option Nat := fop .quo .f64 (fop .sub .f64 L (some 4607182418800017408)) (fop .add .f64 L (some 4607182418800017408))
def logE (L E : Option Nat) : Option Nat :=
  fop .add .f64 (fop .mul .f64 (some two) (fop .mul .f64 (logS L) (logQ (fop .mul .f64 (logS L) (logS L)) 13))) (fop .mul .f64 E (some 4604418534313441775))
def logL (Y : Option Nat) : Option Nat := (dblC 149 (halveC 260 Y 0).1 0).1
def logN (Y : Option Nat) : Int := ((halveC 260 Y 0).2 : Int) - ((dblC 149 (halveC 260 Y 0).1 0).2 : Int)
def logW (Y : Option Nat) : Option Nat := logE (logL Y) (some (floatOfInt .f64 (logN Y)))
theorem logE_bd {L E : Option Nat} {j : Nat} (h : DI j L) (hE : Bd E 512 0) : Bd (logE L E) (2 ^ 60) 0 := by
  have z : 0 ≤ nU := Nat.zero_le _
  have hn := nU_eq
  obtain ⟨hb, hp, _, _⟩ := h
  have s1 := bd_sub (e := 5) (g := 1) hb bd_one (by decide) (rp_of 5 0 (by decide) (by decide) (by decide) (by decide)) (by omega)
  have s2 := bd_quo (e := 3) (g := 0) s1 (lo_add_one hb hp) (by decide) (rp_of 3 0 (by decide) (by decide) (by decide) (by decide)) z
  have s3 := bd_mul (e := 9) (g := 0) s2 s2 (by decide) (rp_of 9 0 (by decide) (by decide) (by decide) (by decide)) z
  have s4 := logQ_bd s3 13 (Nat.le_refl _)
  have s5 := bd_mul (e := 2 ^ 54) (g := 0) s2 s4 (by decide) (rp_of 1 54 (by decide) (by decide) (by decide) (by decide)) z
  have s6 := bd_mul (e := 2 ^ 55) (g := 0) bd_two' s5 (by decide) (rp_of 1 55 (by decide) (by decide) (by decide) (by decide)) z
  have s7 := bd_word (b := 4604418534313441775) 1022 (by decide) (by decide) (by decide)
  have s8 := bd_mul (e := 512) (g := 0) hE s7 (by decide) (rp_of 512 0 (by decide) (by decide) (by decide) (by decide)) z
  exact bd_add (e := 2 ^ 60) (g := 0) s6 s8 (by decide) (rp_of 1 60 (by decide) (by decide) (by decide) (by decide)) z
end Go.Proofs.Ytpeflkakljaheaa
