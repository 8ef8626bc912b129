/- How great a result can be: sums, products, quotients and roots of bounded numbers of 64 bits are bounded, and a bounded one fits into 32 bits. Conditions: none. -/
import Derived.Test.YtpeflkakljaheaaFb
set_option linter.unusedVariables false
set_option linter.unusedSimpArgs false
namespace Go.Proofs.Ytpeflkakljaheaa
open Go.RowKit Ieee
namespace Fc
open Fb

@[irreducible] def nU : Nat := 1074
theorem nU_eq : nU = 1074 := by unfold nU; rfl
theorem place64 : Ieee.double.leastPlace = -(nU : Int) := by rw [nU_eq]; decide
/-- How many least units a word of 64 bits has. -/
def mag (b : Nat) : Nat := Fp.V Ieee.double.binade (Fp.rung Ieee.double b)
/-- A number, if it is one, is finite and of a size of no more than a / 2^c. -/
def Bd (X : Option Nat) (a c : Nat) : Prop := ∀ b, X = some b → Fp.rung Ieee.double b < Ieee.double.infRung ∧ mag b * 2 ^ c ≤ a * 2 ^ nU
/-- A number, if it is one, has a size of no less than 1. -/
def Lo (X : Option Nat) : Prop := ∀ b, X = some b → Fp.rung Ieee.double b ≤ Ieee.double.infRung ∧ 2 ^ nU ≤ mag b
theorem bd_none (a c : Nat) : Bd none a c := fun b h => by cases h
theorem lo_none : Lo none := fun b h => by cases h
theorem bd_mono {X : Option Nat} {a c e g : Nat} (h : Bd X a c) (hc : a * 2 ^ g ≤ e * 2 ^ c) : Bd X e g := fun b hb => by
  obtain ⟨h1, h2⟩ := h b hb
  refine ⟨h1, ?_⟩
  refine Nat.le_of_mul_le_mul_right ?_ (Nat.two_pow_pos c)
  calc mag b * 2 ^ g * 2 ^ c = mag b * 2 ^ c * 2 ^ g := by rw [Nat.mul_right_comm]
    _ ≤ a * 2 ^ nU * 2 ^ g := Nat.mul_le_mul_right _ h2
    _ = a * 2 ^ g * 2 ^ nU := by rw [Nat.mul_right_comm]
    _ ≤ e * 2 ^ c * 2 ^ nU := Nat.mul_le_mul_right _ hc
    _ = e * 2 ^ nU * 2 ^ c := by rw [Nat.mul_right_comm]
theorem log2_le {K j : Nat} {n : Nat} (h0 : 0 < K) (hK : K < 2 ^ n) : (K * 2 ^ j).log2 < n + j := by
  refine (Nat.log2_lt (Nat.ne_of_gt (Nat.mul_pos h0 (Nat.two_pow_pos _)))).2 ?_
  rw [Nat.pow_add]; exact Nat.mul_lt_mul_of_pos_right hK (Nat.two_pow_pos _)
/-- A bound is a number of the format. -/
def Rp (e g : Nat) : Prop := ∃ R, R < Ieee.double.infRung ∧ Fp.V Ieee.double.binade R = e * 2 ^ (nU - g)
theorem rp_of {e g : Nat} (K j : Nat) (h : e = K * 2 ^ j) (h0 : 0 < K) (he : K < 2 ^ 53) (hj : j ≤ 900) : Rp e g := by
  have e1 : e * 2 ^ (nU - g) = K * 2 ^ (j + (nU - g)) := by rw [h, Nat.mul_assoc, ← Nat.pow_add]
  obtain ⟨R, h1, h2⟩ := exists_rung Ieee.double (e * 2 ^ (nU - g)) K (j + (nU - g)) (by rw [e1]; exact Nat.mul_pos h0 (Nat.two_pow_pos _)) e1 he
  refine ⟨R, Nat.lt_of_lt_of_le h2 ?_, h1⟩
  have := log2_le (j := j + (nU - g)) h0 he
  rw [← e1] at this
  have hn := nU_eq
  generalize (e * 2 ^ (nU - g)).log2 = l at *
  show (l - 52 + 2) * 4503599627370496 ≤ 2047 * 4503599627370496
  exact Nat.mul_le_mul_right _ (by omega)
theorem near_le (s : Bool) {m r0 E F : Nat} {p : Int} (hp : p + nU = (E : Int) - F) (hr : r0 < Ieee.double.infRung) (h : m * 2 ^ E ≤ Fp.V Ieee.double.binade r0 * 2 ^ F) : ∃ r, r ≤ r0 ∧ Ieee.double.nearest s m p = Ieee.double.word s r := by
  refine nearest_le Ieee.double s hr ?_
  rw [place64]
  rcases Nat.le_total F E with h1 | h1
  · rw [show (p - -(nU : Int)).toNat = E - F by omega, show (-(nU : Int) - p).toNat = 0 by omega]
    refine Nat.le_of_mul_le_mul_right ?_ (Nat.two_pow_pos F)
    rw [Nat.mul_assoc, ← Nat.pow_add, Nat.sub_add_cancel h1]; simpa using h
  · rw [show (p - -(nU : Int)).toNat = 0 by omega, show (-(nU : Int) - p).toNat = F - E by omega]
    refine Nat.le_of_mul_le_mul_right ?_ (Nat.two_pow_pos E)
    rw [Nat.mul_assoc (Fp.V _ _), ← Nat.pow_add, Nat.sub_add_cancel h1]; simpa using h
theorem near_ge (s : Bool) {m r0 E F : Nat} {p : Int} (hm : 0 < m) (hp : p + nU = (E : Int) - F) (hr : r0 ≤ Ieee.double.infRung) (h : Fp.V Ieee.double.binade r0 * 2 ^ F ≤ m * 2 ^ E) : ∃ r, r0 ≤ r ∧ r ≤ Ieee.double.infRung ∧ Ieee.double.nearest s m p = Ieee.double.word s r := by
  refine nearest_ge Ieee.double s hm hr ?_
  rw [place64]
  rcases Nat.le_total F E with h1 | h1
  · rw [show (p - -(nU : Int)).toNat = E - F by omega, show (-(nU : Int) - p).toNat = 0 by omega]
    refine Nat.le_of_mul_le_mul_right ?_ (Nat.two_pow_pos F)
    rw [Nat.mul_assoc m, ← Nat.pow_add, Nat.sub_add_cancel h1]; simpa using h
  · rw [show (p - -(nU : Int)).toNat = 0 by omega, show (-(nU : Int) - p).toNat = F - E by omega]
    refine Nat.le_of_mul_le_mul_right ?_ (Nat.two_pow_pos E)
    rw [Nat.mul_assoc (Fp.V _ _), ← Nat.pow_add, Nat.sub_add_cancel h1]; simpa using h
theorem V_mono {B r r' : Nat} (hB : 0 < B) (h : r ≤ r') : Fp.V B r ≤ Fp.V B r' := by
  rcases Nat.eq_or_lt_of_le h with h | h
  · rw [h]; exact Nat.le_refl _
  · exact Nat.le_of_lt (Fp.V_lt hB h)
theorem sw : Ieee.double.infRung < Ieee.double.signWeight := by decide
/-- What is read of a finite word. -/
theorem read_fin {b : Nat} (h : Fp.rung Ieee.double b < Ieee.double.infRung) : ∃ m i A, Ieee.double.read b = .number (Fp.neg Ieee.double b) m i ∧ i + nU = ((A : Nat) : Int) ∧ m * 2 ^ A = mag b := by
  obtain ⟨m, i, h1, h2, h3⟩ := Fp.read_finite Ieee.double h
  rw [place64] at h2 h3
  exact ⟨m, i, (i - -(nU : Int)).toNat, h1, by omega, h3⟩
theorem out_le {s : Bool} {r r0 e g : Nat} (hr : r ≤ r0) (h0 : r0 < Ieee.double.infRung) (hV : Fp.V Ieee.double.binade r0 = e * 2 ^ (nU - g)) (hg : g ≤ nU) :
    Fp.rung Ieee.double (Ieee.double.word s r) < Ieee.double.infRung ∧ mag (Ieee.double.word s r) * 2 ^ g ≤ e * 2 ^ nU := by
  have hlt : r < Ieee.double.signWeight := by have := sw; omega
  obtain ⟨h1, _⟩ := Fp.rung_word Ieee.double s hlt
  refine ⟨by rw [h1]; omega, ?_⟩
  unfold mag
  rw [h1]
  have h2 : Fp.V Ieee.double.binade r ≤ e * 2 ^ (nU - g) := hV ▸ V_mono (by decide) hr
  refine Nat.le_trans (Nat.mul_le_mul_right _ h2) ?_
  rw [Nat.mul_assoc, ← Nat.pow_add, Nat.sub_add_cancel hg]; exact Nat.le_refl _
theorem fop_some {op : BinOp} {X Y : Option Nat} {t : Nat} (h : fop op .f64 X Y = some t) : ∃ a b, X = some a ∧ Y = some b ∧ floatBits op .f64 a b = some t := by
  cases X with
  | none => cases h
  | some a => cases Y with
    | none => cases h
    | some b => exact ⟨a, b, rfl, rfl, h⟩
theorem bd_mul {X Y : Option Nat} {a c b d e g : Nat} (hX : Bd X a c) (hY : Bd Y b d) (h : a * b * 2 ^ g ≤ e * 2 ^ (c + d)) (hR : Rp e g) (hg : g ≤ nU) : Bd (fop .mul .f64 X Y) e g := by
  intro t ht
  obtain ⟨x, y, rfl, rfl, hf⟩ := fop_some ht
  obtain ⟨hx1, hx2⟩ := hX x rfl
  obtain ⟨hy1, hy2⟩ := hY y rfl
  obtain ⟨m, i, A, e1, e2, e3⟩ := read_fin hx1
  obtain ⟨n, j, D, e4, e5, e6⟩ := read_fin hy1
  obtain ⟨r0, hr0, hV⟩ := hR
  have hf' : ((Ieee.double.read x).product (Ieee.double.read y)).map Ieee.double.write = some t := hf
  rw [e1, e4] at hf'
  have ht' : Ieee.double.nearest (Fp.neg Ieee.double x ^^ Fp.neg Ieee.double y) (m * n) (i + j) = t := Option.some.inj hf'
  obtain ⟨r, hr, hn⟩ := near_le (Fp.neg Ieee.double x ^^ Fp.neg Ieee.double y) (m := m * n) (r0 := r0) (E := A + D) (F := nU) (p := i + j) (by omega) hr0 (by
    rw [hV]
    refine Nat.le_of_mul_le_mul_right ?_ (Nat.mul_pos (Nat.two_pow_pos (c + d)) (Nat.two_pow_pos g))
    have l1 : m * n * 2 ^ (A + D) * (2 ^ (c + d) * 2 ^ g) = (mag x * 2 ^ c) * (mag y * 2 ^ d) * 2 ^ g := by
      rw [← e3, ← e6, Nat.pow_add 2 A, Nat.pow_add 2 c]; simp only [Nat.mul_assoc, Nat.mul_left_comm, Nat.mul_comm]
    have l2 : e * 2 ^ (nU - g) * 2 ^ nU * (2 ^ (c + d) * 2 ^ g) = e * 2 ^ (c + d) * (2 ^ nU * 2 ^ nU) := by
      have : 2 ^ (nU - g) * 2 ^ g = 2 ^ nU := by rw [← Nat.pow_add, Nat.sub_add_cancel hg]
      calc e * 2 ^ (nU - g) * 2 ^ nU * (2 ^ (c + d) * 2 ^ g) = e * 2 ^ (c + d) * (2 ^ nU * (2 ^ (nU - g) * 2 ^ g)) := by simp only [Nat.mul_assoc, Nat.mul_left_comm, Nat.mul_comm]
        _ = _ := by rw [this]
    rw [l1, l2]
    refine Nat.le_trans (Nat.mul_le_mul_right _ (Nat.mul_le_mul hx2 hy2)) ?_
    calc a * 2 ^ nU * (b * 2 ^ nU) * 2 ^ g = a * b * 2 ^ g * (2 ^ nU * 2 ^ nU) := by simp only [Nat.mul_assoc, Nat.mul_left_comm, Nat.mul_comm]
      _ ≤ _ := Nat.mul_le_mul_right _ h)
  rw [← ht', hn]
  exact out_le hr hr0 hV hg
theorem natAbs_le (s t : Bool) (m n i j : Nat) : (signed s m i + signed t n j).natAbs ≤ m * 2 ^ i + n * 2 ^ j := by
  rw [Fp.signed_sg, Fp.signed_sg]
  unfold Fp.sg
  generalize m * 2 ^ i = a
  generalize n * 2 ^ j = b
  split <;> split <;> omega
theorem sum_le {s t : Bool} {m n : Nat} {i j : Int} {A D e g c d a b u : Nat} (hA : i + nU = ((A : Nat) : Int)) (hD : j + nU = ((D : Nat) : Int)) (hx : m * 2 ^ A * 2 ^ c ≤ a * 2 ^ nU) (hy : n * 2 ^ D * 2 ^ d ≤ b * 2 ^ nU)
    (h : (a * 2 ^ d + b * 2 ^ c) * 2 ^ g ≤ e * 2 ^ (c + d)) (hR : Rp e g) (hg : g ≤ nU) (hu : ((Datum.number s m i).sum (.number t n j)).map Ieee.double.write = some u) :
    Fp.rung Ieee.double u < Ieee.double.infRung ∧ mag u * 2 ^ g ≤ e * 2 ^ nU := by
  obtain ⟨r0, hr0, hV⟩ := hR
  unfold Datum.sum at hu
  dsimp only at hu
  obtain ⟨s', hs'⟩ : ∃ s', s' = (if signed s m (i - min i j).toNat + signed t n (j - min i j).toNat = 0 then s && t else decide (signed s m (i - min i j).toNat + signed t n (j - min i j).toNat < 0)) := ⟨_, rfl⟩
  have hu' : Ieee.double.nearest s' (signed s m (i - min i j).toNat + signed t n (j - min i j).toNat).natAbs (min i j) = u := by rw [hs']; exact Option.some.inj hu
  have hle := natAbs_le s t m n (i - min i j).toNat (j - min i j).toNat
  obtain ⟨B, hB⟩ : ∃ B : Nat, min i j + nU = (B : Int) := ⟨(min i j + nU).toNat, by omega⟩
  have eA : A = (i - min i j).toNat + B := by omega
  have eD : D = (j - min i j).toNat + B := by omega
  generalize (signed s m (i - min i j).toNat + signed t n (j - min i j).toNat).natAbs = q at *
  obtain ⟨r, hr, hn⟩ := near_le s' (m := q) (r0 := r0) (E := B) (F := 0) (p := min i j) (by omega) hr0 (by
    rw [hV, Nat.pow_zero, Nat.mul_one]
    have l0 : q * 2 ^ B ≤ m * 2 ^ A + n * 2 ^ D := by
      refine Nat.le_trans (Nat.mul_le_mul_right _ hle) ?_
      rw [Nat.add_mul, eA, eD, Nat.pow_add, Nat.pow_add, Nat.mul_assoc, Nat.mul_assoc]; exact Nat.le_refl _
    refine Nat.le_trans l0 ?_
    refine Nat.le_of_mul_le_mul_right ?_ (Nat.mul_pos (Nat.two_pow_pos (c + d)) (Nat.two_pow_pos g))
    have l2 : e * 2 ^ (nU - g) * (2 ^ (c + d) * 2 ^ g) = e * 2 ^ (c + d) * 2 ^ nU := by
      have : 2 ^ (nU - g) * 2 ^ g = 2 ^ nU := by rw [← Nat.pow_add, Nat.sub_add_cancel hg]
      calc e * 2 ^ (nU - g) * (2 ^ (c + d) * 2 ^ g) = e * 2 ^ (c + d) * (2 ^ (nU - g) * 2 ^ g) := by simp only [Nat.mul_assoc, Nat.mul_left_comm, Nat.mul_comm]
        _ = _ := by rw [this]
    rw [l2]
    generalize m * 2 ^ A = x at *
    generalize n * 2 ^ D = y at *
    calc (x + y) * (2 ^ (c + d) * 2 ^ g) = (x * 2 ^ c * 2 ^ d + y * 2 ^ d * 2 ^ c) * 2 ^ g := by rw [Nat.pow_add, Nat.add_mul, Nat.add_mul]; simp only [Nat.mul_assoc, Nat.mul_left_comm, Nat.mul_comm]
      _ ≤ (a * 2 ^ nU * 2 ^ d + b * 2 ^ nU * 2 ^ c) * 2 ^ g := Nat.mul_le_mul_right _ (Nat.add_le_add (Nat.mul_le_mul_right _ hx) (Nat.mul_le_mul_right _ hy))
      _ = (a * 2 ^ d + b * 2 ^ c) * 2 ^ g * 2 ^ nU := by rw [Nat.add_mul, Nat.add_mul, Nat.add_mul]; simp only [Nat.mul_assoc, Nat.mul_left_comm, Nat.mul_comm]
      _ ≤ _ := Nat.mul_le_mul_right _ h)
  rw [← hu', hn]
  exact out_le hr hr0 hV hg
theorem bd_add {X Y : Option Nat} {a c b d e g : Nat} (hX : Bd X a c) (hY : Bd Y b d) (h : (a * 2 ^ d + b * 2 ^ c) * 2 ^ g ≤ e * 2 ^ (c + d)) (hR : Rp e g) (hg : g ≤ nU) : Bd (fop .add .f64 X Y) e g := by
  intro t ht
  obtain ⟨x, y, rfl, rfl, hf⟩ := fop_some ht
  obtain ⟨hx1, hx2⟩ := hX x rfl
  obtain ⟨hy1, hy2⟩ := hY y rfl
  obtain ⟨m, i, A, e1, e2, e3⟩ := read_fin hx1
  obtain ⟨n, j, D, e4, e5, e6⟩ := read_fin hy1
  have hf' : ((Ieee.double.read x).sum (Ieee.double.read y)).map Ieee.double.write = some t := hf
  rw [e1, e4] at hf'
  rw [← e3] at hx2
  rw [← e6] at hy2
  exact sum_le e2 e5 hx2 hy2 h hR hg hf'
theorem bd_sub {X Y : Option Nat} {a c b d e g : Nat} (hX : Bd X a c) (hY : Bd Y b d) (h : (a * 2 ^ d + b * 2 ^ c) * 2 ^ g ≤ e * 2 ^ (c + d)) (hR : Rp e g) (hg : g ≤ nU) : Bd (fop .sub .f64 X Y) e g := by
  intro t ht
  obtain ⟨x, y, rfl, rfl, hf⟩ := fop_some ht
  obtain ⟨hx1, hx2⟩ := hX x rfl
  obtain ⟨hy1, hy2⟩ := hY y rfl
  obtain ⟨m, i, A, e1, e2, e3⟩ := read_fin hx1
  obtain ⟨n, j, D, e4, e5, e6⟩ := read_fin hy1
  have hf' : ((Ieee.double.read x).sum (Ieee.double.read y).opposite).map Ieee.double.write = some t := hf
  rw [e1, e4] at hf'
  rw [← e3] at hx2
  rw [← e6] at hy2
  exact sum_le e2 e5 hx2 hy2 h hR hg hf'
/-- The quotient has so many digits that the one that is set where anything is left over does little. -/
theorem quot_le {m n more : Nat} (hm : 0 < m) (hn : 0 < n) (hmore : 54 + n.log2 ≤ m.log2 + more) : (2 * ((m <<< more) / n) + ((m <<< more) % n != 0).toNat) * n * 4 ≤ 9 * (m * 2 ^ more) := by
  rw [Nat.shiftLeft_eq]
  generalize hD : m * 2 ^ more = D
  have h1 : 2 ^ (53 : Nat) * n ≤ D := by
    have a1 := Nat.log2_self_le (n := m) (by omega)
    have a2 : n < 2 ^ (n.log2 + 1) := Nat.lt_log2_self
    calc 2 ^ 53 * n ≤ 2 ^ 53 * 2 ^ (n.log2 + 1) := Nat.mul_le_mul_left _ (Nat.le_of_lt a2)
      _ = 2 ^ (54 + n.log2) := by rw [← Nat.pow_add]; congr 1; omega
      _ ≤ 2 ^ (m.log2 + more) := Nat.pow_le_pow_right (by decide) hmore
      _ = 2 ^ m.log2 * 2 ^ more := Nat.pow_add _ _ _
      _ ≤ D := by rw [← hD]; exact Nat.mul_le_mul_right _ a1
  have h2 : 4 ≤ D / n := (Nat.le_div_iff_mul_le hn).2 (Nat.le_trans (Nat.mul_le_mul_right n (by decide)) h1)
  have h3 : D / n * n ≤ D := Nat.div_mul_le_self D n
  have h4 := Bool.toNat_le (D % n != 0)
  generalize (D % n != 0).toNat = z at *
  have h5 : (2 * (D / n) + z) * 4 ≤ 9 * (D / n) := by omega
  calc (2 * (D / n) + z) * n * 4 = (2 * (D / n) + z) * 4 * n := Nat.mul_right_comm _ _ _
    _ ≤ 9 * (D / n) * n := Nat.mul_le_mul_right _ h5
    _ = 9 * (D / n * n) := Nat.mul_assoc _ _ _
    _ ≤ 9 * D := Nat.mul_le_mul_left _ h3
theorem bd_zero_word (s : Bool) (e g : Nat) : Fp.rung Ieee.double (Ieee.double.word s 0) < Ieee.double.infRung ∧ mag (Ieee.double.word s 0) * 2 ^ g ≤ e * 2 ^ nU := by
  obtain ⟨h1, _⟩ := Fp.rung_word Ieee.double s (r := 0) (by decide)
  refine ⟨by rw [h1]; decide, ?_⟩
  unfold mag
  rw [h1, V_zero (by decide), Nat.zero_mul]; exact Nat.zero_le _
/-- A number, if it is one, has a size of no less than 2^s. -/
def Los (X : Option Nat) (s : Nat) : Prop := ∀ b, X = some b → Fp.rung Ieee.double b ≤ Ieee.double.infRung ∧ 2 ^ (nU + s) ≤ mag b
theorem bd_quo_s {X Y : Option Nat} {a c e g v : Nat} (hX : Bd X a c) (hY : Los Y v) (h : 9 * a * 2 ^ g ≤ 8 * e * 2 ^ (c + v)) (hR : Rp e g) (hg : g ≤ nU) : Bd (fop .quo .f64 X Y) e g := by
  intro t ht
  obtain ⟨x, y, rfl, rfl, hf⟩ := fop_some ht
  obtain ⟨hx1, hx2⟩ := hX x rfl
  obtain ⟨hy1, hy2⟩ := hY y rfl
  obtain ⟨m, i, A, e1, e2, e3⟩ := read_fin hx1
  obtain ⟨r0, hr0, hV⟩ := hR
  have hf' : ((Ieee.double.read x).quotient 54 (Ieee.double.read y)).map Ieee.double.write = some t := hf
  rcases Nat.eq_or_lt_of_le hy1 with hy | hy
  · rw [e1, Fp.read_inf Ieee.double (by decide) hy] at hf'
    have ht' : Ieee.double.nearest (Fp.neg Ieee.double x ^^ Fp.neg Ieee.double y) 0 0 = t := Option.some.inj hf'
    rw [← ht', Fp.nearest_zero]
    exact bd_zero_word _ _ _
  · obtain ⟨n, j, D, e4, e5, e6⟩ := read_fin hy
    have hn : 0 < n := by
      rcases Nat.eq_zero_or_pos n with h | h
      · subst h; rw [← e6, Nat.zero_mul] at hy2; have := Nat.two_pow_pos (nU + v); omega
      · exact h
    rw [e1, e4] at hf'
    unfold Datum.quotient at hf'
    simp only [Nat.ne_of_gt hn, if_false] at hf'
    have ht' : Ieee.double.nearest (Fp.neg Ieee.double x ^^ Fp.neg Ieee.double y) (2 * (m <<< (54 + n.log2 - m.log2) / n) + (m <<< (54 + n.log2 - m.log2) % n != 0).toNat) (i - j - (54 + n.log2 - m.log2 : Nat) - 1) = t := Option.some.inj hf'
    generalize hmore : 54 + n.log2 - m.log2 = more at *
    rcases Nat.eq_zero_or_pos m with hm | hm
    · subst hm
      have hz : 2 * (0 <<< more / n) + (0 <<< more % n != 0).toNat = 0 := by rw [Nat.zero_shiftLeft, Nat.zero_div, Nat.zero_mod]; rfl
      rw [hz, Fp.nearest_zero] at ht'
      rw [← ht']
      exact bd_zero_word _ _ _
    · have hq := quot_le (more := more) hm hn (by omega)
      generalize 2 * (m <<< more / n) + (m <<< more % n != 0).toNat = Q at *
      obtain ⟨r, hr, hnr⟩ := near_le (Fp.neg Ieee.double x ^^ Fp.neg Ieee.double y) (m := Q) (r0 := r0) (E := A + nU) (F := D + more + 1) (p := i - j - more - 1) (by omega) hr0 (by
        have l1 : Q * 2 ^ (A + nU) * 4 * 2 ^ v ≤ 9 * mag x * 2 ^ (more + D) := by
          calc Q * 2 ^ (A + nU) * 4 * 2 ^ v = Q * 4 * 2 ^ A * 2 ^ (nU + v) := by rw [Nat.pow_add, Nat.pow_add]; simp only [Nat.mul_assoc, Nat.mul_left_comm, Nat.mul_comm]
            _ ≤ Q * 4 * 2 ^ A * (n * 2 ^ D) := Nat.mul_le_mul_left _ (by rw [e6]; exact hy2)
            _ = Q * n * 4 * (2 ^ A * 2 ^ D) := by simp only [Nat.mul_assoc, Nat.mul_left_comm, Nat.mul_comm]
            _ ≤ 9 * (m * 2 ^ more) * (2 ^ A * 2 ^ D) := Nat.mul_le_mul_right _ hq
            _ = _ := by rw [← e3, Nat.pow_add]; simp only [Nat.mul_assoc, Nat.mul_left_comm, Nat.mul_comm]
        have l2 : 9 * mag x ≤ 8 * Fp.V Ieee.double.binade r0 * 2 ^ v := by
          rw [hV]
          refine Nat.le_of_mul_le_mul_right ?_ (Nat.mul_pos (Nat.two_pow_pos c) (Nat.two_pow_pos g))
          have : 2 ^ (nU - g) * 2 ^ g = 2 ^ nU := by rw [← Nat.pow_add, Nat.sub_add_cancel hg]
          calc 9 * mag x * (2 ^ c * 2 ^ g) = 9 * (mag x * 2 ^ c) * 2 ^ g := by simp only [Nat.mul_assoc, Nat.mul_left_comm, Nat.mul_comm]
            _ ≤ 9 * (a * 2 ^ nU) * 2 ^ g := Nat.mul_le_mul_right _ (Nat.mul_le_mul_left _ hx2)
            _ = 9 * a * 2 ^ g * 2 ^ nU := by simp only [Nat.mul_assoc, Nat.mul_left_comm, Nat.mul_comm]
            _ ≤ 8 * e * 2 ^ (c + v) * 2 ^ nU := Nat.mul_le_mul_right _ h
            _ = 8 * e * 2 ^ (c + v) * (2 ^ (nU - g) * 2 ^ g) := by rw [this]
            _ = _ := by rw [Nat.pow_add 2 c]; simp only [Nat.mul_assoc, Nat.mul_left_comm, Nat.mul_comm]
        refine Nat.le_of_mul_le_mul_right ?_ (Nat.mul_pos (show 0 < 4 by decide) (Nat.two_pow_pos v))
        rw [← Nat.mul_assoc]
        refine Nat.le_trans l1 (Nat.le_trans (Nat.mul_le_mul_right _ l2) ?_)
        rw [show D + more + 1 = (more + D) + 1 by omega, Nat.pow_succ]
        refine Nat.le_of_eq ?_
        generalize 2 ^ (more + D) = k
        generalize Fp.V Ieee.double.binade r0 = v0
        generalize 2 ^ v = z
        rw [show v0 * (k * 2) * (4 * z) = v0 * k * z * (2 * 4) by simp only [Nat.mul_assoc, Nat.mul_left_comm, Nat.mul_comm], show 8 * v0 * z * k = v0 * k * z * 8 by simp only [Nat.mul_assoc, Nat.mul_left_comm, Nat.mul_comm]])
      rw [← ht', hnr]
      exact out_le hr hr0 hV hg
theorem bd_quo {X Y : Option Nat} {a c e g : Nat} (hX : Bd X a c) (hY : Lo Y) (h : 9 * a * 2 ^ g ≤ 8 * e * 2 ^ c) (hR : Rp e g) (hg : g ≤ nU) : Bd (fop .quo .f64 X Y) e g :=
  bd_quo_s (v := 0) hX hY h hR hg
end Fc
end Go.Proofs.Ytpeflkakljaheaa
