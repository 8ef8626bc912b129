/- Bounded numbers fit into 32 bits; roots are bounded. Conditions: none. -/
import Derived.Test.YtpeflkakljaheaaFc
set_option linter.unusedVariables false
set_option linter.unusedSimpArgs false
namespace Go.Proofs.Ytpeflkakljaheaa
open Go.RowKit Ieee
namespace Fc
open Fb

theorem fits_of_bd {X : Option Nat} {a c : Nat} (h : Bd X a c) (hc : a ≤ 2 ^ (127 + c)) : fits X = true := by
  cases X with
  | none => rfl
  | some b =>
    obtain ⟨h1, h2⟩ := h b rfl
    obtain ⟨m, i, A, e1, e2, e3⟩ := read_fin h1
    obtain ⟨j, hj⟩ : ∃ j, j = 276 := ⟨_, rfl⟩
    obtain ⟨r0, hV, hr0⟩ := exists_rung Ieee.single (1 * 2 ^ j) 1 j (Nat.mul_pos (by decide) (Nat.two_pow_pos _)) rfl (by decide)
    have hr1 : r0 < Ieee.single.infRung := by
      refine Nat.lt_of_lt_of_le hr0 ?_
      have := log2_le (j := j) (n := 1) (show 0 < 1 by decide) (by decide)
      generalize (1 * 2 ^ j).log2 = l at *
      show (l - 23 + 2) * 8388608 ≤ 255 * 8388608
      exact Nat.mul_le_mul_right _ (by omega)
    have hn := nU_eq
    have hnq := nq_eq
    have hV2 : mag b ≤ 2 ^ (127 + nU) := by
      refine Nat.le_of_mul_le_mul_right ?_ (Nat.two_pow_pos c)
      refine Nat.le_trans h2 (Nat.le_trans (Nat.mul_le_mul_right _ hc) ?_)
      rw [← Nat.pow_add, ← Nat.pow_add]
      exact Nat.pow_le_pow_right (by decide) (by omega)
    obtain ⟨r, hr, hnr⟩ := nearest_le Ieee.single (Fp.neg Ieee.double b) (m := m) (r0 := r0) (p := i) hr1 (by
      rw [hV, Nat.one_mul, show Ieee.single.leastPlace = -149 by decide]
      rw [← e3] at hV2
      rcases Nat.le_total nq A with h3 | h3
      · rw [show (i - -149).toNat = A - nq by omega, show (-149 - i).toNat = 0 by omega]
        refine Nat.le_of_mul_le_mul_right ?_ (Nat.two_pow_pos nq)
        rw [Nat.mul_assoc, ← Nat.pow_add, Nat.sub_add_cancel h3, Nat.pow_zero, Nat.mul_one, ← Nat.pow_add]
        exact Nat.le_trans hV2 (Nat.pow_le_pow_right (by decide) (by omega))
      · rw [show (i - -149).toNat = 0 by omega, show (-149 - i).toNat = nq - A by omega]
        refine Nat.le_of_mul_le_mul_right ?_ (Nat.two_pow_pos A)
        rw [Nat.pow_zero, Nat.mul_one, Nat.mul_assoc, ← Nat.pow_add, Nat.sub_add_cancel h3, ← Nat.pow_add]
        exact Nat.le_trans hV2 (Nat.pow_le_pow_right (by decide) (by omega)))
    have hfit : floatToFloatBits .f64 b .f32 = some (Ieee.single.word (Fp.neg Ieee.double b) r) := by
      unfold floatToFloatBits
      rw [if_neg (by decide)]
      show (match Ieee.double.read b with | .nan _ _ => none | .infinity s => some (FloatKind.f32.encode (.infinity s)) | .number s m e => if (FloatKind.f32.decode (FloatKind.f32.encode (.number s m e))).isInfinity then none else some (FloatKind.f32.encode (.number s m e))) = _
      rw [e1]
      show (if (Ieee.single.read (Ieee.single.nearest (Fp.neg Ieee.double b) m i)).isInfinity then none else some (Ieee.single.nearest (Fp.neg Ieee.double b) m i)) = _
      rw [hnr]
      have hlt : r < Ieee.single.signWeight := Nat.lt_of_le_of_lt hr (Nat.lt_trans hr1 (by decide))
      obtain ⟨g1, g2⟩ := Fp.rung_word Ieee.single (Fp.neg Ieee.double b) hlt
      obtain ⟨m', i', g3, _⟩ := Fp.read_finite Ieee.single (b := Ieee.single.word (Fp.neg Ieee.double b) r) (by rw [g1]; omega)
      rw [g3]; rfl
    show (floatToFloatBits .f64 b .f32).isSome = true
    rw [hfit]; rfl

/-! ### Sizes of no less than 1 -/
def one : Nat := 4607182418800017408
theorem mag_one : mag one = 2 ^ nU := by
  obtain ⟨B, hB⟩ : ∃ B, B = Ieee.double.binade := ⟨_, rfl⟩
  have h1 : Fp.rung Ieee.double one = 1023 * 4503599627370496 := by decide
  have h2 : Ieee.double.binade = 4503599627370496 := by decide
  obtain ⟨j, hj⟩ : ∃ j, j = 1022 := ⟨_, rfl⟩
  unfold mag
  rw [h1, h2, Fp.V_big (by decide), show 1023 * 4503599627370496 % 4503599627370496 = 0 by decide, show 1023 * 4503599627370496 / 4503599627370496 - 1 = 1022 by decide, ← hj, Nat.add_zero, show 4503599627370496 = 2 ^ 52 by decide, ← Nat.pow_add]
  have := nU_eq
  rw [show 52 + j = nU by omega]
theorem lo_of {b : Nat} (h : Fp.rung Ieee.double one ≤ Fp.rung Ieee.double b) (h2 : Fp.rung Ieee.double b ≤ Ieee.double.infRung) : Lo (some b) := by
  intro x hx
  obtain rfl := Option.some.inj hx
  exact ⟨h2, by rw [← mag_one]; exact V_mono (by decide) h⟩
theorem rung_ge {b : Nat} (h : 2 ^ nU ≤ mag b) : Fp.rung Ieee.double one ≤ Fp.rung Ieee.double b := by
  rcases Nat.lt_or_ge (Fp.rung Ieee.double b) (Fp.rung Ieee.double one) with h1 | h1
  · have := Fp.V_lt (B := Ieee.double.binade) (by decide) h1
    rw [← mag_one] at h
    exact absurd h (Nat.not_le.2 this)
  · exact h1
/-- A number, if it is one, has no sign. -/
def Po (X : Option Nat) : Prop := ∀ b, X = some b → Fp.neg Ieee.double b = false
theorem po_none : Po none := fun b h => by cases h
theorem po_square {X : Option Nat} {a c : Nat} (hX : Bd X a c) : Po (fop .mul .f64 X X) := by
  intro t ht
  obtain ⟨x, y, rfl, hxy, hf⟩ := fop_some ht
  obtain rfl := Option.some.inj hxy
  obtain ⟨hx1, _⟩ := hX x rfl
  obtain ⟨m, i, A, e1, e2, e3⟩ := read_fin hx1
  have hf' : ((Ieee.double.read x).product (Ieee.double.read x)).map Ieee.double.write = some t := hf
  rw [e1] at hf'
  have ht' : Ieee.double.nearest (Fp.neg Ieee.double x ^^ Fp.neg Ieee.double x) (m * m) (i + i) = t := Option.some.inj hf'
  rw [Bool.xor_self] at ht'
  rw [← ht']
  unfold Format.nearest
  dsimp only
  have key : ∀ r, r ≤ Ieee.double.infRung → Fp.neg Ieee.double (Ieee.double.word false r) = false := fun r h => (Fp.rung_word Ieee.double false (Nat.lt_of_le_of_lt h (by decide))).2
  split
  · exact key 0 (Nat.zero_le _)
  · exact key _ (Nat.min_le_right _ _)
theorem lo_add_one {X : Option Nat} {a c : Nat} (hX : Bd X a c) (hp : Po X) : Lo (fop .add .f64 X (some one)) := by
  intro t ht
  obtain ⟨x, y, rfl, hy, hf⟩ := fop_some ht
  obtain rfl := Option.some.inj hy
  obtain ⟨hx1, _⟩ := hX x rfl
  have hpx := hp x rfl
  obtain ⟨m, i, A, e1, e2, e3⟩ := read_fin hx1
  obtain ⟨n, j, D, e4, e5, e6⟩ := read_fin (b := one) (by decide)
  have hf' : ((Ieee.double.read x).sum (Ieee.double.read one)).map Ieee.double.write = some t := hf
  rw [e1, e4, hpx, show Fp.neg Ieee.double one = false by decide] at hf'
  unfold Datum.sum at hf'
  dsimp only at hf'
  have hs : signed false m (i - min i j).toNat + signed false n (j - min i j).toNat = ((m * 2 ^ (i - min i j).toNat + n * 2 ^ (j - min i j).toNat : Nat) : Int) := by
    rw [Fp.signed_sg, Fp.signed_sg]; simp [Fp.sg]
  rw [hs] at hf'
  have hn : 0 < n := by
    rcases Nat.eq_zero_or_pos n with h | h
    · subst h; rw [mag_one, Nat.zero_mul] at e6; have := Nat.two_pow_pos nU; omega
    · exact h
  have hpos : 0 < m * 2 ^ (i - min i j).toNat + n * 2 ^ (j - min i j).toNat := by have := Nat.mul_pos hn (Nat.two_pow_pos (j - min i j).toNat); omega
  obtain ⟨B, hB⟩ : ∃ B : Nat, min i j + nU = (B : Int) := ⟨(min i j + nU).toNat, by omega⟩
  have eD : D = (j - min i j).toNat + B := by omega
  have hge : mag one ≤ (m * 2 ^ (i - min i j).toNat + n * 2 ^ (j - min i j).toNat) * 2 ^ B := by
    rw [← e6, eD, Nat.pow_add, ← Nat.mul_assoc]
    exact Nat.mul_le_mul_right _ (Nat.le_add_left _ _)
  generalize m * 2 ^ (i - min i j).toNat + n * 2 ^ (j - min i j).toNat = q at *
  have ht' : Ieee.double.nearest (if (q : Int) = 0 then false && false else decide ((q : Int) < 0)) q (min i j) = t := Option.some.inj hf'
  obtain ⟨r, hr, hr2, hnr⟩ := near_ge (if (q : Int) = 0 then false && false else decide ((q : Int) < 0)) (m := q) (r0 := Fp.rung Ieee.double one) (E := B) (F := 0) (p := min i j) hpos (by omega) (by decide) (by rw [Nat.pow_zero, Nat.mul_one]; exact hge)
  rw [← ht', hnr]
  obtain ⟨g1, _⟩ := Fp.rung_word Ieee.double (if (q : Int) = 0 then false && false else decide ((q : Int) < 0)) (r := r) (Nat.lt_of_le_of_lt hr2 (by decide))
  exact lo_of (by rw [g1]; exact hr) (by rw [g1]; exact hr2) _ rfl

/-! ### Roots -/
theorem rootFrom_sq (n : Nat) : ∀ (todo root : Nat), root * root ≤ n → Datum.rootFrom n todo root * Datum.rootFrom n todo root ≤ n := by
  intro todo
  induction todo with
  | zero => intro root h; exact h
  | succ k ih =>
    intro root h
    unfold Datum.rootFrom
    dsimp only
    refine ih _ ?_
    split
    · assumption
    · exact h
theorem sqrt_fits {b : Nat} (h : Fp.rung Ieee.double b < Ieee.double.infRung) (hm : mag b ≤ 2 ^ (129 + nU)) : fits (Ieee.double.sqrt b) = true := by
  obtain ⟨m, i, A, e1, e2, e3⟩ := read_fin h
  unfold Format.sqrt
  rw [e1]
  generalize Fp.neg Ieee.double b = s
  unfold Datum.root
  by_cases h0 : m = 0
  · simp only [h0, if_true, Option.map_some]
    refine fits_of_bd (X := some (Ieee.double.nearest s 0 i)) (a := 1) (c := 0) ?_ (by decide)
    intro t ht
    obtain rfl := Option.some.inj ht
    rw [Fp.nearest_zero]; exact bd_zero_word _ _ _
  · simp only [h0, if_false]
    cases s
    · simp only [Bool.false_eq_true, if_false, Option.map_some]
      obtain ⟨more, hmore⟩ : ∃ more, more = 2 * (Ieee.double.fractionBits + 2) - m.log2 + ((i - (2 * (Ieee.double.fractionBits + 2) - m.log2 : Nat)) % 2).toNat := ⟨_, rfl⟩
      rw [← hmore]
      have hfb : Ieee.double.fractionBits = 52 := rfl
      rw [hfb] at hmore
      have hev : (i - more) % 2 = 0 ∧ more ≤ 109 := by omega
      clear hmore
      have hsq := rootFrom_sq (m <<< more) ((m <<< more).log2 / 2 + 1) 0 (Nat.zero_le _)
      generalize Datum.rootFrom (m <<< more) ((m <<< more).log2 / 2 + 1) 0 = whole at *
      have hz := Bool.toNat_le (whole * whole != m <<< more)
      generalize (whole * whole != m <<< more).toNat = z at *
      rw [Nat.shiftLeft_eq] at hsq
      have hn := nU_eq
      obtain ⟨E, hE⟩ : ∃ E : Nat, (i - more) / 2 - 1 + nU = (E : Int) := ⟨((i - more) / 2 - 1 + nU).toNat, by omega⟩
      have hEA : 2 * E + 2 + more = A + nU := by omega
      have hWE : whole * 2 ^ E < 2 ^ (65 + nU) := by
        rcases Nat.lt_or_ge (whole * 2 ^ E) (2 ^ (65 + nU)) with h1 | h1
        · exact h1
        · exfalso
          have h2 := Nat.mul_le_mul h1 h1
          have h3 : whole * 2 ^ E * (whole * 2 ^ E) * 2 ^ 2 ≤ m * 2 ^ A * 2 ^ nU := by
            calc whole * 2 ^ E * (whole * 2 ^ E) * 2 ^ 2 = whole * whole * (2 ^ (2 * E + 2)) := by rw [show 2 * E + 2 = E + E + 2 by omega, Nat.pow_add, Nat.pow_add]; simp only [Nat.mul_assoc, Nat.mul_left_comm, Nat.mul_comm]
              _ ≤ m * 2 ^ more * 2 ^ (2 * E + 2) := Nat.mul_le_mul_right _ hsq
              _ = m * 2 ^ (A + nU) := by rw [Nat.mul_assoc, ← Nat.pow_add]; congr 2; omega
              _ = _ := by rw [Nat.pow_add, Nat.mul_assoc]
          rw [e3] at h3
          have h4 : mag b * 2 ^ nU ≤ 2 ^ (129 + nU + nU) := by rw [Nat.pow_add 2 (129 + nU)]; exact Nat.mul_le_mul_right _ hm
          have h5 : 2 ^ (65 + nU) * 2 ^ (65 + nU) * 2 ^ 2 ≤ 2 ^ (129 + nU + nU) := Nat.le_trans (Nat.mul_le_mul_right _ h2) (Nat.le_trans h3 h4)
          rw [← Nat.pow_add, ← Nat.pow_add] at h5
          have := (Nat.pow_le_pow_iff_right (a := 2) (by decide)).1 h5
          omega
      have hEl : 2 ^ E ≤ 2 ^ (65 + nU) := by
        refine Nat.pow_le_pow_right (by decide) ?_
        have h1 : 2 ^ A ≤ 2 ^ (129 + nU) := by
          refine Nat.le_trans ?_ hm
          rw [← e3]; exact Nat.le_mul_of_pos_left _ (by omega)
        have := (Nat.pow_le_pow_iff_right (a := 2) (by decide)).1 h1
        omega
      obtain ⟨r0, hr0, hV⟩ := rp_of (e := 2 ^ 127) (g := 0) 1 127 (by rw [Nat.one_mul]) (by decide) (by decide) (by decide)
      refine fits_of_bd (X := some (Ieee.double.nearest false (2 * whole + z) ((i - more) / 2 - 1))) (a := 2 ^ 127) (c := 0) ?_ (Nat.le_refl _)
      intro t ht
      obtain rfl := Option.some.inj ht
      obtain ⟨r, hr, hnr⟩ := near_le false (m := 2 * whole + z) (r0 := r0) (E := E) (F := 0) (p := (i - more) / 2 - 1) (by omega) hr0 (by
        rw [hV, Nat.pow_zero, Nat.mul_one, Nat.sub_zero, ← Nat.pow_add]
        have h6 : (2 * whole + z) * 2 ^ E ≤ 2 * (whole * 2 ^ E) + 2 ^ E := by
          rw [Nat.add_mul, Nat.mul_assoc]
          exact Nat.add_le_add_left (by have := Nat.mul_le_mul_right (2 ^ E) hz; simpa using this) _
        have h7 : 2 ^ (127 + nU) = 2 ^ 62 * 2 ^ (65 + nU) := by rw [← Nat.pow_add]; congr 1; omega
        rw [h7]
        generalize 2 ^ (65 + nU) = k at *
        generalize whole * 2 ^ E = y at *
        generalize 2 ^ E = x at *
        have : (2 : Nat) ^ 62 = 4611686018427387904 := by decide
        omega)
      rw [hnr]
      exact out_le hr hr0 hV (Nat.zero_le _)
    · simp only [if_true, Option.map_none]; rfl
end Fc
end Go.Proofs.Ytpeflkakljaheaa
