/- From 32 bits to 64 and back: what a conversion gives, as a class; a number that was made wide and is narrowed is itself. Conditions: none. -/
import Derived.Test.YtajnncidkmafgaaDoorFl
set_option linter.unusedVariables false
set_option linter.unusedSimpArgs false
namespace Go.Proofs.YtajnncidkmafgaaDoor
open Go.RowKit Ieee

theorem exists_rung (f : Format) (N K j : Nat) (h0 : 0 < N) (hN : N = K * 2 ^ j) (hK : K < 2 ^ (f.fractionBits + 1)) : ∃ R, Fp.V f.binade R = N ∧ R < (N.log2 - f.fractionBits + 2) * f.binade := by
  have hB : 0 < f.binade := Nat.two_pow_pos _
  have eB : f.binade = 2 ^ f.fractionBits := rfl
  by_cases hs : N < f.binade
  · exact ⟨N, Fp.V_small hs, by rw [Nat.add_mul]; omega⟩
  · have hK0 : 0 < K := by
      rcases Nat.eq_zero_or_pos K with h | h
      · subst h; simp at hN; omega
      · exact h
    have hl : f.fractionBits ≤ N.log2 := (Nat.le_log2 (by omega)).2 (by rw [← eB]; omega)
    have hlK : N.log2 = K.log2 + j := by rw [hN]; exact Fp.log2_mul_pow hK0 j
    have hKl : K.log2 < f.fractionBits + 1 := (Nat.log2_lt (by omega)).2 hK
    obtain ⟨q, hq⟩ : ∃ q, N.log2 = f.fractionBits + q := ⟨_, (Nat.add_sub_of_le hl).symm⟩
    have hqj : q ≤ j := by omega
    obtain ⟨d, rfl⟩ : ∃ d, j = q + d := ⟨j - q, by omega⟩
    have hM : N = (K * 2 ^ d) * 2 ^ q := by rw [hN, Nat.mul_assoc, ← Nat.pow_add, Nat.add_comm d q]
    generalize K * 2 ^ d = M at hM
    have hN1 := Nat.log2_self_le (n := N) (by omega)
    have hN2 : N < 2 ^ (N.log2 + 1) := Nat.lt_log2_self
    rw [hq, Nat.pow_add] at hN1
    rw [hq, show f.fractionBits + q + 1 = (f.fractionBits + 1) + q by omega, Nat.pow_add _ (f.fractionBits + 1)] at hN2
    rw [hM] at hN1 hN2
    have h1 : f.binade ≤ M := Nat.le_of_mul_le_mul_right hN1 (Nat.two_pow_pos q)
    have h2 : M < 2 * f.binade := by
      have := Nat.lt_of_mul_lt_mul_right hN2
      rw [Nat.pow_succ, ← eB] at this; omega
    refine ⟨(q + 1) * f.binade + (M - f.binade), ?_, ?_⟩
    · have e1 : ((q + 1) * f.binade + (M - f.binade)) / f.binade = q + 1 := by
        rw [Nat.mul_comm, Nat.mul_add_div hB, Nat.div_eq_of_lt (by omega)]
      have e2 : ((q + 1) * f.binade + (M - f.binade)) % f.binade = M - f.binade := by
        rw [Nat.mul_comm, Nat.mul_add_mod, Nat.mod_eq_of_lt (by omega)]
      rw [Fp.V_big (by rw [Nat.add_mul]; omega), e1, e2, hM]
      congr 1
      omega
    · have e3 : (q + 2) * f.binade = (q + 1) * f.binade + f.binade := Nat.succ_mul _ _
      rw [show N.log2 - f.fractionBits = q by omega, e3]; omega
/-- How many binades lie between the least units. -/
def nq : Nat := 925
theorem nq_eq : nq = 925 := rfl
@[irreducible] def nw : Nat := 254
theorem nw_eq : nw = 254 := by unfold nw; rfl
def nv : Nat := 24 + nw
theorem nv_eq : nv = 278 := by unfold nv; rw [nw_eq]
theorem V32_form (r : Nat) : ∃ K j, Fp.V Ieee.single.binade r = K * 2 ^ j ∧ K < 2 ^ 24 := by
  by_cases h : r < 8388608
  · exact ⟨r, 0, by rw [Fp.V_small (B := Ieee.single.binade) h]; simp, by omega⟩
  · refine ⟨8388608 + r % 8388608, _, Fp.V_big (B := 8388608) (by omega), ?_⟩
    have := Nat.mod_lt r (show 0 < 8388608 by omega)
    omega
theorem widen (r : Nat) (h : r < Ieee.single.infRung) : ∃ R, R < Ieee.double.infRung ∧ Fp.V Ieee.double.binade R = Fp.V Ieee.single.binade r * 2 ^ nq := by
  have hr : r < 2139095040 := h
  have hnq := nq_eq
  have hnv := nv_eq
  rcases Nat.eq_zero_or_pos r with h0 | h0
  · subst h0; exact ⟨0, by decide, by rw [Fp.V_small (by decide), Fp.V_small (by decide), Nat.zero_mul]⟩
  · have hV : 0 < Fp.V Ieee.single.binade r := by
      have := Fp.V_lt (B := Ieee.single.binade) (by decide) h0
      rw [Fp.V_small (by decide)] at this; exact this
    obtain ⟨K, j, e, hK⟩ := V32_form r
    obtain ⟨R, h1, h2⟩ := exists_rung Ieee.double (Fp.V Ieee.single.binade r * 2 ^ nq) K (j + nq) (Nat.mul_pos hV (Nat.two_pow_pos _)) (by rw [e, Nat.mul_assoc, ← Nat.pow_add]) (Nat.lt_trans hK (by decide))
    refine ⟨R, Nat.lt_of_lt_of_le h2 ?_, h1⟩
    rw [Fp.log2_mul_pow hV]
    have hl : (Fp.V Ieee.single.binade r).log2 < nv := by
      refine (Nat.log2_lt (by omega)).2 ?_
      by_cases hs : r < 8388608
      · rw [Fp.V_small (B := Ieee.single.binade) hs]
        exact Nat.lt_of_lt_of_le (Nat.lt_trans hs (show 8388608 < 2 ^ 24 by decide)) (Nat.pow_le_pow_right (by decide) (Nat.le_add_right 24 nw))
      · rw [Fp.V_big (B := Ieee.single.binade) (show 8388608 ≤ r by omega)]
        have a1 : 8388608 + r % 8388608 < 2 ^ 24 := by have := Nat.mod_lt r (show 0 < 8388608 by omega); omega
        have a2 : 2 ^ (r / 8388608 - 1) ≤ 2 ^ nw := Nat.pow_le_pow_right (by decide) (by have := nw_eq; omega)
        have a3 : (8388608 + r % 8388608) * 2 ^ (r / 8388608 - 1) < 2 ^ 24 * 2 ^ (r / 8388608 - 1) := Nat.mul_lt_mul_of_pos_right a1 (Nat.two_pow_pos _)
        exact Nat.lt_of_lt_of_le a3 (Nat.le_trans (Nat.mul_le_mul_left (2 ^ 24) a2) (Nat.le_of_eq (Nat.pow_add 2 24 nw).symm))
    generalize (Fp.V Ieee.single.binade r).log2 = l at *
    show (l + nq - 52 + 2) * 4503599627370496 ≤ 2047 * 4503599627370496
    exact Nat.mul_le_mul_right _ (by omega)

theorem read32 (s : Bool) {r : Nat} (h : r < Ieee.single.infRung) : ∃ m i, Ieee.single.read (Ieee.single.word s r) = .number s m i ∧ (-149 : Int) ≤ i ∧ m * 2 ^ (i + 149).toNat = Fp.V Ieee.single.binade r := by
  have hlt : r < Ieee.single.signWeight := Nat.lt_of_lt_of_le h (by decide)
  obtain ⟨h1, h2⟩ := Fp.rung_word Ieee.single s hlt
  obtain ⟨m, i, he, hi, hv⟩ := Fp.read_finite Ieee.single (b := Ieee.single.word s r) (by rw [h1]; exact h)
  rw [h2] at he
  rw [h1] at hv
  exact ⟨m, i, he, hi, by rw [← hv]; rfl⟩
theorem read64 (s : Bool) {r : Nat} (h : r < Ieee.double.infRung) : ∃ m i, Ieee.double.read (Ieee.double.word s r) = .number s m i ∧ (-1074 : Int) ≤ i ∧ m * 2 ^ (i + 1074).toNat = Fp.V Ieee.double.binade r := by
  have hlt : r < Ieee.double.signWeight := Nat.lt_of_lt_of_le h (by decide)
  obtain ⟨h1, h2⟩ := Fp.rung_word Ieee.double s hlt
  obtain ⟨m, i, he, hi, hv⟩ := Fp.read_finite Ieee.double (b := Ieee.double.word s r) (by rw [h1]; exact h)
  rw [h2] at he
  rw [h1] at hv
  exact ⟨m, i, he, hi, by rw [← hv]; rfl⟩
theorem V_inj {B r r' : Nat} (hB : 0 < B) (h : Fp.V B r = Fp.V B r') : r = r' := by
  rcases Nat.lt_trichotomy r r' with h1 | h1 | h1
  · have := Fp.V_lt hB h1; omega
  · exact h1
  · have := Fp.V_lt hB h1; omega
theorem V_zero {B : Nat} (hB : 0 < B) : Fp.V B 0 = 0 := Fp.V_small hB
theorem V_pos {B r : Nat} (hB : 0 < B) (h : 0 < r) : 0 < Fp.V B r := by have := Fp.V_lt hB h; rw [V_zero hB] at this; exact this
/-- Made wide, a finite number's rung is the rung of as many units. -/
theorem wide_word (s : Bool) {r R : Nat} (h : r < Ieee.single.infRung) (hR : R < Ieee.double.infRung) (hV : Fp.V Ieee.double.binade R = Fp.V Ieee.single.binade r * 2 ^ nq) :
    floatToFloatBits .f32 (Ieee.single.word s r) .f64 = some (Ieee.double.word s R) ∧ floatToFloatBits .f64 (Ieee.double.word s R) .f32 = some (Ieee.single.word s r) := by
  have hnq := nq_eq
  obtain ⟨m, i, he, hi, hm⟩ := read32 s h
  obtain ⟨m', i', he', hi', hm'⟩ := read64 s hR
  have w64 : Ieee.double.nearest s m i = Ieee.double.word s R := by
    rcases Nat.eq_zero_or_pos R with h0 | h0
    · subst h0
      rw [V_zero (by decide)] at hV
      have hz : Fp.V Ieee.single.binade r = 0 := by
        rcases Nat.mul_eq_zero.1 hV.symm with h | h
        · exact h
        · exact absurd h (Nat.ne_of_gt (Nat.two_pow_pos _))
      rw [hz] at hm
      have : m = 0 := by
        rcases Nat.mul_eq_zero.1 hm with h | h
        · exact h
        · exact absurd h (Nat.ne_of_gt (Nat.two_pow_pos _))
      subst this
      exact Fp.nearest_zero _ _ _
    · refine Fp.nearest_exact Ieee.double s hR h0 (.inl ⟨?_, ?_⟩)
      · show (-1074 : Int) ≤ i; omega
      · show m * 2 ^ (i - (-1074)).toNat = _
        rw [hV, ← hm, show (i - (-1074)).toNat = (i + 149).toNat + nq by omega, Nat.pow_add, Nat.mul_assoc]
  have w32 : Ieee.single.nearest s m' i' = Ieee.single.word s r := by
    rcases Nat.eq_zero_or_pos r with h0 | h0
    · subst h0
      rw [V_zero (by decide), Nat.zero_mul] at hV
      rw [hV] at hm'
      have : m' = 0 := by
        rcases Nat.mul_eq_zero.1 hm' with h | h
        · exact h
        · exact absurd h (Nat.ne_of_gt (Nat.two_pow_pos _))
      subst this
      exact Fp.nearest_zero _ _ _
    · refine Fp.nearest_exact Ieee.single s h h0 ?_
      rw [hV] at hm'
      rcases Int.le_total (-149) i' with h1 | h1
      · refine .inl ⟨h1, ?_⟩
        show m' * 2 ^ (i' - (-149)).toNat = _
        rw [show (i' + 1074).toNat = (i' - (-149)).toNat + nq by omega, Nat.pow_add, ← Nat.mul_assoc] at hm'
        exact Nat.eq_of_mul_eq_mul_right (Nat.two_pow_pos _) hm'
      · refine .inr ⟨h1, ?_⟩
        show m' = _ * 2 ^ (-149 - i').toNat
        have e : 2 ^ nq = 2 ^ (-149 - i').toNat * 2 ^ (i' + 1074).toNat := by rw [← Nat.pow_add]; congr 1; omega
        rw [e, ← Nat.mul_assoc] at hm'
        exact Nat.eq_of_mul_eq_mul_right (Nat.two_pow_pos _) hm'
  constructor
  · unfold floatToFloatBits
    rw [if_neg (by decide)]
    show (match Ieee.single.read (Ieee.single.word s r) with | .nan _ _ => none | .infinity s => some (FloatKind.f64.encode (.infinity s)) | .number s m e => if (FloatKind.f64.decode (FloatKind.f64.encode (.number s m e))).isInfinity then none else some (FloatKind.f64.encode (.number s m e))) = _
    rw [he]
    show (if (Ieee.double.read (Ieee.double.nearest s m i)).isInfinity then none else some (Ieee.double.nearest s m i)) = _
    rw [w64, he']; rfl
  · unfold floatToFloatBits
    rw [if_neg (by decide)]
    show (match Ieee.double.read (Ieee.double.word s R) with | .nan _ _ => none | .infinity s => some (FloatKind.f32.encode (.infinity s)) | .number s m e => if (FloatKind.f32.decode (FloatKind.f32.encode (.number s m e))).isInfinity then none else some (FloatKind.f32.encode (.number s m e))) = _
    rw [he']
    show (if (Ieee.single.read (Ieee.single.nearest s m' i')).isInfinity then none else some (Ieee.single.nearest s m' i')) = _
    rw [w32, he]; rfl
theorem wide_inf (s : Bool) : floatToFloatBits .f32 (Ieee.single.word s Ieee.single.infRung) .f64 = some (Ieee.double.word s Ieee.double.infRung) ∧ floatToFloatBits .f64 (Ieee.double.word s Ieee.double.infRung) .f32 = some (Ieee.single.word s Ieee.single.infRung) := by
  cases s <;> decide

/-- A 32-bit number made wide: its sign, a rung of as many units (or the infinity), and the way back for either sign. -/
theorem wide_of {b : Nat} (hb : b < 2 ^ FloatKind.f32.format.width) (hn : isN .f32 b = false) : ∃ R, R ≤ Ieee.double.infRung ∧
    floatToFloatBits .f32 b .f64 = some (Ieee.double.word (Fp.neg Ieee.single b) R) ∧
    (∀ s, floatToFloatBits .f64 (Ieee.double.word s R) .f32 = some (Ieee.single.word s (Fp.rung Ieee.single b))) ∧
    ((Fp.rung Ieee.single b = Ieee.single.infRung ∧ R = Ieee.double.infRung) ∨ (Fp.rung Ieee.single b < Ieee.single.infRung ∧ R < Ieee.double.infRung ∧ Fp.V Ieee.double.binade R = Fp.V Ieee.single.binade (Fp.rung Ieee.single b) * 2 ^ nq)) := by
  have h2 : Fp.rung Ieee.single b ≤ Ieee.single.infRung := Fp.rung_le_of_not_nan _ (by decide) hn
  have hw : Ieee.single.word (Fp.neg Ieee.single b) (Fp.rung Ieee.single b) = b := Fp.word_parts Ieee.single hb
  rcases Nat.eq_or_lt_of_le h2 with h | h
  · refine ⟨Ieee.double.infRung, Nat.le_refl _, ?_, fun s => ?_, .inl ⟨h, rfl⟩⟩
    · conv => lhs; rw [← hw, h]
      exact (wide_inf _).1
    · rw [h]; exact (wide_inf s).2
  · obtain ⟨R, hR, hV⟩ := widen _ h
    refine ⟨R, Nat.le_of_lt hR, ?_, fun s => (wide_word s h hR hV).2, .inr ⟨h, hR, hV⟩⟩
    conv => lhs; rw [← hw]
    exact (wide_word _ h hR hV).1

/-! ### Classes -/
def wide (X : Option Nat) : Option Nat := X.bind fun a => floatToFloatBits .f32 a .f64
/-- Does a class fit into 32 bits (or is it none)? -/
def fits (X : Option Nat) : Bool := match X with | none => true | some a => (floatToFloatBits .f64 a .f32).isSome
def narrow (X : Option Nat) : Option Nat := X.bind fun a => floatToFloatBits .f64 a .f32
def cw (b : Nat) (w : World) : Nat := (floatToFloatBits .f32 b .f64).getD (nanB (.nanConv .f64 b) w)
def cwd (b : Nat) : Nat := if (floatToFloatBits .f32 b .f64).isSome then 0 else 1
def cn (b : Nat) (w : World) : Nat := (floatToFloatBits .f64 b .f32).getD (nanB (if isN .f64 b then .nanConv .f32 b else .floatToFloat b) w)
def cnd (b : Nat) : Nat := if (floatToFloatBits .f64 b .f32).isSome then 0 else 1
theorem f2f_nan {s d : FloatKind} {b : Nat} (hne : s ≠ d) (h : isN s b = true) : floatToFloatBits s b d = none := by
  unfold floatToFloatBits
  rw [if_neg hne]
  have h' : (s.decode b).isNaN = true := h
  cases hd : s.decode b with
  | nan _ _ => rfl
  | _ => rw [hd] at h'; simp [Datum.isNaN] at h'
theorem not_nan64 {s : Bool} {R : Nat} (h : R ≤ Ieee.double.infRung) : isN .f64 (Ieee.double.word s R) = false := read_word_nan Ieee.double s h
theorem not_nan32 {s : Bool} {R : Nat} (h : R ≤ Ieee.single.infRung) : isN .f32 (Ieee.single.word s R) = false := read_word_nan Ieee.single s h
theorem Fl.cw {b : Nat} {X : Option Nat} (h : Fl .f32 b X) (w : World) : Fl .f64 (cw b w) (wide X) := by
  rcases h.cases with ⟨rfl, n1⟩ | ⟨rfl, n1⟩
  · have he := f2f_nan (s := .f32) (d := .f64) (by decide) n1
    obtain ⟨g1, g2⟩ := nanConv_nan .f64 b w
    simp only [Proofs.YtajnncidkmafgaaDoor.cw, he, Option.getD_none, wide, Option.bind_none]
    exact .of_nan g2 g1
  · obtain ⟨R, h1, h2, _⟩ := wide_of h.wf n1
    simp only [Proofs.YtajnncidkmafgaaDoor.cw, h2, Option.getD_some, wide, Option.bind_some]
    exact .of_lit (Ieee.Format.word_lt Ieee.double _ (Nat.lt_of_le_of_lt h1 (by decide))) (not_nan64 h1)
theorem f2f_some {b r : Nat} (h : floatToFloatBits .f64 b .f32 = some r) : isN .f32 r = false ∧ r < 2 ^ FloatKind.f32.format.width := by
  unfold floatToFloatBits at h
  rw [if_neg (by decide)] at h
  split at h
  · cases h
  · cases h; exact ⟨write_not_nan _ rfl, Ieee.Format.write_lt _ _⟩
  · split at h
    · cases h
    · cases h; exact ⟨write_not_nan _ rfl, Ieee.Format.write_lt _ _⟩
theorem Fl.cn {b : Nat} {X : Option Nat} (h : Fl .f64 b X) (hf : fits X = true) (w : World) : Fl .f32 (cn b w) (narrow X) := by
  rcases h.cases with ⟨rfl, n1⟩ | ⟨rfl, n1⟩
  · have he := f2f_nan (s := .f64) (d := .f32) (by decide) n1
    obtain ⟨g1, g2⟩ := nanConv_nan .f32 b w
    simp only [Proofs.YtajnncidkmafgaaDoor.cn, he, Option.getD_none, narrow, Option.bind_none, n1, if_true]
    exact .of_nan g2 g1
  · simp only [fits] at hf
    obtain ⟨r, hr⟩ := Option.isSome_iff_exists.1 hf
    simp only [Proofs.YtajnncidkmafgaaDoor.cn, hr, Option.getD_some, narrow, Option.bind_some]
    exact .of_lit (f2f_some hr).2 (f2f_some hr).1

section run
variable {P : Program} (w : World) (src dst : TypeId)
theorem decode_nan {k : FloatKind} {b : Nat} (h : isN k b = true) : ∃ s t, k.decode b = .nan s t := by
  have h' : (k.decode b).isNaN = true := h
  cases hd : k.decode b with
  | nan s t => exact ⟨s, t, rfl⟩
  | _ => rw [hd] at h'; simp [Datum.isNaN] at h'
@[go_sem] theorem run_wide (b : Nat) (hs : (P.underlying src).isSome = true) (hd : P.underlying dst = some (.float .f64)) : (convert src dst (.float .f32 b)).run P w = .ok (.float .f64 (cw b w)) (w.drewN (cwd b)) := by
  cases hb : floatToFloatBits .f32 b .f64 with
  | some r =>
    rw [run_convert_float_float w src dst .f32 .f64 b r hs hd hb]
    simp [cw, cwd, hb, World.drewN_zero]
  | none =>
    have hn : isN .f32 b = true ∨ isN .f32 b = false := by cases isN .f32 b <;> simp
    obtain ⟨u, hs'⟩ := Option.isSome_iff_exists.1 hs
    have hq : (Question.nanConv .f64 b).forced = false := rfl
    unfold floatToFloatBits at hb
    rw [if_neg (by decide)] at hb
    split at hb
    · rename_i s t he
      cases u <;> simp [convert, run_underlying hs', run_underlying hd, Conv.floatToFloat, he, cw, cwd, floatToFloatBits, choose, Sem.run, hq, nanB, World.drewN]
    · cases hb
    · rename_i s m i he
      split at hb
      · rename_i hi
        exfalso
        have hn2 : isN .f32 b = false := by
          show (FloatKind.f32.decode b).isNaN = false
          rw [he]; rfl
        have key : ∀ c, c < 2 ^ FloatKind.f32.format.width → isN .f32 c = false → FloatKind.f32.decode c = .number s m i → (FloatKind.f64.decode (FloatKind.f64.encode (.number s m i))).isInfinity = true → False := by
          intro c hc hnc hdc hinf
          obtain ⟨R, h1, h2, _⟩ := wide_of hc hnc
          unfold floatToFloatBits at h2
          rw [if_neg (by decide), hdc] at h2
          simp [hinf] at h2
        have hred : FloatKind.f32.decode (b % 4294967296) = FloatKind.f32.decode b := by
          show Ieee.single.read _ = Ieee.single.read _
          unfold Format.read
          have e1 : b % 4294967296 / Ieee.single.signWeight % 2 = b / Ieee.single.signWeight % 2 := by
            show b % 4294967296 / 2147483648 % 2 = b / 2147483648 % 2; omega
          have e2 : b % 4294967296 % Ieee.single.signWeight = b % Ieee.single.signWeight := by
            show b % 4294967296 % 2147483648 = b % 2147483648; omega
          rw [e1, e2]
        refine key (b % 4294967296) (Nat.mod_lt _ (by decide)) ?_ (hred.trans he) hi
        show (FloatKind.f32.decode (b % 4294967296)).isNaN = false
        rw [hred]; exact hn2
      · cases hb
@[go_sem] theorem run_narrow (b : Nat) (hs : (P.underlying src).isSome = true) (hd : P.underlying dst = some (.float .f32)) : (convert src dst (.float .f64 b)).run P w = .ok (.float .f32 (cn b w)) (w.drewN (cnd b)) := by
  cases hb : floatToFloatBits .f64 b .f32 with
  | some r =>
    rw [run_convert_float_float w src dst .f64 .f32 b r hs hd hb]
    simp [cn, cnd, hb, World.drewN_zero]
  | none =>
    obtain ⟨u, hs'⟩ := Option.isSome_iff_exists.1 hs
    have hq : (Question.nanConv .f32 b).forced = false := rfl
    have hq' : (Question.floatToFloat b).forced = false := rfl
    unfold floatToFloatBits at hb
    rw [if_neg (by decide)] at hb
    split at hb
    · rename_i s t he
      have hn : isN .f64 b = true := by show (FloatKind.f64.decode b).isNaN = true; rw [he]; rfl
      cases u <;> simp [convert, run_underlying hs', run_underlying hd, Conv.floatToFloat, he, cn, cnd, hn, floatToFloatBits, choose, Sem.run, hq, nanB, World.drewN]
    · cases hb
    · rename_i s m i he
      split at hb
      · rename_i hi
        have hn : isN .f64 b = false := by show (FloatKind.f64.decode b).isNaN = false; rw [he]; rfl
        cases u <;> simp [convert, run_underlying hs', run_underlying hd, Conv.floatToFloat, he, hi, cn, cnd, hn, floatToFloatBits, choose, Sem.run, hq', nanB, World.drewN]
      · cases hb
end run
theorem fits_wide {b : Nat} {X : Option Nat} (h : Fl .f32 b X) : fits (wide X) = true ∧ narrow (wide X) = X := by
  rcases h.cases with ⟨rfl, n1⟩ | ⟨rfl, n1⟩
  · exact ⟨rfl, rfl⟩
  · obtain ⟨R, h1, h2, h3, _⟩ := wide_of h.wf n1
    have hw : Ieee.single.word (Fp.neg Ieee.single b) (Fp.rung Ieee.single b) = b := Fp.word_parts Ieee.single h.wf
    simp only [wide, Option.bind_some, h2, fits, narrow, h3, Option.isSome_some, hw]
    exact ⟨trivial, trivial⟩
end Go.Proofs.YtajnncidkmafgaaDoor
