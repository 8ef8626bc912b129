/- Sines: the walks of the wide functions. Conditions: none beside the contracts' own. -/
import Derived.Test.YtpeflkakljaheaaK7
import Derived.Test.YtpeflkakljaheaaK4
import Derived.Deep.CutRange
set_option linter.unusedVariables false
set_option linter.unusedSimpArgs false
namespace Go.Proofs.Ytpeflkakljaheaa
open Go.RowKit Ieee
open Fc Fb
theorem half_fl : Fl .f64 4602678819172646912 (some 4602678819172646912) := .of_lit (by decide) (by decide)
theorem quarter_fl : Fl .f64 4598175219545276416 (some 4598175219545276416) := .of_lit (by decide) (by decide)
theorem turn_fl : Fl .f64 4618760256179416344 (some 4618760256179416344) := .of_lit (by decide) (by decide)
theorem two64 : Fl .f64 4611686018427387904 (some 4611686018427387904) := .of_lit (by decide) (by decide)
theorem zeroS : Fl .f64 0 (some 0) := .of_lit (by decide) (by decide)
theorem farP : Fl .f64 4841369599423283200 (some 4841369599423283200) := .of_lit (by decide) (by decide)
theorem farN : Fl .f64 14064741636278059008 (some 14064741636278059008) := .of_lit (by decide) (by decide)
theorem k8_go : ∀ j, j < 8 → (ford .f64 (some (floatOfInt .f64 ((8 - j : Nat) : Int))) (some 4607182418800017408) == some .gt || ford .f64 (some (floatOfInt .f64 ((8 - j : Nat) : Int))) (some 4607182418800017408) == some .eq) = true := by
  intro j hj
  have key : ∀ i : Fin 8, (ford .f64 (some (floatOfInt .f64 ((8 - i.val : Nat) : Int))) (some 4607182418800017408) == some .gt || ford .f64 (some (floatOfInt .f64 ((8 - i.val : Nat) : Int))) (some 4607182418800017408) == some .eq) = true := by decide
  exact key ⟨j, hj⟩
theorem k8_wrap (k : Nat) (hk : k ≤ 8) : wrap64 (2 * (k : Int) * (2 * (k : Int) + 1)) = 2 * (k : Int) * (2 * (k : Int) + 1) := by
  rcases (by omega : k = 0 ∨ k = 1 ∨ k = 2 ∨ k = 3 ∨ k = 4 ∨ k = 5 ∨ k = 6 ∨ k = 7 ∨ k = 8) with rfl | rfl | rfl | rfl | rfl | rfl | rfl | rfl | rfl <;> first | (simp [wrap64]; done) | rfl | (unfold wrap64; decide)
theorem k8_end : (ford .f64 (some (floatOfInt .f64 ((8 - 8 : Nat) : Int))) (some 4607182418800017408) == some .gt || ford .f64 (some (floatOfInt .f64 ((8 - 8 : Nat) : Int))) (some 4607182418800017408) == some .eq) = false := by decide
theorem k8_den : ∀ j, j < 8 → fop .mul .f64 (fop .mul .f64 (some 4611686018427387904) (some (floatOfInt .f64 ((8 - j : Nat) : Int)))) (fop .add .f64 (fop .mul .f64 (some 4611686018427387904) (some (floatOfInt .f64 ((8 - j : Nat) : Int)))) (some 4607182418800017408)) = some (dN j) := by
  intro j hj
  have key : ∀ i : Fin 8, fop .mul .f64 (fop .mul .f64 (some 4611686018427387904) (some (floatOfInt .f64 ((8 - i.val : Nat) : Int)))) (fop .add .f64 (fop .mul .f64 (some 4611686018427387904) (some (floatOfInt .f64 ((8 - i.val : Nat) : Int)))) (some 4607182418800017408)) = some (dN i.val) := by decide
  exact key ⟨j, hj⟩
theorem k8_next {b j : Nat} (hb : Fl .f64 b (some (floatOfInt .f64 ((8 - j : Nat) : Int)))) (hj : j < 8) (w : World) : fr .sub .f64 b 4607182418800017408 w = floatOfInt .f64 ((8 - (j + 1) : Nat) : Int) := by
  have key : ∀ i : Fin 8, fop .sub .f64 (some (floatOfInt .f64 ((8 - i.val : Nat) : Int))) (some 4607182418800017408) = some (floatOfInt .f64 ((8 - (i.val + 1) : Nat) : Int)) := by decide
  have h := hb.fr one64 .sub w
  rw [key ⟨j, hj⟩] at h
  exact h.some
theorem k8_M : ∀ j, j < 8 → kM (.float .f64 (floatOfInt .f64 ((8 - (j + 1) : Nat) : Int))) < kM (.float .f64 (floatOfInt .f64 ((8 - j : Nat) : Int))) := by
  intro j hj
  have key : ∀ i : Fin 8, kM (.float .f64 (floatOfInt .f64 ((8 - (i.val + 1) : Nat) : Int))) < kM (.float .f64 (floatOfInt .f64 ((8 - i.val : Nat) : Int))) := by decide
  exact key ⟨j, hj⟩
def farB (b : Nat) : Bool := decide (4841369599423283200 ≤ Fp.rung Ieee.double b)
def finS (Y : Option Nat) : Bool := ford .f64 (fop .sub .f64 Y Y) (some 0) == some .eq
def sinSW (Y : Option Nat) : Option Nat := if finS Y = true then (match Y with | none => none | some b => if farB b = true then some 0 else sinC (fop .sub .f64 (some b) (some (wB b)))) else none
theorem sinSW_some {y : Nat} (c : finS (some y) = true) : sinSW (some y) = if farB y = true then some 0 else sinC (fop .sub .f64 (some y) (some (wB y))) := by unfold sinSW; rw [if_pos c]
theorem sinSW_no {Y : Option Nat} (c : finS Y = false) : sinSW Y = none := by unfold sinSW; rw [c]; rfl
theorem fin_of {y : Nat} {Y : Option Nat} (hy : Fl .f64 y Y) (c1 : finS Y = true) : Y = some y ∧ Fp.rung Ieee.double y < Ieee.double.infRung ∧ isN .f64 y = false := by
  rcases hy.cases with ⟨rfl, n1⟩ | ⟨rfl, n1⟩
  · unfold finS at c1; rw [fop_none] at c1; cases c1
  · refine ⟨rfl, ?_, n1⟩
    rcases Nat.lt_or_ge (Fp.rung Ieee.double y) Ieee.double.infRung with h | h
    · exact h
    · exfalso
      have n2 := n1
      rw [isN64, decide_eq_false_iff_not] at n2
      have e1 := Fp.read_inf Ieee.double (by decide) (show Fp.rung Ieee.double y = Ieee.double.infRung by omega)
      have e2 : fop .sub .f64 (some y) (some y) = none := by
        show ((Ieee.double.read y).sum (Ieee.double.read y).opposite).map Ieee.double.write = none
        rw [e1]; cases Fp.neg Ieee.double y <;> rfl
      unfold finS at c1
      rw [e2] at c1; cases c1
theorem far_split {y : Nat} (n1 : isN .f64 y = false) : farB y = ((ford .f64 (some y) (some 4841369599423283200) == some .gt || ford .f64 (some y) (some 4841369599423283200) == some .eq) || (ford .f64 (some y) (some 14064741636278059008) == some .lt || ford .f64 (some y) (some 14064741636278059008) == some .eq)) := by
  rw [ford64 n1 (by decide), ford64 n1 (by decide), cmp_gt, cmp_eq, cmp_lt, cmp_eq, show Fp.sr Ieee.double 4841369599423283200 = 4841369599423283200 by decide, show Fp.sr Ieee.double 14064741636278059008 = -4841369599423283200 by decide]
  unfold farB Fp.sr Fp.sg
  rw [Bool.eq_iff_iff]
  simp only [Bool.or_eq_true, decide_eq_true_eq]
  split <;> omega
theorem far_abs {y : Nat} (n1 : isN .f64 y = false) : farB y = (ford .f64 (some (y % 9223372036854775808)) (some 4841369599423283200) == some .gt || ford .f64 (some (y % 9223372036854775808)) (some 4841369599423283200) == some .eq) := by
  have e : Fp.rung Ieee.double (y % 9223372036854775808) = Fp.rung Ieee.double y := by
    show y % 9223372036854775808 % 9223372036854775808 = y % 9223372036854775808
    omega
  have n2 : isN .f64 (y % 9223372036854775808) = false := by rw [isN64, e, ← isN64]; exact n1
  have hs : Fp.sr Ieee.double (y % 9223372036854775808) = (Fp.rung Ieee.double y : Int) := by
    rw [sr_pos, e]
    show (y % 9223372036854775808 / 9223372036854775808 % 2 == 1) = false
    rw [Nat.div_eq_of_lt (Nat.mod_lt _ (by decide))]; rfl
  rw [ford64 n2 (by decide), cmp_gt, cmp_eq, hs, show Fp.sr Ieee.double 4841369599423283200 = 4841369599423283200 by decide]
  unfold farB
  rw [Bool.eq_iff_iff]
  simp only [Bool.or_eq_true, decide_eq_true_eq]
  omega
theorem to_int {y : Nat} (h : Fp.rung Ieee.double y < Ieee.double.infRung) : (FloatKind.f64.decode y).toInt .zero = some (signed (Fp.neg Ieee.double y) (wq y) 0) := by
  obtain ⟨m, i, A, e1, e2, e3⟩ := read_fin h
  show (Ieee.double.read y).toInt .zero = _
  have hq : wq y = (m <<< i.toNat) / 2 ^ (-i).toNat := by unfold wq; rw [e1]
  rw [e1, hq]
  unfold Datum.toInt Datum.integral
  simp only [cutz]
theorem wB_fl (y : Nat) : Fl .f64 (wB y) (some (wB y)) := by rw [← int_wB]; exact intF64_fl _
set_option maxHeartbeats 3200000 in
theorem spec_l01SineWide {y : Nat} {Y : Option Nat} (hy : Fl .f64 y Y) (w : World) : Calls Try.prog 77 #[.float .f64 y] w (RF .f64 (sinSW Y) w) := by
  have o1 := Fl.ord (hy.fr hy .sub w) zeroS
  cases c1 : finS Y
  · have e1 := sinSW_no c1
    have c1' : (ford .f64 (fop .sub .f64 Y Y) (some 0) != some .eq) = true := by unfold finS at c1; simp [bne, c1]
    rw [e1]
    go_enter Try.func77, Try.ntmps77
    go_wp2_with (go_at_call 56; refine (math_NaN _).mono ?_; rintro e w' ⟨rfl, rfl⟩)
    go_ret
    exact ⟨_, _, rfl, nan64, rfl⟩
  · have c1' : (ford .f64 (fop .sub .f64 Y Y) (some 0) != some .eq) = false := by unfold finS at c1; simp [bne, c1]
    obtain ⟨rfl, hfin, n1⟩ := fin_of hy c1
    have o2 := Fl.ord hy farP
    have o3 := Fl.ord hy farN
    have hf := far_split n1
    cases g1 : (ford .f64 (some y) (some 4841369599423283200) == some .gt || ford .f64 (some y) (some 4841369599423283200) == some .eq) <;> cases g2 : (ford .f64 (some y) (some 14064741636278059008) == some .lt || ford .f64 (some y) (some 14064741636278059008) == some .eq)
    case false.false =>
      rw [g1, g2] at hf
      have e1 : sinSW (some y) = sinC (fop .sub .f64 (some y) (some (wB y))) := by rw [sinSW_some c1, hf]; rfl
      obtain ⟨-, hq⟩ := far_not (b := y) (by unfold farB at hf; simpa using hf)
      rw [e1]
      have hI := int_wB (b := y)
      have hT := to_int hfin
      have hle : -9007199254740992 < signed (Fp.neg Ieee.double y) (wq y) 0 ∧ signed (Fp.neg Ieee.double y) (wq y) 0 < 9007199254740992 := by
        unfold signed; rw [Nat.shiftLeft_zero]
        split <;> omega
      generalize signed (Fp.neg Ieee.double y) (wq y) 0 = n at *
      have hmm : IntKind.i64.min ≤ n ∧ n ≤ IntKind.i64.max := by
        have a1 : IntKind.i64.min = -9223372036854775808 := by decide
        have a2 : IntKind.i64.max = 9223372036854775807 := by decide
        omega
      have hcv : ∀ W : World, Sem.run Try.prog (convert 26 2 (.float .f64 y)) W = .ok (.int .i64 n) W := by
        intro W
        unfold convert
        simp [run_underlying Try.underlying26, run_underlying Try.underlying2, Conv.floatToInt, hT, hmm, go_sem]
        try (intro h5; omega)
      have HF := Lib.hid (fun w1 => hy.fr (wB_fl y) .sub w1)
      obtain ⟨F, hF⟩ : ∃ F, F = fop .sub .f64 (some y) (some (wB y)) := ⟨_, rfl⟩
      rw [← hF]
      unfold sinC
      have hm1 : (-9223372036854775808 : Int) ≤ n := by omega
      have hm2 : n ≤ (9223372036854775807 : Int) := by omega
      obtain ⟨hm3, hm4⟩ := hmm
      clear e1 hf hq hle hfin
      go_enter Try.func77, Try.ntmps77
      go_upto_region 6 with fail
      generalize hff : fr .sub .f64 y (wB y) _ = f
      have hf : Fl .f64 f F := by rw [← hff, hF]; exact HF.out _
      clear hff HF hF o1 o2 o3 g1 g2 c1 c1'
      have o1 := Fl.ord hf zeroS
      cases k1 : (ford .f64 F (some 0) == some .lt)
      · go_upto_region 8 with fail
        have hg : Fl .f64 f (sF1 F) := by unfold sF1; rw [k1]; exact hf
        clear k1 o1 hf
        generalize f = g at *
        generalize sF1 F = GG at *
        have o2 := Fl.ord hg half_fl
        cases k2 : sBl GG
        · have k2' := k2
          unfold sBl at k2'
          go_upto_region 11 with fail
          clear o2 k2'
          have hh : Fl .f64 g (sF2 GG) := by unfold sF2; rw [k2]; exact hg
          clear hg
          generalize g = h at *
          have o3 := Fl.ord hh quarter_fl
          cases k3 : (ford .f64 (sF2 GG) (some 4598175219545276416) == some .gt)
          · go_upto_region 13 with fail
            clear o3
            have he : Fl .f64 h (sF3 (sF2 GG)) := by unfold sF3; rw [k3]; exact hh
            clear hh k3
            generalize h = e at *
            have HQ := Lib.hid (fun w => he.fr turn_fl .mul w)
            go_upto_region 14 with fail
            generalize hhz : fr .mul .f64 e 4618760256179416344 _ = z
            have hz : Fl .f64 z (sZ (sF2 GG)) := by rw [← hhz]; exact HQ.out _
            clear hhz HQ
            have HQ := Lib.hid (fun w => hz.fr hz .mul w)
            go_upto_region 15 with fail
            generalize hhu : fr .mul .f64 z z _ = u
            have hu : Fl .f64 u (fop .mul .f64 (sZ (sF2 GG)) (sZ (sF2 GG))) := by rw [← hhu]; exact HQ.out _
            clear hhu HQ
            go_wp2_with fail
            go_loopw [7, 8] (fun p i w' => ∃ j k m r, j + k = 8 ∧ i = .int .i64 ((k : Nat) : Int) ∧ p = .float .f64 r ∧ Fl .f64 r (sP (fop .mul .f64 (sZ (sF2 GG)) (sZ (sF2 GG))) j) ∧ w' = w.drewN m) (fun _ i _ => (intOf i).toNat)
            case atStart => exact ⟨0, 8, _, _, rfl, rfl, rfl, one64, rfl⟩
            case round =>
              obtain ⟨j, k, m, r, hj, rfl, rfl, hr, rfl⟩ := hrel
              by_cases hlt : 1 ≤ k
              · have HD : Fl .f64 (floatOfInt .f64 (wrap64 (2 * (k : Int) * (2 * (k : Int) + 1)))) (some (dN j)) := by
                  rw [k8_wrap k (by omega)]; unfold dN; rw [show 8 - j = k by omega]; exact intF64_fl _
                have HN := Lib.hid (fun w1 w2 w3 => one64.fr ((hu.fr hr .mul w1).fr HD .quo w2) .sub w3)
                go_wp2
                exact ⟨⟨j + 1, k - 1, _, _, by omega, by go_num, rfl, HN.out _ _ _, rfl⟩, by simp [intOf]; omega⟩
              · obtain rfl : j = 8 := by omega
                have HR := Lib.hid (fun w1 => hz.fr hr .mul w1)
                go_wp2
                go_ret
                exact ⟨_, _, rfl, by unfold sC1; rw [k2]; exact HR.out _, rfl⟩
          · go_upto_region 13 with fail
            clear o3
            have HQ := Lib.hid (fun w => half_fl.fr hh .sub w)
            generalize hhh : fr .sub .f64 4602678819172646912 h _ = e
            have he : Fl .f64 e (sF3 (sF2 GG)) := by unfold sF3; rw [k3, ← hhh]; exact HQ.out _
            clear hhh HQ k3
            have HQ := Lib.hid (fun w => he.fr turn_fl .mul w)
            go_upto_region 14 with fail
            generalize hhz : fr .mul .f64 e 4618760256179416344 _ = z
            have hz : Fl .f64 z (sZ (sF2 GG)) := by rw [← hhz]; exact HQ.out _
            clear hhz HQ
            have HQ := Lib.hid (fun w => hz.fr hz .mul w)
            go_upto_region 15 with fail
            generalize hhu : fr .mul .f64 z z _ = u
            have hu : Fl .f64 u (fop .mul .f64 (sZ (sF2 GG)) (sZ (sF2 GG))) := by rw [← hhu]; exact HQ.out _
            clear hhu HQ
            go_wp2_with fail
            go_loopw [7, 8] (fun p i w' => ∃ j k m r, j + k = 8 ∧ i = .int .i64 ((k : Nat) : Int) ∧ p = .float .f64 r ∧ Fl .f64 r (sP (fop .mul .f64 (sZ (sF2 GG)) (sZ (sF2 GG))) j) ∧ w' = w.drewN m) (fun _ i _ => (intOf i).toNat)
            case atStart => exact ⟨0, 8, _, _, rfl, rfl, rfl, one64, rfl⟩
            case round =>
              obtain ⟨j, k, m, r, hj, rfl, rfl, hr, rfl⟩ := hrel
              by_cases hlt : 1 ≤ k
              · have HD : Fl .f64 (floatOfInt .f64 (wrap64 (2 * (k : Int) * (2 * (k : Int) + 1)))) (some (dN j)) := by
                  rw [k8_wrap k (by omega)]; unfold dN; rw [show 8 - j = k by omega]; exact intF64_fl _
                have HN := Lib.hid (fun w1 w2 w3 => one64.fr ((hu.fr hr .mul w1).fr HD .quo w2) .sub w3)
                go_wp2
                exact ⟨⟨j + 1, k - 1, _, _, by omega, by go_num, rfl, HN.out _ _ _, rfl⟩, by simp [intOf]; omega⟩
              · obtain rfl : j = 8 := by omega
                have HR := Lib.hid (fun w1 => hz.fr hr .mul w1)
                go_wp2
                go_ret
                exact ⟨_, _, rfl, by unfold sC1; rw [k2]; exact HR.out _, rfl⟩
        · have k2' := k2
          unfold sBl at k2'
          go_upto_region 11 with fail
          clear o2 k2'
          have HQ := Lib.hid (fun w => hg.fr half_fl .sub w)
          generalize hhh : fr .sub .f64 g 4602678819172646912 _ = h
          have hh : Fl .f64 h (sF2 GG) := by unfold sF2; rw [k2, ← hhh]; exact HQ.out _
          clear hhh HQ
          have o3 := Fl.ord hh quarter_fl
          cases k3 : (ford .f64 (sF2 GG) (some 4598175219545276416) == some .gt)
          · go_upto_region 13 with fail
            clear o3
            have he : Fl .f64 h (sF3 (sF2 GG)) := by unfold sF3; rw [k3]; exact hh
            clear hh k3
            generalize h = e at *
            have HQ := Lib.hid (fun w => he.fr turn_fl .mul w)
            go_upto_region 14 with fail
            generalize hhz : fr .mul .f64 e 4618760256179416344 _ = z
            have hz : Fl .f64 z (sZ (sF2 GG)) := by rw [← hhz]; exact HQ.out _
            clear hhz HQ
            have HQ := Lib.hid (fun w => hz.fr hz .mul w)
            go_upto_region 15 with fail
            generalize hhu : fr .mul .f64 z z _ = u
            have hu : Fl .f64 u (fop .mul .f64 (sZ (sF2 GG)) (sZ (sF2 GG))) := by rw [← hhu]; exact HQ.out _
            clear hhu HQ
            go_wp2_with fail
            go_loopw [7, 8] (fun p i w' => ∃ j k m r, j + k = 8 ∧ i = .int .i64 ((k : Nat) : Int) ∧ p = .float .f64 r ∧ Fl .f64 r (sP (fop .mul .f64 (sZ (sF2 GG)) (sZ (sF2 GG))) j) ∧ w' = w.drewN m) (fun _ i _ => (intOf i).toNat)
            case atStart => exact ⟨0, 8, _, _, rfl, rfl, rfl, one64, rfl⟩
            case round =>
              obtain ⟨j, k, m, r, hj, rfl, rfl, hr, rfl⟩ := hrel
              by_cases hlt : 1 ≤ k
              · have HD : Fl .f64 (floatOfInt .f64 (wrap64 (2 * (k : Int) * (2 * (k : Int) + 1)))) (some (dN j)) := by
                  rw [k8_wrap k (by omega)]; unfold dN; rw [show 8 - j = k by omega]; exact intF64_fl _
                have HN := Lib.hid (fun w1 w2 w3 => one64.fr ((hu.fr hr .mul w1).fr HD .quo w2) .sub w3)
                go_wp2
                exact ⟨⟨j + 1, k - 1, _, _, by omega, by go_num, rfl, HN.out _ _ _, rfl⟩, by simp [intOf]; omega⟩
              · obtain rfl : j = 8 := by omega
                have HR := Lib.hid (fun w1 => hz.fr hr .mul w1)
                go_wp2
                go_ret
                exact ⟨_, _, rfl, by unfold sC1; rw [k2]; exact (HR.out _).neg64, rfl⟩
          · go_upto_region 13 with fail
            clear o3
            have HQ := Lib.hid (fun w => half_fl.fr hh .sub w)
            generalize hhh : fr .sub .f64 4602678819172646912 h _ = e
            have he : Fl .f64 e (sF3 (sF2 GG)) := by unfold sF3; rw [k3, ← hhh]; exact HQ.out _
            clear hhh HQ k3
            have HQ := Lib.hid (fun w => he.fr turn_fl .mul w)
            go_upto_region 14 with fail
            generalize hhz : fr .mul .f64 e 4618760256179416344 _ = z
            have hz : Fl .f64 z (sZ (sF2 GG)) := by rw [← hhz]; exact HQ.out _
            clear hhz HQ
            have HQ := Lib.hid (fun w => hz.fr hz .mul w)
            go_upto_region 15 with fail
            generalize hhu : fr .mul .f64 z z _ = u
            have hu : Fl .f64 u (fop .mul .f64 (sZ (sF2 GG)) (sZ (sF2 GG))) := by rw [← hhu]; exact HQ.out _
            clear hhu HQ
            go_wp2_with fail
            go_loopw [7, 8] (fun p i w' => ∃ j k m r, j + k = 8 ∧ i = .int .i64 ((k : Nat) : Int) ∧ p = .float .f64 r ∧ Fl .f64 r (sP (fop .mul .f64 (sZ (sF2 GG)) (sZ (sF2 GG))) j) ∧ w' = w.drewN m) (fun _ i _ => (intOf i).toNat)
            case atStart => exact ⟨0, 8, _, _, rfl, rfl, rfl, one64, rfl⟩
            case round =>
              obtain ⟨j, k, m, r, hj, rfl, rfl, hr, rfl⟩ := hrel
              by_cases hlt : 1 ≤ k
              · have HD : Fl .f64 (floatOfInt .f64 (wrap64 (2 * (k : Int) * (2 * (k : Int) + 1)))) (some (dN j)) := by
                  rw [k8_wrap k (by omega)]; unfold dN; rw [show 8 - j = k by omega]; exact intF64_fl _
                have HN := Lib.hid (fun w1 w2 w3 => one64.fr ((hu.fr hr .mul w1).fr HD .quo w2) .sub w3)
                go_wp2
                exact ⟨⟨j + 1, k - 1, _, _, by omega, by go_num, rfl, HN.out _ _ _, rfl⟩, by simp [intOf]; omega⟩
              · obtain rfl : j = 8 := by omega
                have HR := Lib.hid (fun w1 => hz.fr hr .mul w1)
                go_wp2
                go_ret
                exact ⟨_, _, rfl, by unfold sC1; rw [k2]; exact (HR.out _).neg64, rfl⟩
      · have HQ := Lib.hid (fun w => hf.fr one64 .add w)
        go_upto_region 8 with fail
        generalize hgg : fr .add .f64 f 4607182418800017408 _ = g
        have hg : Fl .f64 g (sF1 F) := by unfold sF1; rw [k1, ← hgg]; exact HQ.out _
        clear k1 o1 hf hgg HQ
        generalize sF1 F = GG at *
        have o2 := Fl.ord hg half_fl
        cases k2 : sBl GG
        · have k2' := k2
          unfold sBl at k2'
          go_upto_region 11 with fail
          clear o2 k2'
          have hh : Fl .f64 g (sF2 GG) := by unfold sF2; rw [k2]; exact hg
          clear hg
          generalize g = h at *
          have o3 := Fl.ord hh quarter_fl
          cases k3 : (ford .f64 (sF2 GG) (some 4598175219545276416) == some .gt)
          · go_upto_region 13 with fail
            clear o3
            have he : Fl .f64 h (sF3 (sF2 GG)) := by unfold sF3; rw [k3]; exact hh
            clear hh k3
            generalize h = e at *
            have HQ := Lib.hid (fun w => he.fr turn_fl .mul w)
            go_upto_region 14 with fail
            generalize hhz : fr .mul .f64 e 4618760256179416344 _ = z
            have hz : Fl .f64 z (sZ (sF2 GG)) := by rw [← hhz]; exact HQ.out _
            clear hhz HQ
            have HQ := Lib.hid (fun w => hz.fr hz .mul w)
            go_upto_region 15 with fail
            generalize hhu : fr .mul .f64 z z _ = u
            have hu : Fl .f64 u (fop .mul .f64 (sZ (sF2 GG)) (sZ (sF2 GG))) := by rw [← hhu]; exact HQ.out _
            clear hhu HQ
            go_wp2_with fail
            go_loopw [7, 8] (fun p i w' => ∃ j k m r, j + k = 8 ∧ i = .int .i64 ((k : Nat) : Int) ∧ p = .float .f64 r ∧ Fl .f64 r (sP (fop .mul .f64 (sZ (sF2 GG)) (sZ (sF2 GG))) j) ∧ w' = w.drewN m) (fun _ i _ => (intOf i).toNat)
            case atStart => exact ⟨0, 8, _, _, rfl, rfl, rfl, one64, rfl⟩
            case round =>
              obtain ⟨j, k, m, r, hj, rfl, rfl, hr, rfl⟩ := hrel
              by_cases hlt : 1 ≤ k
              · have HD : Fl .f64 (floatOfInt .f64 (wrap64 (2 * (k : Int) * (2 * (k : Int) + 1)))) (some (dN j)) := by
                  rw [k8_wrap k (by omega)]; unfold dN; rw [show 8 - j = k by omega]; exact intF64_fl _
                have HN := Lib.hid (fun w1 w2 w3 => one64.fr ((hu.fr hr .mul w1).fr HD .quo w2) .sub w3)
                go_wp2
                exact ⟨⟨j + 1, k - 1, _, _, by omega, by go_num, rfl, HN.out _ _ _, rfl⟩, by simp [intOf]; omega⟩
              · obtain rfl : j = 8 := by omega
                have HR := Lib.hid (fun w1 => hz.fr hr .mul w1)
                go_wp2
                go_ret
                exact ⟨_, _, rfl, by unfold sC1; rw [k2]; exact HR.out _, rfl⟩
          · go_upto_region 13 with fail
            clear o3
            have HQ := Lib.hid (fun w => half_fl.fr hh .sub w)
            generalize hhh : fr .sub .f64 4602678819172646912 h _ = e
            have he : Fl .f64 e (sF3 (sF2 GG)) := by unfold sF3; rw [k3, ← hhh]; exact HQ.out _
            clear hhh HQ k3
            have HQ := Lib.hid (fun w => he.fr turn_fl .mul w)
            go_upto_region 14 with fail
            generalize hhz : fr .mul .f64 e 4618760256179416344 _ = z
            have hz : Fl .f64 z (sZ (sF2 GG)) := by rw [← hhz]; exact HQ.out _
            clear hhz HQ
            have HQ := Lib.hid (fun w => hz.fr hz .mul w)
            go_upto_region 15 with fail
            generalize hhu : fr .mul .f64 z z _ = u
            have hu : Fl .f64 u (fop .mul .f64 (sZ (sF2 GG)) (sZ (sF2 GG))) := by rw [← hhu]; exact HQ.out _
            clear hhu HQ
            go_wp2_with fail
            go_loopw [7, 8] (fun p i w' => ∃ j k m r, j + k = 8 ∧ i = .int .i64 ((k : Nat) : Int) ∧ p = .float .f64 r ∧ Fl .f64 r (sP (fop .mul .f64 (sZ (sF2 GG)) (sZ (sF2 GG))) j) ∧ w' = w.drewN m) (fun _ i _ => (intOf i).toNat)
            case atStart => exact ⟨0, 8, _, _, rfl, rfl, rfl, one64, rfl⟩
            case round =>
              obtain ⟨j, k, m, r, hj, rfl, rfl, hr, rfl⟩ := hrel
              by_cases hlt : 1 ≤ k
              · have HD : Fl .f64 (floatOfInt .f64 (wrap64 (2 * (k : Int) * (2 * (k : Int) + 1)))) (some (dN j)) := by
                  rw [k8_wrap k (by omega)]; unfold dN; rw [show 8 - j = k by omega]; exact intF64_fl _
                have HN := Lib.hid (fun w1 w2 w3 => one64.fr ((hu.fr hr .mul w1).fr HD .quo w2) .sub w3)
                go_wp2
                exact ⟨⟨j + 1, k - 1, _, _, by omega, by go_num, rfl, HN.out _ _ _, rfl⟩, by simp [intOf]; omega⟩
              · obtain rfl : j = 8 := by omega
                have HR := Lib.hid (fun w1 => hz.fr hr .mul w1)
                go_wp2
                go_ret
                exact ⟨_, _, rfl, by unfold sC1; rw [k2]; exact HR.out _, rfl⟩
        · have k2' := k2
          unfold sBl at k2'
          go_upto_region 11 with fail
          clear o2 k2'
          have HQ := Lib.hid (fun w => hg.fr half_fl .sub w)
          generalize hhh : fr .sub .f64 g 4602678819172646912 _ = h
          have hh : Fl .f64 h (sF2 GG) := by unfold sF2; rw [k2, ← hhh]; exact HQ.out _
          clear hhh HQ
          have o3 := Fl.ord hh quarter_fl
          cases k3 : (ford .f64 (sF2 GG) (some 4598175219545276416) == some .gt)
          · go_upto_region 13 with fail
            clear o3
            have he : Fl .f64 h (sF3 (sF2 GG)) := by unfold sF3; rw [k3]; exact hh
            clear hh k3
            generalize h = e at *
            have HQ := Lib.hid (fun w => he.fr turn_fl .mul w)
            go_upto_region 14 with fail
            generalize hhz : fr .mul .f64 e 4618760256179416344 _ = z
            have hz : Fl .f64 z (sZ (sF2 GG)) := by rw [← hhz]; exact HQ.out _
            clear hhz HQ
            have HQ := Lib.hid (fun w => hz.fr hz .mul w)
            go_upto_region 15 with fail
            generalize hhu : fr .mul .f64 z z _ = u
            have hu : Fl .f64 u (fop .mul .f64 (sZ (sF2 GG)) (sZ (sF2 GG))) := by rw [← hhu]; exact HQ.out _
            clear hhu HQ
            go_wp2_with fail
            go_loopw [7, 8] (fun p i w' => ∃ j k m r, j + k = 8 ∧ i = .int .i64 ((k : Nat) : Int) ∧ p = .float .f64 r ∧ Fl .f64 r (sP (fop .mul .f64 (sZ (sF2 GG)) (sZ (sF2 GG))) j) ∧ w' = w.drewN m) (fun _ i _ => (intOf i).toNat)
            case atStart => exact ⟨0, 8, _, _, rfl, rfl, rfl, one64, rfl⟩
            case round =>
              obtain ⟨j, k, m, r, hj, rfl, rfl, hr, rfl⟩ := hrel
              by_cases hlt : 1 ≤ k
              · have HD : Fl .f64 (floatOfInt .f64 (wrap64 (2 * (k : Int) * (2 * (k : Int) + 1)))) (some (dN j)) := by
                  rw [k8_wrap k (by omega)]; unfold dN; rw [show 8 - j = k by omega]; exact intF64_fl _
                have HN := Lib.hid (fun w1 w2 w3 => one64.fr ((hu.fr hr .mul w1).fr HD .quo w2) .sub w3)
                go_wp2
                exact ⟨⟨j + 1, k - 1, _, _, by omega, by go_num, rfl, HN.out _ _ _, rfl⟩, by simp [intOf]; omega⟩
              · obtain rfl : j = 8 := by omega
                have HR := Lib.hid (fun w1 => hz.fr hr .mul w1)
                go_wp2
                go_ret
                exact ⟨_, _, rfl, by unfold sC1; rw [k2]; exact (HR.out _).neg64, rfl⟩
          · go_upto_region 13 with fail
            clear o3
            have HQ := Lib.hid (fun w => half_fl.fr hh .sub w)
            generalize hhh : fr .sub .f64 4602678819172646912 h _ = e
            have he : Fl .f64 e (sF3 (sF2 GG)) := by unfold sF3; rw [k3, ← hhh]; exact HQ.out _
            clear hhh HQ k3
            have HQ := Lib.hid (fun w => he.fr turn_fl .mul w)
            go_upto_region 14 with fail
            generalize hhz : fr .mul .f64 e 4618760256179416344 _ = z
            have hz : Fl .f64 z (sZ (sF2 GG)) := by rw [← hhz]; exact HQ.out _
            clear hhz HQ
            have HQ := Lib.hid (fun w => hz.fr hz .mul w)
            go_upto_region 15 with fail
            generalize hhu : fr .mul .f64 z z _ = u
            have hu : Fl .f64 u (fop .mul .f64 (sZ (sF2 GG)) (sZ (sF2 GG))) := by rw [← hhu]; exact HQ.out _
            clear hhu HQ
            go_wp2_with fail
            go_loopw [7, 8] (fun p i w' => ∃ j k m r, j + k = 8 ∧ i = .int .i64 ((k : Nat) : Int) ∧ p = .float .f64 r ∧ Fl .f64 r (sP (fop .mul .f64 (sZ (sF2 GG)) (sZ (sF2 GG))) j) ∧ w' = w.drewN m) (fun _ i _ => (intOf i).toNat)
            case atStart => exact ⟨0, 8, _, _, rfl, rfl, rfl, one64, rfl⟩
            case round =>
              obtain ⟨j, k, m, r, hj, rfl, rfl, hr, rfl⟩ := hrel
              by_cases hlt : 1 ≤ k
              · have HD : Fl .f64 (floatOfInt .f64 (wrap64 (2 * (k : Int) * (2 * (k : Int) + 1)))) (some (dN j)) := by
                  rw [k8_wrap k (by omega)]; unfold dN; rw [show 8 - j = k by omega]; exact intF64_fl _
                have HN := Lib.hid (fun w1 w2 w3 => one64.fr ((hu.fr hr .mul w1).fr HD .quo w2) .sub w3)
                go_wp2
                exact ⟨⟨j + 1, k - 1, _, _, by omega, by go_num, rfl, HN.out _ _ _, rfl⟩, by simp [intOf]; omega⟩
              · obtain rfl : j = 8 := by omega
                have HR := Lib.hid (fun w1 => hz.fr hr .mul w1)
                go_wp2
                go_ret
                exact ⟨_, _, rfl, by unfold sC1; rw [k2]; exact (HR.out _).neg64, rfl⟩
    all_goals
      have e1 : sinSW (some y) = some 0 := by rw [sinSW_some c1, hf, g1, g2]; rfl
      rw [e1]
      go_enter Try.func77, Try.ntmps77
      go_wp2
      go_ret
      exact ⟨_, _, rfl, zeroS, rfl⟩
end Go.Proofs.Ytpeflkakljaheaa
