/- Sines: the program; the walk of the law. Conditions: none beside the contracts' own. -/
import Derived.Test.YtpeflkakljaheaaK8
set_option linter.unusedVariables false
set_option linter.unusedSimpArgs false
namespace Go.Proofs.Ytpeflkakljaheaa
open Go.RowKit Ieee
open Fc Fb
theorem call_trunc {x : Nat} (h : Fp.rung Ieee.double x < Ieee.double.infRung) (w : World) : (callFunc 82 #[.float .f64 x]).run Try.prog w = .ok (.value (.float .f64 (tB x))) w := by
  rw [run_callFunc_extern (P := Try.prog) (e := Extern.MathFloor.toIntegral "math.archTrunc" .zero) Try.func82 (by kernel_rfl) (by kernel_rfl) (by kernel_rfl) (by kernel_rfl)]
  obtain ⟨m, i, A, e1, e2, e3⟩ := read_fin h
  have e : FloatKind.f64.decode x = .number (Fp.neg Ieee.double x) m i := e1
  have e0 : Extern.MathFloor.toIntegral "math.archTrunc" .zero #[.float .f64 x] = (match FloatKind.f64.decode x with
    | .nan s t => if FloatKind.f64.format.quiet t = t then pure (.float .f64 x) else do
      let kept ← choose (.extern "math.Floor,Ceil,Trunc,RoundToEven.signallingNaN kept" 2)
      pure (.float .f64 (if kept == 1 then x else FloatKind.f64.encode (.nan s (FloatKind.f64.format.quiet t))))
    | d => pure (.float .f64 (FloatKind.f64.encode (d.integral .zero)))) := rfl
  have e5 : FloatKind.f64.encode (Datum.integral .zero (.number (Fp.neg Ieee.double x) m i)) = tB x := by
    unfold Datum.integral
    simp only [cutz]
    unfold tB wq
    rw [e1]; rfl
  have et : Extern.MathFloor.toIntegral "math.archTrunc" .zero #[.float .f64 x] = pure (.float .f64 (tB x)) := by
    rw [e0, e]
    show pure (Value.float .f64 (FloatKind.f64.encode (Datum.integral .zero (.number (Fp.neg Ieee.double x) m i)))) = _
    rw [e5]
  rw [et]
  simp [go_sem]
set_option maxHeartbeats 400000 in
theorem math_Trunc {x : Nat} (h : Fp.rung Ieee.double x < Ieee.double.infRung) (w : World) : Calls Try.prog 81 #[.float .f64 x] w fun e w' => e = .returned (.float .f64 (tB x)) ∧ w = w' := by
  have hct := fun w => call_trunc h w
  go_enter Try.func81, Try.ntmps81
  go_wp2
  go_ret
  exact ⟨rfl, rfl⟩
theorem tB_fl (y : Nat) : Fl .f64 (tB y) (some (tB y)) := by
  by_cases h : wq y = 0
  · rw [tB_zero h]; cases Fp.neg Ieee.double y <;> exact .of_lit (by decide) (by decide)
  · have := wB_fl y
    unfold wB at this
    rwa [if_neg h] at this
theorem tB_eq {y : Nat} (hq : wq y < 2 ^ 53) : (ford .f64 (some (tB y)) (some 0) == some .eq) = decide (wq y = 0) := by
  by_cases h : wq y = 0
  · rw [tB_zero h, decide_eq_true h]; cases Fp.neg Ieee.double y <;> decide
  · obtain ⟨R, hR, hR1, hR2, hR3⟩ := tB_pos (by omega) hq
    have hsw : R < Ieee.double.signWeight := by have := sw; omega
    obtain ⟨w1, w2⟩ := Fp.rung_word Ieee.double (Fp.neg Ieee.double y) hsw
    rw [hR, ford64 (by rw [isN64, w1]; simp; omega) (by decide), cmp_eq, decide_eq_false h, decide_eq_false_iff_not, show Fp.sr Ieee.double 0 = 0 by decide]
    unfold Fp.sr Fp.sg
    rw [w1]
    split <;> omega
set_option maxHeartbeats 1600000 in
theorem impl_rest {y : Nat} (hy : Fl .f64 y (some y)) (h : Fp.rung Ieee.double y < Ieee.double.infRung) (hq : wq y < 2 ^ 53) (w : World) : Calls Try.prog 79 #[.float .f64 y] w (RF .f64 (sF1 (fop .sub .f64 (some y) (some (wB y)))) w) := by
  have o0 := Fl.ord (tB_fl y) zeroS
  have c0 := tB_eq hq
  have HT := Lib.hid (fun w => math_Trunc h w)
  obtain ⟨F, hF⟩ : ∃ F, F = fop .sub .f64 (some y) (some (wB y)) := ⟨_, rfl⟩
  rw [← hF]
  have HF : Hid (∀ w1, Fl .f64 (fr .sub .f64 y (wB y) w1) F) := Lib.hid (fun w1 => by rw [hF]; exact hy.fr (wB_fl y) .sub w1)
  clear hF
  by_cases hz : wq y = 0
  all_goals
    have hw : wB y = (if wq y = 0 then 0 else tB y) := rfl
  · rw [if_pos hz] at hw
    rw [decide_eq_true hz] at c0
    rw [hw] at HF
    clear h hq hz hw
    go_enter Try.func79, Try.ntmps79
    go_upto_region 5 with (go_at_call 81; refine (HT.out _).mono ?_; rintro e w' ⟨rfl, rfl⟩)
    generalize hff : fr .sub .f64 y 0 _ = f
    have hf : Fl .f64 f F := by rw [← hff]; exact HF.out _
    clear hff HF o0 c0 HT
    have o1 := Fl.ord hf zeroS
    have HQ := Lib.hid (fun w => hf.fr one64 .add w)
    cases k1 : (ford .f64 F (some 0) == some .lt)
    · go_wp2
      go_ret
      exact ⟨_, _, rfl, by unfold sF1; rw [k1]; exact hf, rfl⟩
    · go_wp2
      go_ret
      exact ⟨_, _, rfl, by unfold sF1; rw [k1]; exact HQ.out _, rfl⟩
  · rw [if_neg hz] at hw
    rw [decide_eq_false hz] at c0
    rw [hw] at HF
    clear h hq hz hw
    go_enter Try.func79, Try.ntmps79
    go_upto_region 5 with (go_at_call 81; refine (HT.out _).mono ?_; rintro e w' ⟨rfl, rfl⟩)
    generalize hff : fr .sub .f64 y (tB y) _ = f
    have hf : Fl .f64 f F := by rw [← hff]; exact HF.out _
    clear hff HF o0 c0 HT
    have o1 := Fl.ord hf zeroS
    have HQ := Lib.hid (fun w => hf.fr one64 .add w)
    cases k1 : (ford .f64 F (some 0) == some .lt)
    · go_wp2
      go_ret
      exact ⟨_, _, rfl, by unfold sF1; rw [k1]; exact hf, rfl⟩
    · go_wp2
      go_ret
      exact ⟨_, _, rfl, by unfold sF1; rw [k1]; exact HQ.out _, rfl⟩
set_option maxHeartbeats 3200000 in
theorem impl_sine {y : Nat} (hy : Fl .f64 y (some y)) (h : Fp.rung Ieee.double y < Ieee.double.infRung) (hq : wq y < 2 ^ 53) (w : World) : Calls Try.prog 62 #[.float .f64 y] w (RF .f64 (sinC (fop .sub .f64 (some y) (some (wB y)))) w) := by
  have HR := Lib.hid (fun w => impl_rest hy h hq w)
  unfold sinC
  clear h hq
  go_enter Try.func62, Try.ntmps62
  go_wp2_with fail
  refine (HR.out _).mono ?_
  rintro e w' ⟨g, q, rfl, hg, rfl⟩
  clear HR
  generalize sF1 (fop .sub .f64 (some y) (some (wB y))) = GG at *
  have o2 := Fl.ord hg half_fl
  cases k2 : sBl GG
  · have k2' := k2
    unfold sBl at k2'
    go_upto_region 5 with fail
    clear o2 k2'
    have hh : Fl .f64 g (sF2 GG) := by unfold sF2; rw [k2]; exact hg
    clear hg
    generalize g = h at *
    have o3 := Fl.ord hh quarter_fl
    cases k3 : (ford .f64 (sF2 GG) (some 4598175219545276416) == some .gt)
    · go_upto_region 7 with fail
      clear o3
      have he : Fl .f64 h (sF3 (sF2 GG)) := by unfold sF3; rw [k3]; exact hh
      clear hh k3
      generalize h = e at *
      have HQ := Lib.hid (fun w => he.fr turn_fl .mul w)
      go_upto_region 8 with fail
      generalize hhz : fr .mul .f64 e 4618760256179416344 _ = z
      have hz : Fl .f64 z (sZ (sF2 GG)) := by rw [← hhz]; exact HQ.out _
      clear hhz HQ
      have HQ := Lib.hid (fun w => hz.fr hz .mul w)
      go_upto_region 9 with fail
      generalize hhu : fr .mul .f64 z z _ = u
      have hu : Fl .f64 u (fop .mul .f64 (sZ (sF2 GG)) (sZ (sF2 GG))) := by rw [← hhu]; exact HQ.out _
      clear hhu HQ
      go_wp2_with fail
      go_loopw [7, 8] (fun p i w' => ∃ j m r b, j ≤ 8 ∧ i = .float .f64 b ∧ Hid (b = floatOfInt .f64 ((8 - j : Nat) : Int)) ∧ p = .float .f64 r ∧ Fl .f64 r (sP (fop .mul .f64 (sZ (sF2 GG)) (sZ (sF2 GG))) j) ∧ w' = w.drewN m) (fun _ k _ => kM k)
      case atStart => exact ⟨0, _, _, _, Nat.zero_le _, rfl, Lib.hid (by decide), rfl, one64, rfl⟩
      case round =>
        obtain ⟨j, m, r, b, hj, rfl, HB, rfl, hr, rfl⟩ := hrel
        have hb : Fl .f64 b (some (floatOfInt .f64 ((8 - j : Nat) : Int))) := by rw [HB.out]; exact intF64_fl _
        have ho := Fl.ord hb one64
        by_cases hlt : j < 8
        · have hg8 := k8_go j hlt
          rw [← ho] at hg8
          clear ho
          have HN := Lib.hid (fun w1 w2 w3 w4 w5 w6 w7 => by
            have h1 := one64.fr ((hu.fr hr .mul w1).fr ((two64.fr hb .mul w2).fr ((two64.fr hb .mul w3).fr one64 .add w4) .mul w5) .quo w6) .sub w7
            rw [k8_den j hlt] at h1
            exact (show Fl .f64 _ (sP (fop .mul .f64 (sZ (sF2 GG)) (sZ (sF2 GG))) (j + 1)) from h1))
          have HB2 := Lib.hid (fun w1 => k8_next hb hlt w1)
          have HL := Lib.hid hlt
          go_wp2
          refine ⟨⟨j + 1, _, _, _, by omega, rfl, Lib.hid (HB2.out _), rfl, HN.out _ _ _ _ _ _ _, rfl⟩, ?_⟩
          rw [HB2.out, HB.out]; exact k8_M j HL.out
        · obtain rfl : j = 8 := by omega
          have hg8 := k8_end
          rw [← ho] at hg8
          clear ho
          have HR := Lib.hid (fun w1 => hz.fr hr .mul w1)
          go_wp2
          go_ret
          exact ⟨_, _, rfl, by unfold sC1; rw [k2]; exact HR.out _, rfl⟩
    · go_upto_region 7 with fail
      clear o3
      have HQ := Lib.hid (fun w => half_fl.fr hh .sub w)
      generalize hhh : fr .sub .f64 4602678819172646912 h _ = e
      have he : Fl .f64 e (sF3 (sF2 GG)) := by unfold sF3; rw [k3, ← hhh]; exact HQ.out _
      clear hhh HQ k3
      have HQ := Lib.hid (fun w => he.fr turn_fl .mul w)
      go_upto_region 8 with fail
      generalize hhz : fr .mul .f64 e 4618760256179416344 _ = z
      have hz : Fl .f64 z (sZ (sF2 GG)) := by rw [← hhz]; exact HQ.out _
      clear hhz HQ
      have HQ := Lib.hid (fun w => hz.fr hz .mul w)
      go_upto_region 9 with fail
      generalize hhu : fr .mul .f64 z z _ = u
      have hu : Fl .f64 u (fop .mul .f64 (sZ (sF2 GG)) (sZ (sF2 GG))) := by rw [← hhu]; exact HQ.out _
      clear hhu HQ
      go_wp2_with fail
      go_loopw [7, 8] (fun p i w' => ∃ j m r b, j ≤ 8 ∧ i = .float .f64 b ∧ Hid (b = floatOfInt .f64 ((8 - j : Nat) : Int)) ∧ p = .float .f64 r ∧ Fl .f64 r (sP (fop .mul .f64 (sZ (sF2 GG)) (sZ (sF2 GG))) j) ∧ w' = w.drewN m) (fun _ k _ => kM k)
      case atStart => exact ⟨0, _, _, _, Nat.zero_le _, rfl, Lib.hid (by decide), rfl, one64, rfl⟩
      case round =>
        obtain ⟨j, m, r, b, hj, rfl, HB, rfl, hr, rfl⟩ := hrel
        have hb : Fl .f64 b (some (floatOfInt .f64 ((8 - j : Nat) : Int))) := by rw [HB.out]; exact intF64_fl _
        have ho := Fl.ord hb one64
        by_cases hlt : j < 8
        · have hg8 := k8_go j hlt
          rw [← ho] at hg8
          clear ho
          have HN := Lib.hid (fun w1 w2 w3 w4 w5 w6 w7 => by
            have h1 := one64.fr ((hu.fr hr .mul w1).fr ((two64.fr hb .mul w2).fr ((two64.fr hb .mul w3).fr one64 .add w4) .mul w5) .quo w6) .sub w7
            rw [k8_den j hlt] at h1
            exact (show Fl .f64 _ (sP (fop .mul .f64 (sZ (sF2 GG)) (sZ (sF2 GG))) (j + 1)) from h1))
          have HB2 := Lib.hid (fun w1 => k8_next hb hlt w1)
          have HL := Lib.hid hlt
          go_wp2
          refine ⟨⟨j + 1, _, _, _, by omega, rfl, Lib.hid (HB2.out _), rfl, HN.out _ _ _ _ _ _ _, rfl⟩, ?_⟩
          rw [HB2.out, HB.out]; exact k8_M j HL.out
        · obtain rfl : j = 8 := by omega
          have hg8 := k8_end
          rw [← ho] at hg8
          clear ho
          have HR := Lib.hid (fun w1 => hz.fr hr .mul w1)
          go_wp2
          go_ret
          exact ⟨_, _, rfl, by unfold sC1; rw [k2]; exact HR.out _, rfl⟩
  · have k2' := k2
    unfold sBl at k2'
    go_upto_region 5 with fail
    clear o2 k2'
    have HQ := Lib.hid (fun w => hg.fr half_fl .sub w)
    generalize hhh : fr .sub .f64 g 4602678819172646912 _ = h
    have hh : Fl .f64 h (sF2 GG) := by unfold sF2; rw [k2, ← hhh]; exact HQ.out _
    clear hhh HQ
    have o3 := Fl.ord hh quarter_fl
    cases k3 : (ford .f64 (sF2 GG) (some 4598175219545276416) == some .gt)
    · go_upto_region 7 with fail
      clear o3
      have he : Fl .f64 h (sF3 (sF2 GG)) := by unfold sF3; rw [k3]; exact hh
      clear hh k3
      generalize h = e at *
      have HQ := Lib.hid (fun w => he.fr turn_fl .mul w)
      go_upto_region 8 with fail
      generalize hhz : fr .mul .f64 e 4618760256179416344 _ = z
      have hz : Fl .f64 z (sZ (sF2 GG)) := by rw [← hhz]; exact HQ.out _
      clear hhz HQ
      have HQ := Lib.hid (fun w => hz.fr hz .mul w)
      go_upto_region 9 with fail
      generalize hhu : fr .mul .f64 z z _ = u
      have hu : Fl .f64 u (fop .mul .f64 (sZ (sF2 GG)) (sZ (sF2 GG))) := by rw [← hhu]; exact HQ.out _
      clear hhu HQ
      go_wp2_with fail
      go_loopw [7, 8] (fun p i w' => ∃ j m r b, j ≤ 8 ∧ i = .float .f64 b ∧ Hid (b = floatOfInt .f64 ((8 - j : Nat) : Int)) ∧ p = .float .f64 r ∧ Fl .f64 r (sP (fop .mul .f64 (sZ (sF2 GG)) (sZ (sF2 GG))) j) ∧ w' = w.drewN m) (fun _ k _ => kM k)
      case atStart => exact ⟨0, _, _, _, Nat.zero_le _, rfl, Lib.hid (by decide), rfl, one64, rfl⟩
      case round =>
        obtain ⟨j, m, r, b, hj, rfl, HB, rfl, hr, rfl⟩ := hrel
        have hb : Fl .f64 b (some (floatOfInt .f64 ((8 - j : Nat) : Int))) := by rw [HB.out]; exact intF64_fl _
        have ho := Fl.ord hb one64
        by_cases hlt : j < 8
        · have hg8 := k8_go j hlt
          rw [← ho] at hg8
          clear ho
          have HN := Lib.hid (fun w1 w2 w3 w4 w5 w6 w7 => by
            have h1 := one64.fr ((hu.fr hr .mul w1).fr ((two64.fr hb .mul w2).fr ((two64.fr hb .mul w3).fr one64 .add w4) .mul w5) .quo w6) .sub w7
            rw [k8_den j hlt] at h1
            exact (show Fl .f64 _ (sP (fop .mul .f64 (sZ (sF2 GG)) (sZ (sF2 GG))) (j + 1)) from h1))
          have HB2 := Lib.hid (fun w1 => k8_next hb hlt w1)
          have HL := Lib.hid hlt
          go_wp2
          refine ⟨⟨j + 1, _, _, _, by omega, rfl, Lib.hid (HB2.out _), rfl, HN.out _ _ _ _ _ _ _, rfl⟩, ?_⟩
          rw [HB2.out, HB.out]; exact k8_M j HL.out
        · obtain rfl : j = 8 := by omega
          have hg8 := k8_end
          rw [← ho] at hg8
          clear ho
          have HR := Lib.hid (fun w1 => hz.fr hr .mul w1)
          go_wp2
          go_ret
          exact ⟨_, _, rfl, by unfold sC1; rw [k2]; exact (HR.out _).neg64, rfl⟩
    · go_upto_region 7 with fail
      clear o3
      have HQ := Lib.hid (fun w => half_fl.fr hh .sub w)
      generalize hhh : fr .sub .f64 4602678819172646912 h _ = e
      have he : Fl .f64 e (sF3 (sF2 GG)) := by unfold sF3; rw [k3, ← hhh]; exact HQ.out _
      clear hhh HQ k3
      have HQ := Lib.hid (fun w => he.fr turn_fl .mul w)
      go_upto_region 8 with fail
      generalize hhz : fr .mul .f64 e 4618760256179416344 _ = z
      have hz : Fl .f64 z (sZ (sF2 GG)) := by rw [← hhz]; exact HQ.out _
      clear hhz HQ
      have HQ := Lib.hid (fun w => hz.fr hz .mul w)
      go_upto_region 9 with fail
      generalize hhu : fr .mul .f64 z z _ = u
      have hu : Fl .f64 u (fop .mul .f64 (sZ (sF2 GG)) (sZ (sF2 GG))) := by rw [← hhu]; exact HQ.out _
      clear hhu HQ
      go_wp2_with fail
      go_loopw [7, 8] (fun p i w' => ∃ j m r b, j ≤ 8 ∧ i = .float .f64 b ∧ Hid (b = floatOfInt .f64 ((8 - j : Nat) : Int)) ∧ p = .float .f64 r ∧ Fl .f64 r (sP (fop .mul .f64 (sZ (sF2 GG)) (sZ (sF2 GG))) j) ∧ w' = w.drewN m) (fun _ k _ => kM k)
      case atStart => exact ⟨0, _, _, _, Nat.zero_le _, rfl, Lib.hid (by decide), rfl, one64, rfl⟩
      case round =>
        obtain ⟨j, m, r, b, hj, rfl, HB, rfl, hr, rfl⟩ := hrel
        have hb : Fl .f64 b (some (floatOfInt .f64 ((8 - j : Nat) : Int))) := by rw [HB.out]; exact intF64_fl _
        have ho := Fl.ord hb one64
        by_cases hlt : j < 8
        · have hg8 := k8_go j hlt
          rw [← ho] at hg8
          clear ho
          have HN := Lib.hid (fun w1 w2 w3 w4 w5 w6 w7 => by
            have h1 := one64.fr ((hu.fr hr .mul w1).fr ((two64.fr hb .mul w2).fr ((two64.fr hb .mul w3).fr one64 .add w4) .mul w5) .quo w6) .sub w7
            rw [k8_den j hlt] at h1
            exact (show Fl .f64 _ (sP (fop .mul .f64 (sZ (sF2 GG)) (sZ (sF2 GG))) (j + 1)) from h1))
          have HB2 := Lib.hid (fun w1 => k8_next hb hlt w1)
          have HL := Lib.hid hlt
          go_wp2
          refine ⟨⟨j + 1, _, _, _, by omega, rfl, Lib.hid (HB2.out _), rfl, HN.out _ _ _ _ _ _ _, rfl⟩, ?_⟩
          rw [HB2.out, HB.out]; exact k8_M j HL.out
        · obtain rfl : j = 8 := by omega
          have hg8 := k8_end
          rw [← ho] at hg8
          clear ho
          have HR := Lib.hid (fun w1 => hz.fr hr .mul w1)
          go_wp2
          go_ret
          exact ⟨_, _, rfl, by unfold sC1; rw [k2]; exact (HR.out _).neg64, rfl⟩
set_option maxHeartbeats 400000 in
theorem impl_isFar {y : Nat} (hy : Fl .f64 y (some y)) (n1 : isN .f64 y = false) (w : World) : Calls Try.prog 61 #[.float .f64 y] w fun e w' => e = .returned (.bool (farB y)) ∧ w = w' := by
  have hf := far_abs n1
  have hfl : Fl .f64 (y % 9223372036854775808) (some (y % 9223372036854775808)) := .of_lit (by have := lt64 hy.wf; show _ < 18446744073709551616; omega) (by rw [isN64, show Fp.rung Ieee.double (y % 9223372036854775808) = Fp.rung Ieee.double y by show y % 9223372036854775808 % 9223372036854775808 = y % 9223372036854775808; omega, ← isN64]; exact n1)
  have o1 := Fl.ord hfl farP
  rw [hf]
  go_enter Try.func61, Try.ntmps61
  go_wp2_with (go_at_call 78; refine (math_Abs hy.wf _).mono ?_; rintro e w' ⟨rfl, rfl⟩)
  go_ret
  exact ⟨ret_bool (by first | rfl | simp), rfl⟩
def Has (X : Option Nat) : Prop := ∃ x, Fl .f64 x X
theorem Has.op {X Y : Option Nat} (w : World) (op : BinOp) (hx : Has X) (hy : Has Y) : Has (fop op .f64 X Y) := by
  obtain ⟨x, hx⟩ := hx
  obtain ⟨y, hy⟩ := hy
  exact ⟨_, hx.fr hy op w⟩
theorem has_sP (w : World) {U : Option Nat} (hU : Has U) : ∀ j, Has (sP U j)
  | 0 => ⟨_, one64⟩
  | j + 1 => .op w .sub ⟨_, one64⟩ (.op w .quo (.op w .mul hU (has_sP w hU j)) ⟨_, intF64_fl _⟩)
theorem has_sR (w : World) {H : Option Nat} (hH : Has H) : Has (sR H) := by
  have h3 : Has (sF3 H) := by
    unfold sF3
    split
    · exact .op w .sub ⟨_, half_fl⟩ hH
    · exact hH
  have hz : Has (sZ H) := .op w .mul h3 ⟨_, turn_fl⟩
  exact .op w .mul hz (has_sP w (.op w .mul hz hz) 8)
theorem has_F2 (w : World) {F : Option Nat} (hF : Has F) : Has (sF2 (sF1 F)) := by
  have h1 : Has (sF1 F) := by
    unfold sF1
    split
    · exact .op w .add hF ⟨_, one64⟩
    · exact hF
  unfold sF2
  split
  · exact .op w .sub h1 ⟨_, half_fl⟩
  · exact h1
theorem sinSW_fits {Y : Option Nat} {y : Nat} (hy : Fl .f64 y Y) (w : World) : fits (sinSW Y) = true := by
  cases c : finS Y
  · rw [sinSW_no c]; rfl
  · obtain ⟨rfl, hfin, n1⟩ := fin_of hy c
    rw [sinSW_some c]
    cases hf : farB y
    · obtain ⟨h1, hq⟩ := far_not (b := y) (by unfold farB at hf; simpa using hf)
      simp only [Bool.false_eq_true, if_false]
      refine sinC_fits (bd_rest h1 hq) (fun b hb => ?_)
      obtain ⟨x, hx⟩ := has_sR w (has_F2 w (.op w .sub ⟨_, hy⟩ ⟨_, wB_fl y⟩) : Has (sF2 (sF1 (fop .sub .f64 (some y) (some (wB y))))))
      rw [hb] at hx
      have e := hx.some
      rw [← e]; exact lt64 hx.wf
    · simp only [if_true]; decide
def sinF (X : Option Nat) : Option Nat := narrow (sinSW (wide X))
set_option maxHeartbeats 800000 in
theorem spec_l01Sine {x : Nat} {X : Option Nat} (hx : Fl .f32 x X) (w : World) : Calls Try.prog 59 #[.float .f32 x] w (RF .f32 (sinF X) w) := by
  have HF := Lib.hid (sinSW_fits (hx.cw w) w)
  have HC := Lib.hid (fun w1 w2 => spec_l01SineWide (hx.cw w1) w2)
  go_enter Try.func59, Try.ntmps59
  go_wp2_with (first
    | (go_at_call 77; refine (HC.out _ _).mono ?_; rintro e w' ⟨p, q, rfl, hp, rfl⟩)
    | (go_at_call 74; refine (spec_l01Narrow hp HF.out _).mono ?_; rintro e w' ⟨p2, q2, rfl, hp2, rfl⟩))
  go_ret
  exact ⟨_, _, rfl, hp2, rfl⟩
set_option maxHeartbeats 400000 in
set_option maxRecDepth 20000 in
theorem spec_SineTurns {x : Nat} {X : Option Nat} (hx : Fl .f32 x X) (w : World) :
    Calls Try.prog 30 #[.float .f32 x] w (RF .f32 ((sinF X)) w) := by
  go_enter Try.func30, Try.ntmps30
  go_wp2_with (go_at_call 59; refine (spec_l01Sine hx _).mono ?_; rintro e w' ⟨p, q, rfl, hp, rfl⟩)
  all_goals (go_ret; first | exact ⟨_, _, rfl, (by repeat (first | (with_reducible assumption) | exact Fl.of_lit (by decide) (by decide) | apply Fl.fr | apply Fl.cw | apply Fl.cn)), rfl⟩ | exact ⟨_, 0, rfl, (by repeat (first | (with_reducible assumption) | exact Fl.of_lit (by decide) (by decide) | apply Fl.fr | apply Fl.cw | apply Fl.cn)), rfl⟩)
set_option maxHeartbeats 800000 in
theorem impl_isFinite64 {y : Nat} {Y : Option Nat} (hy : Fl .f64 y Y) (w : World) : Calls Try.prog 60 #[.float .f64 y] w (RB (finS Y) w) := by
  have o1 := Fl.ord (hy.fr hy .sub w) zeroS
  go_enter Try.func60, Try.ntmps60
  go_wp2
  go_ret
  exact ⟨rfl, _, rfl⟩
set_option maxHeartbeats 1600000 in
theorem impl_SineTurns {x : Nat} {X : Option Nat} (hx : Fl .f32 x X) (w : World) : Calls Try.prog 31 #[.float .f32 x] w (RF .f32 (sinF X) w) := by
  have hy := hx.cw w
  have hfit := sinSW_fits hy w
  have HI := Lib.hid (fun w1 => impl_isFinite64 hy w1)
  generalize hyy : cw x w = y at *
  cases c : finS (wide X)
  · have e1 : sinF X = none := by unfold sinF; rw [sinSW_no c]; rfl
    rw [c] at HI
    rw [e1]
    have HN := Lib.hid (fun w1 => nan64.cn rfl w1)
    clear hy hfit e1 c
    go_enter Try.func31, Try.ntmps31
    go_upto_region 2 with fail
    go_wp2_with (first | (go_at_call 60; refine (HI.out _).mono ?_; rintro e w' ⟨rfl, q, rfl⟩) | (go_at_call 56; refine (math_NaN _).mono ?_; rintro e w' ⟨rfl, rfl⟩))
    go_ret
    exact ⟨_, _, rfl, HN.out _, rfl⟩
  · obtain ⟨eY, hfin, n1⟩ := fin_of hy c
    rw [c] at HI
    have HA := Lib.hid (fun w1 => impl_isFar (by rw [← eY]; exact hy) n1 w1)
    have es : sinF X = narrow (if farB y = true then some 0 else sinC (fop .sub .f64 (some y) (some (wB y)))) := by
      unfold sinF; rw [eY]; rw [eY] at c; rw [sinSW_some c]
    rw [eY] at hfit c hy
    rw [sinSW_some c] at hfit
    rw [es]
    cases hf : farB y
    · rw [hf] at HA hfit
      simp only [Bool.false_eq_true, if_false] at hfit
      simp only [Bool.false_eq_true, if_false]
      obtain ⟨-, hq⟩ := far_not (b := y) (by unfold farB at hf; simpa using hf)
      have HS := Lib.hid (fun w1 => impl_sine hy hfin hq w1)
      have HFT := Lib.hid hfit
      clear hfit es c hf hfin hq n1 eY
      go_enter Try.func31, Try.ntmps31
      go_upto_region 2 with fail
      go_wp2_with (first | (go_at_call 60; refine (HI.out _).mono ?_; rintro e w' ⟨rfl, q, rfl⟩) | (go_at_call 61; refine (HA.out _).mono ?_; rintro e w' ⟨rfl, rfl⟩) | (go_at_call 62; refine (HS.out _).mono ?_; rintro e w' ⟨p, q2, rfl, hp, rfl⟩))
      go_ret
      exact ⟨_, _, rfl, hp.cn HFT.out _, rfl⟩
    · rw [hf] at HA
      simp only [if_true]
      clear hfit es c hf hfin n1 eY
      go_enter Try.func31, Try.ntmps31
      go_upto_region 2 with fail
      go_wp2_with (first | (go_at_call 60; refine (HI.out _).mono ?_; rintro e w' ⟨rfl, q, rfl⟩) | (go_at_call 61; refine (HA.out _).mono ?_; rintro e w' ⟨rfl, rfl⟩))
      go_ret
      exact ⟨_, _, rfl, by rw [show narrow (some 0) = some 0 by decide]; exact .of_lit (by decide) (by decide), rfl⟩
set_option maxHeartbeats 400000 in
theorem sineTurns_walk (x : Nat) (w : World) (hw : x < 2 ^ FloatKind.f32.format.width) : Calls Try.prog 10 #[.float .f32 x] w fun e w' => e = .returned (.bool true) ∧ Below w.heap.size w w' := by
  have hx := Fl.self hw
  go_enter Try.func10, Try.ntmps10
  go_wp2_with (first
    | (go_at_call 30; refine (spec_SineTurns hx _).mono ?_; rintro e w' ⟨r1, n1, rfl, hr1, rfl⟩)
    | (go_at_call 31; refine (impl_SineTurns hx _).mono ?_; rintro e w' ⟨r2, n2, rfl, hr2, rfl⟩)
    | (go_at_call 17; refine (laws_sameFloat (hr2.cw _) (hr1.cw _) _).mono ?_; rintro e w' ⟨rfl, n3, rfl⟩))
  go_ret
  exact ⟨rfl, below_draws _ _⟩

end Go.Proofs.Ytpeflkakljaheaa
