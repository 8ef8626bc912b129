/- The row of FnExactRunLimiter: for every input the law returns true and leaves its arguments as they were. Conditions: none beside the given statement's own. -/
import Derived.Test.YtbaokmapgdnhlaaRows
import Derived.Test.YtbaokmapgdnhlaaY4
import Derived.Test.YtbaokmapgdnhlaaOpen
import Derived.WalkKit
import Derived.ProofKit
import Derived.OpenShut
import Derived.ShutString
import Derived.ChangeOld
import Derived.Below
import Derived.SizedLaws
import Derived.Lib.SmallJoins
import Derived.Laws.Cover2
set_option linter.unusedVariables false
namespace Go.Proofs.Ytbaokmapgdnhlaa.fnExactRunLimiter
open Go.ChangeShapes Go.WideShapes Go.ChangeAt Go.RowKit
open Go.ChangeMaps (open_string shut_string)
theorem own : ownKnob Try.prog.godebug = none := by kernel_rfl
theorem laidOut : laidOutB Try.prog = true := by kernel_rfl
set_option maxRecDepth 100000 in
theorem lifted (os : Os) (started : os.Started) (H : Type) (enc : TypeId × Value → H) :
    ReturnsInHanded {} Try.checked os 11 .any (Rows.fnExactRunLimiterSpec.pre6 enc Try.prog Try.f11 Rows.fnExactRunLimiterRow.domain false) (Rows.fnExactRunLimiterSpec.post enc Try.prog Try.f11 false true false false) := by
  refine returnsInHanded_of_change_sized (C := Try.checked) own started (by kernel_rfl) Try.func11
    (ChangeSpec.witness6 (enc := enc) (C := Try.checked) false ⟨#[], #[.agg #[.float .f32 0, .float .f32 0, .float .f32 0, .slice none 0 0], .slice none 0 0], []⟩ 8 (by kernel_rfl) (by kernel_rfl) (by kernel_rfl) (by kernel_rfl)) ?_
  intro W base args ds gs before hval0 hW hcnd hsz0 _
  have hsz : (DataW.weightsEach Try.prog (Try.f11.params.toList ++ Rows.fnExactRunLimiterSpec.plain.varTypes Try.prog) (ds ++ gs)).all (· ≤ reachBytes) = true := hsz0
  have hval : ∀ (j : Nat) t v, Try.f11.params[j]? = some t → args[j]? = some v → Value.okWide Try.prog W .any base t v := hval0
  have hW' := hW
  obtain ⟨p, q, hA0, hV, rfl, hfz, hnd⟩ := hW
  have hA : DataW.TrodAll enc Try.prog W 0 (fun _ => true) true Try.f11.params.toList args.toList ds p := hA0
  rw [Try.params11] at hA hval hsz
  obtain ⟨v0, vs0, d0, ds0, p0, q0, hargs, rfl, rfl, h0, r0⟩ := trodAll_cons hA
  obtain ⟨v1, vs1, d1, ds1, p1, q1, rfl, rfl, rfl, h1, r1⟩ := trodAll_cons r0
  obtain ⟨rfl, rfl, rfl⟩ := trodAll_nil r1
  obtain rfl : args = #[v0, v1] := by cases args; simp_all
  obtain ⟨rfl, rfl⟩ := trodVars_none hV
  have k0 := h0
  have lt0 : ∀ x ∈ p0, x.block < W.heap.size := by obtain ⟨m, hm⟩ := k0; exact DataW.trod_lt m _ _ _ hm
  obtain ⟨cs0, rfl, all0_0⟩ := open_agg (P := Try.prog) (t := 77) (l := [.sc .f32, .sc .f32, .sc .f32, .row [.f32]]) Try.underlying77 (by kernel_rfl) (hval 0 77 v0 rfl rfl) h0
  obtain ⟨_, m0_0, rfl, ⟨a0_0, rfl, w0_0⟩, all0_1⟩ := All2.cons_inv all0_0
  obtain ⟨_, m0_1, rfl, ⟨a0_1, rfl, w0_1⟩, all0_2⟩ := All2.cons_inv all0_1
  obtain ⟨_, m0_2, rfl, ⟨a0_2, rfl, w0_2⟩, all0_3⟩ := All2.cons_inv all0_2
  obtain ⟨_, m0_3, rfl, ⟨a0_3, n0_3, c0_3, l0_3, rfl, w0_3⟩, all0_4⟩ := All2.cons_inv all0_3
  obtain rfl := All2.nil_inv all0_4
  have k1 := h1
  have lt1 : ∀ x ∈ p1, x.block < W.heap.size := by obtain ⟨m, hm⟩ := k1; exact DataW.trod_lt m _ _ _ hm
  obtain ⟨a1, n1, c1, l1, rfl, w1⟩ := open_sl (P := Try.prog) (t := 25) (es := [.f32]) Try.underlying25 (by kernel_rfl) (by kernel_rfl) (hval 1 25 v1 rfl rfl) h1
  clear hA0 hval0 hsz0
  refine (runLimiter_walk a0_0 a0_1 a0_2 a0_3 n0_3 c0_3 l0_3 a1 n1 c1 l1 W w0_0 w0_1 w0_2 w0_3 w1).mono fun e W' ⟨he, bel⟩ => ?_
  subst he
  exact ⟨_, rfl, _, _, _, [], _, [], hW', trodAll_mk1 (shut_bool Try.underlying4 _), (trodAll_cons_mk (Below.trod laidOut (by kernel_rfl) (of_decide_eq_true (by kernel_rfl)) k0 bel lt0) (trodAll_cons_mk (Below.trod laidOut (by kernel_rfl) (of_decide_eq_true (by kernel_rfl)) k1 bel lt1) trodAll_mk0)), rfl, bel.frame _, fun h => by cases h⟩
theorem over : Rows.fnExactRunLimiterRow.holds Try.pinned (OpenSpec.ofChange Rows.fnExactRunLimiterSpec) :=
  OpenClaim.holds_of_wide 11 Try.f11 rfl rfl rfl rfl rfl rfl rfl ⟨rfl, rfl, rfl, rfl, rfl⟩ rfl rfl rfl rfl rfl (by kernel_rfl) Try.func11 (by kernel_rfl)
    (of_decide_eq_true (by kernel_rfl)) (by unfold Func.isWrapper; first | (rw [if_pos (by decide +kernel)]; kernel_rfl) | (rw [if_neg (by decide +kernel)]; exact ⟨rfl, rfl⟩))
    (fun os started H enc _ => lifted os started H enc)
end Go.Proofs.Ytbaokmapgdnhlaa.fnExactRunLimiter
namespace Go.Proofs.Ytbaokmapgdnhlaa
/-- The row, under a short name, for the claim. -/
theorem fnExactRunLimiter_holds : Rows.FnExactRunLimiterSaid := fnExactRunLimiter.over
#print axioms fnExactRunLimiter_holds
end Go.Proofs.Ytbaokmapgdnhlaa
