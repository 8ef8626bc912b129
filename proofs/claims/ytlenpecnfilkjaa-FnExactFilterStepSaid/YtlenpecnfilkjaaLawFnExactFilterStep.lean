/- The row of FnExactFilterStep: for every input the law returns true and leaves its arguments as they were. Conditions: none beside the given statement's own. -/
import Derived.Test.YtlenpecnfilkjaaRows
import Derived.Test.YtlenpecnfilkjaaH6
import Derived.Test.YtlenpecnfilkjaaOpen
import Derived.WalkKit
import Derived.ProofKit
import Derived.OpenShut
import Derived.ShutString
import Derived.ChangeOld
import Derived.Below
import Derived.SizedLaws
import Derived.Lib.SmallJoins
import Derived.Laws.Cover2
set_option linter.unusedVariables false
namespace Go.Proofs.Ytlenpecnfilkjaa.fnExactFilterStep
open Go.ChangeShapes Go.WideShapes Go.ChangeAt Go.RowKit
open Go.ChangeMaps (open_string shut_string)
theorem own : ownKnob Try.prog.godebug = none := by kernel_rfl
theorem laidOut : laidOutB Try.prog = true := by kernel_rfl
set_option maxRecDepth 100000 in
theorem lifted (os : Os) (started : os.Started) (H : Type) (enc : TypeId × Value → H) :
    ReturnsInHanded {} Try.checked os 6 .any (Rows.fnExactFilterStepSpec.pre6 enc Try.prog Try.f6 Rows.fnExactFilterStepRow.domain false) (Rows.fnExactFilterStepSpec.post enc Try.prog Try.f6 false true false false) := by
  refine returnsInHanded_of_change_sized (C := Try.checked) own started (by kernel_rfl) Try.func6
    (ChangeSpec.witness6 (enc := enc) (C := Try.checked) false ⟨#[], #[.agg #[.float .f32 0, .float .f32 0, .float .f32 0, .float .f32 0, .float .f32 0], .int .i64 0, .bool false, .agg #[.float .f32 0, .float .f32 0, .float .f32 0, .float .f32 0], .float .f32 0], []⟩ 8 (by kernel_rfl) (by kernel_rfl) (by kernel_rfl) (by kernel_rfl)) ?_
  intro W base args ds gs before hval0 hW hcnd hsz0 _
  have hsz : (DataW.weightsEach Try.prog (Try.f6.params.toList ++ Rows.fnExactFilterStepSpec.plain.varTypes Try.prog) (ds ++ gs)).all (· ≤ reachBytes) = true := hsz0
  have hval : ∀ (j : Nat) t v, Try.f6.params[j]? = some t → args[j]? = some v → Value.okWide Try.prog W .any base t v := hval0
  have hW' := hW
  obtain ⟨p, q, hA0, hV, rfl, hfz, hnd⟩ := hW
  have hA : DataW.TrodAll enc Try.prog W 0 (fun _ => true) true Try.f6.params.toList args.toList ds p := hA0
  rw [Try.params6] at hA hval hsz
  obtain ⟨v0, vs0, d0, ds0, p0, q0, hargs, rfl, rfl, h0, r0⟩ := trodAll_cons hA
  obtain ⟨v1, vs1, d1, ds1, p1, q1, rfl, rfl, rfl, h1, r1⟩ := trodAll_cons r0
  obtain ⟨v2, vs2, d2, ds2, p2, q2, rfl, rfl, rfl, h2, r2⟩ := trodAll_cons r1
  obtain ⟨v3, vs3, d3, ds3, p3, q3, rfl, rfl, rfl, h3, r3⟩ := trodAll_cons r2
  obtain ⟨v4, vs4, d4, ds4, p4, q4, rfl, rfl, rfl, h4, r4⟩ := trodAll_cons r3
  obtain ⟨rfl, rfl, rfl⟩ := trodAll_nil r4
  obtain rfl : args = #[v0, v1, v2, v3, v4] := by cases args; simp_all
  obtain ⟨rfl, rfl⟩ := trodVars_none hV
  have k0 := h0
  have lt0 : ∀ x ∈ p0, x.block < W.heap.size := by obtain ⟨m, hm⟩ := k0; exact DataW.trod_lt m _ _ _ hm
  obtain ⟨cs0, rfl, all0_0⟩ := open_agg (P := Try.prog) (t := 34) (l := [.sc .f32, .sc .f32, .sc .f32, .sc .f32, .sc .f32]) Try.underlying34 (by kernel_rfl) (hval 0 34 v0 rfl rfl) h0
  obtain ⟨_, m0_0, rfl, ⟨a0_0, rfl, w0_0⟩, all0_1⟩ := All2.cons_inv all0_0
  obtain ⟨_, m0_1, rfl, ⟨a0_1, rfl, w0_1⟩, all0_2⟩ := All2.cons_inv all0_1
  obtain ⟨_, m0_2, rfl, ⟨a0_2, rfl, w0_2⟩, all0_3⟩ := All2.cons_inv all0_2
  obtain ⟨_, m0_3, rfl, ⟨a0_3, rfl, w0_3⟩, all0_4⟩ := All2.cons_inv all0_3
  obtain ⟨_, m0_4, rfl, ⟨a0_4, rfl, w0_4⟩, all0_5⟩ := All2.cons_inv all0_4
  obtain rfl := All2.nil_inv all0_5
  have k1 := h1
  have lt1 : ∀ x ∈ p1, x.block < W.heap.size := by obtain ⟨m, hm⟩ := k1; exact DataW.trod_lt m _ _ _ hm
  obtain ⟨a1, rfl, rfl, rfl, w1⟩ := open_int Try.underlying2 (hval 1 2 v1 rfl rfl) h1
  have k2 := h2
  have lt2 : ∀ x ∈ p2, x.block < W.heap.size := by obtain ⟨m, hm⟩ := k2; exact DataW.trod_lt m _ _ _ hm
  obtain ⟨a2, rfl, rfl, rfl⟩ := open_bool Try.underlying4 (hval 2 4 v2 rfl rfl) h2
  have k3 := h3
  have lt3 : ∀ x ∈ p3, x.block < W.heap.size := by obtain ⟨m, hm⟩ := k3; exact DataW.trod_lt m _ _ _ hm
  obtain ⟨cs3, rfl, all3_0⟩ := open_agg (P := Try.prog) (t := 24) (l := [.sc .f32, .sc .f32, .sc .f32, .sc .f32]) Try.underlying24 (by kernel_rfl) (hval 3 24 v3 rfl rfl) h3
  obtain ⟨_, m3_0, rfl, ⟨a3_0, rfl, w3_0⟩, all3_1⟩ := All2.cons_inv all3_0
  obtain ⟨_, m3_1, rfl, ⟨a3_1, rfl, w3_1⟩, all3_2⟩ := All2.cons_inv all3_1
  obtain ⟨_, m3_2, rfl, ⟨a3_2, rfl, w3_2⟩, all3_3⟩ := All2.cons_inv all3_2
  obtain ⟨_, m3_3, rfl, ⟨a3_3, rfl, w3_3⟩, all3_4⟩ := All2.cons_inv all3_3
  obtain rfl := All2.nil_inv all3_4
  have k4 := h4
  have lt4 : ∀ x ∈ p4, x.block < W.heap.size := by obtain ⟨m, hm⟩ := k4; exact DataW.trod_lt m _ _ _ hm
  obtain ⟨a4, rfl, rfl, rfl, w4⟩ := open_float Try.underlying22 (hval 4 22 v4 rfl rfl) h4
  clear hA0 hval0 hsz0
  refine (filterStep_walk a0_0 a0_1 a0_2 a0_3 a0_4 a1 a2 a3_0 a3_1 a3_2 a3_3 a4 W w0_0 w0_1 w0_2 w0_3 w0_4 w1 w3_0 w3_1 w3_2 w3_3 (wf_lt w4)).mono fun e W' ⟨he, bel⟩ => ?_
  subst he
  exact ⟨_, rfl, _, _, _, [], _, [], hW', trodAll_mk1 (shut_bool Try.underlying4 _), (trodAll_cons_mk (Below.trod laidOut (by kernel_rfl) (of_decide_eq_true (by kernel_rfl)) k0 bel lt0) (trodAll_cons_mk (shut_int Try.underlying2 w1) (trodAll_cons_mk (shut_bool Try.underlying4 _) (trodAll_cons_mk (Below.trod laidOut (by kernel_rfl) (of_decide_eq_true (by kernel_rfl)) k3 bel lt3) (trodAll_cons_mk (shut_float Try.underlying22 w4) trodAll_mk0))))), rfl, bel.frame _, fun h => by cases h⟩
theorem over : Rows.fnExactFilterStepRow.holds Try.pinned (OpenSpec.ofChange Rows.fnExactFilterStepSpec) :=
  OpenClaim.holds_of_wide 6 Try.f6 rfl rfl rfl rfl rfl rfl rfl ⟨rfl, rfl, rfl, rfl, rfl⟩ rfl rfl rfl rfl rfl (by kernel_rfl) Try.func6 (by kernel_rfl)
    (of_decide_eq_true (by kernel_rfl)) (by unfold Func.isWrapper; first | (rw [if_pos (by decide +kernel)]; kernel_rfl) | (rw [if_neg (by decide +kernel)]; exact ⟨rfl, rfl⟩))
    (fun os started H enc _ => lifted os started H enc)
end Go.Proofs.Ytlenpecnfilkjaa.fnExactFilterStep
namespace Go.Proofs.Ytlenpecnfilkjaa
/-- The row, under a short name, for the claim. -/
theorem fnExactFilterStep_holds : Rows.FnExactFilterStepSaid := fnExactFilterStep.over
#print axioms fnExactFilterStep_holds
end Go.Proofs.Ytlenpecnfilkjaa
