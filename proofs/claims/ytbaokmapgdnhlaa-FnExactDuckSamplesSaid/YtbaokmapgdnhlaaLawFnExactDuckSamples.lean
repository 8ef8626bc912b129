/- The row of FnExactDuckSamples: for every input the law returns true and leaves its arguments as they were. Conditions: none beside the given statement's own. -/
import Derived.Test.YtbaokmapgdnhlaaRows
import Derived.Test.YtbaokmapgdnhlaaE8
import Derived.Test.YtbaokmapgdnhlaaOpen
import Derived.WalkKit
import Derived.ProofKit
import Derived.OpenShut
import Derived.ShutString
import Derived.ChangeOld
import Derived.Below
import Derived.SizedLaws
import Derived.Lib.SmallJoins
import Derived.Laws.Cover2
set_option linter.unusedVariables false
namespace Go.Proofs.Ytbaokmapgdnhlaa.fnExactDuckSamples
open Go.ChangeShapes Go.WideShapes Go.ChangeAt Go.RowKit
open Go.ChangeMaps (open_string shut_string)
theorem own : ownKnob Try.prog.godebug = none := by kernel_rfl
theorem laidOut : laidOutB Try.prog = true := by kernel_rfl
set_option maxRecDepth 100000 in
theorem lifted (os : Os) (started : os.Started) (H : Type) (enc : TypeId × Value → H) :
    ReturnsInHanded {} Try.checked os 10 .any (Rows.fnExactDuckSamplesSpec.pre6 enc Try.prog Try.f10 Rows.fnExactDuckSamplesRow.domain false) (Rows.fnExactDuckSamplesSpec.post enc Try.prog Try.f10 false true false false) := by
  refine returnsInHanded_of_change_sized (C := Try.checked) own started (by kernel_rfl) Try.func10
    (ChangeSpec.witness6 (enc := enc) (C := Try.checked) false ⟨#[], #[.agg #[.float .f32 0, .float .f32 0, .float .f32 0, .float .f32 0, .float .f32 0], .slice none 0 0, .slice none 0 0], []⟩ 8 (by kernel_rfl) (by kernel_rfl) (by kernel_rfl) (by kernel_rfl)) ?_
  intro W base args ds gs before hval0 hW hcnd hsz0 _
  have hsz : (DataW.weightsEach Try.prog (Try.f10.params.toList ++ Rows.fnExactDuckSamplesSpec.plain.varTypes Try.prog) (ds ++ gs)).all (· ≤ reachBytes) = true := hsz0
  have hval : ∀ (j : Nat) t v, Try.f10.params[j]? = some t → args[j]? = some v → Value.okWide Try.prog W .any base t v := hval0
  have hW' := hW
  obtain ⟨p, q, hA0, hV, rfl, hfz, hnd⟩ := hW
  have hA : DataW.TrodAll enc Try.prog W 0 (fun _ => true) true Try.f10.params.toList args.toList ds p := hA0
  rw [Try.params10] at hA hval hsz
  obtain ⟨v0, vs0, d0, ds0, p0, q0, hargs, rfl, rfl, h0, r0⟩ := trodAll_cons hA
  obtain ⟨v1, vs1, d1, ds1, p1, q1, rfl, rfl, rfl, h1, r1⟩ := trodAll_cons r0
  obtain ⟨v2, vs2, d2, ds2, p2, q2, rfl, rfl, rfl, h2, r2⟩ := trodAll_cons r1
  obtain ⟨rfl, rfl, rfl⟩ := trodAll_nil r2
  obtain rfl : args = #[v0, v1, v2] := by cases args; simp_all
  obtain ⟨rfl, rfl⟩ := trodVars_none hV
  have k0 := h0
  have lt0 : ∀ x ∈ p0, x.block < W.heap.size := by obtain ⟨m, hm⟩ := k0; exact DataW.trod_lt m _ _ _ hm
  obtain ⟨cs0, rfl, all0_0⟩ := open_agg (P := Try.prog) (t := 66) (l := [.sc .f32, .sc .f32, .sc .f32, .sc .f32, .sc .f32]) Try.underlying66 (by kernel_rfl) (hval 0 66 v0 rfl rfl) h0
  obtain ⟨_, m0_0, rfl, ⟨a0_0, rfl, w0_0⟩, all0_1⟩ := All2.cons_inv all0_0
  obtain ⟨_, m0_1, rfl, ⟨a0_1, rfl, w0_1⟩, all0_2⟩ := All2.cons_inv all0_1
  obtain ⟨_, m0_2, rfl, ⟨a0_2, rfl, w0_2⟩, all0_3⟩ := All2.cons_inv all0_2
  obtain ⟨_, m0_3, rfl, ⟨a0_3, rfl, w0_3⟩, all0_4⟩ := All2.cons_inv all0_3
  obtain ⟨_, m0_4, rfl, ⟨a0_4, rfl, w0_4⟩, all0_5⟩ := All2.cons_inv all0_4
  obtain rfl := All2.nil_inv all0_5
  have k1 := h1
  have lt1 : ∀ x ∈ p1, x.block < W.heap.size := by obtain ⟨m, hm⟩ := k1; exact DataW.trod_lt m _ _ _ hm
  obtain ⟨a1, n1, c1, l1, rfl, w1⟩ := open_sl (P := Try.prog) (t := 25) (es := [.f32]) Try.underlying25 (by kernel_rfl) (by kernel_rfl) (hval 1 25 v1 rfl rfl) h1
  have k2 := h2
  have lt2 : ∀ x ∈ p2, x.block < W.heap.size := by obtain ⟨m, hm⟩ := k2; exact DataW.trod_lt m _ _ _ hm
  obtain ⟨a2, n2, c2, l2, rfl, w2⟩ := open_sl (P := Try.prog) (t := 25) (es := [.f32]) Try.underlying25 (by kernel_rfl) (by kernel_rfl) (hval 2 25 v2 rfl rfl) h2
  clear hA0 hval0 hsz0
  refine (duckSamples_walk a0_0 a0_1 a0_2 a0_3 a0_4 a1 n1 c1 l1 a2 n2 c2 l2 W w0_0 w0_1 w0_2 w0_3 w0_4 w1 w2).mono fun e W' ⟨he, bel⟩ => ?_
  subst he
  exact ⟨_, rfl, _, _, _, [], _, [], hW', trodAll_mk1 (shut_bool Try.underlying4 _), (trodAll_cons_mk (Below.trod laidOut (by kernel_rfl) (of_decide_eq_true (by kernel_rfl)) k0 bel lt0) (trodAll_cons_mk (Below.trod laidOut (by kernel_rfl) (of_decide_eq_true (by kernel_rfl)) k1 bel lt1) (trodAll_cons_mk (Below.trod laidOut (by kernel_rfl) (of_decide_eq_true (by kernel_rfl)) k2 bel lt2) trodAll_mk0))), rfl, bel.frame _, fun h => by cases h⟩
theorem over : Rows.fnExactDuckSamplesRow.holds Try.pinned (OpenSpec.ofChange Rows.fnExactDuckSamplesSpec) :=
  OpenClaim.holds_of_wide 10 Try.f10 rfl rfl rfl rfl rfl rfl rfl ⟨rfl, rfl, rfl, rfl, rfl⟩ rfl rfl rfl rfl rfl (by kernel_rfl) Try.func10 (by kernel_rfl)
    (of_decide_eq_true (by kernel_rfl)) (by unfold Func.isWrapper; first | (rw [if_pos (by decide +kernel)]; kernel_rfl) | (rw [if_neg (by decide +kernel)]; exact ⟨rfl, rfl⟩))
    (fun os started H enc _ => lifted os started H enc)
end Go.Proofs.Ytbaokmapgdnhlaa.fnExactDuckSamples
namespace Go.Proofs.Ytbaokmapgdnhlaa
/-- The row, under a short name, for the claim. -/
theorem fnExactDuckSamples_holds : Rows.FnExactDuckSamplesSaid := fnExactDuckSamples.over
#print axioms fnExactDuckSamples_holds
end Go.Proofs.Ytbaokmapgdnhlaa
