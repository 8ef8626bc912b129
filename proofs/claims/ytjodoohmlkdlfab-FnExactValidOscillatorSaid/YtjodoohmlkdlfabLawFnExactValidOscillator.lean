/- The row of FnExactValidOscillator: for every input the law returns true and leaves its arguments as they were. Conditions: none beside the given statement's own. -/
import Derived.Test.YtjodoohmlkdlfabRows
import Derived.Test.YtjodoohmlkdlfabB
import Derived.Test.YtjodoohmlkdlfabOpen
import Derived.WalkKit
import Derived.ProofKit
import Derived.OpenShut
import Derived.ShutString
import Derived.ChangeOld
import Derived.Below
import Derived.SizedLaws
import Derived.Lib.SmallJoins
import Derived.Laws.Cover2
set_option linter.unusedVariables false
namespace Go.Proofs.Ytjodoohmlkdlfab.fnExactValidOscillator
open Go.ChangeShapes Go.WideShapes Go.ChangeAt Go.RowKit
open Go.ChangeMaps (open_string shut_string)
theorem own : ownKnob Try.prog.godebug = none := by kernel_rfl
theorem laidOut : laidOutB Try.prog = true := by kernel_rfl
set_option maxRecDepth 100000 in
theorem lifted (os : Os) (started : os.Started) (H : Type) (enc : TypeId × Value → H) :
    ReturnsInHanded {} Try.checked os 5 .any (Rows.fnExactValidOscillatorSpec.pre6 enc Try.prog Try.f5 Rows.fnExactValidOscillatorRow.domain false) (Rows.fnExactValidOscillatorSpec.post enc Try.prog Try.f5 false true false false) := by
  refine returnsInHanded_of_change_sized (C := Try.checked) own started (by kernel_rfl) Try.func5
    (ChangeSpec.witness6 (enc := enc) (C := Try.checked) false ⟨#[], #[.agg #[.int .i64 0, .float .f32 0, .float .f32 0]], []⟩ 8 (by kernel_rfl) (by kernel_rfl) (by kernel_rfl) (by kernel_rfl)) ?_
  intro W base args ds gs before hval0 hW hcnd hsz0 _
  have hsz : (DataW.weightsEach Try.prog (Try.f5.params.toList ++ Rows.fnExactValidOscillatorSpec.plain.varTypes Try.prog) (ds ++ gs)).all (· ≤ reachBytes) = true := hsz0
  have hval : ∀ (j : Nat) t v, Try.f5.params[j]? = some t → args[j]? = some v → Value.okWide Try.prog W .any base t v := hval0
  have hW' := hW
  obtain ⟨p, q, hA0, hV, rfl, hfz, hnd⟩ := hW
  have hA : DataW.TrodAll enc Try.prog W 0 (fun _ => true) true Try.f5.params.toList args.toList ds p := hA0
  rw [Try.params5] at hA hval hsz
  obtain ⟨v0, vs0, d0, ds0, p0, q0, hargs, rfl, rfl, h0, r0⟩ := trodAll_cons hA
  obtain ⟨rfl, rfl, rfl⟩ := trodAll_nil r0
  obtain rfl : args = #[v0] := by cases args; simp_all
  obtain ⟨rfl, rfl⟩ := trodVars_none hV
  have k0 := h0
  have lt0 : ∀ x ∈ p0, x.block < W.heap.size := by obtain ⟨m, hm⟩ := k0; exact DataW.trod_lt m _ _ _ hm
  obtain ⟨cs0, rfl, all0_0⟩ := open_agg (P := Try.prog) (t := 36) (l := [.sc .i64, .sc .f32, .sc .f32]) Try.underlying36 (by kernel_rfl) (hval 0 36 v0 rfl rfl) h0
  obtain ⟨_, m0_0, rfl, ⟨a0_0, rfl, w0_0⟩, all0_1⟩ := All2.cons_inv all0_0
  obtain ⟨_, m0_1, rfl, ⟨a0_1, rfl, w0_1⟩, all0_2⟩ := All2.cons_inv all0_1
  obtain ⟨_, m0_2, rfl, ⟨a0_2, rfl, w0_2⟩, all0_3⟩ := All2.cons_inv all0_2
  obtain rfl := All2.nil_inv all0_3
  clear hA0 hval0 hsz0
  refine (validOscillator_walk a0_0 a0_1 a0_2 W w0_0 w0_1 w0_2).mono fun e W' ⟨he, bel⟩ => ?_
  subst he
  exact ⟨_, rfl, _, _, _, [], _, [], hW', trodAll_mk1 (shut_bool Try.underlying4 _), (trodAll_cons_mk (Below.trod laidOut (by kernel_rfl) (of_decide_eq_true (by kernel_rfl)) k0 bel lt0) trodAll_mk0), rfl, bel.frame _, fun h => by cases h⟩
theorem over : Rows.fnExactValidOscillatorRow.holds Try.pinned (OpenSpec.ofChange Rows.fnExactValidOscillatorSpec) :=
  OpenClaim.holds_of_wide 5 Try.f5 rfl rfl rfl rfl rfl rfl rfl ⟨rfl, rfl, rfl, rfl, rfl⟩ rfl rfl rfl rfl rfl (by kernel_rfl) Try.func5 (by kernel_rfl)
    (of_decide_eq_true (by kernel_rfl)) (by unfold Func.isWrapper; first | (rw [if_pos (by decide +kernel)]; kernel_rfl) | (rw [if_neg (by decide +kernel)]; exact ⟨rfl, rfl⟩))
    (fun os started H enc _ => lifted os started H enc)
end Go.Proofs.Ytjodoohmlkdlfab.fnExactValidOscillator
namespace Go.Proofs.Ytjodoohmlkdlfab
/-- The row, under a short name, for the claim. -/
theorem fnExactValidOscillator_holds : Rows.FnExactValidOscillatorSaid := fnExactValidOscillator.over
#print axioms fnExactValidOscillator_holds
end Go.Proofs.Ytjodoohmlkdlfab
