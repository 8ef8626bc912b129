/- The row of FnExactEmptyRoom: for every input the law returns true and leaves its arguments as they were. Conditions: none beside the given statement's own. -/
import Derived.Test.YtlenpecnfilkjaaRows
import Derived.Test.YtlenpecnfilkjaaU4
import Derived.Test.YtlenpecnfilkjaaOpen
import Derived.WalkKit
import Derived.ProofKit
import Derived.OpenShut
import Derived.ShutString
import Derived.ChangeOld
import Derived.Below
import Derived.SizedLaws
import Derived.Lib.SmallJoins
import Derived.Laws.Cover2
set_option linter.unusedVariables false
namespace Go.Proofs.Ytlenpecnfilkjaa.fnExactEmptyRoom
open Go.ChangeShapes Go.WideShapes Go.ChangeAt Go.RowKit
open Go.ChangeMaps (open_string shut_string)
theorem own : ownKnob Try.prog.godebug = none := by kernel_rfl
theorem laidOut : laidOutB Try.prog = true := by kernel_rfl
set_option maxRecDepth 100000 in
theorem lifted (os : Os) (started : os.Started) (H : Type) (enc : TypeId × Value → H) :
    ReturnsInHanded {} Try.checked os 12 .any (Rows.fnExactEmptyRoomSpec.pre6 enc Try.prog Try.f12 Rows.fnExactEmptyRoomRow.domain false) (Rows.fnExactEmptyRoomSpec.post enc Try.prog Try.f12 false true false false) := by
  refine returnsInHanded_of_change_sized (C := Try.checked) own started (by kernel_rfl) Try.func12
    (ChangeSpec.witness6 (enc := enc) (C := Try.checked) false ⟨#[], #[.agg #[.slice none 0 0, .slice none 0 0, .float .f32 0, .float .f32 0]], []⟩ 8 (by kernel_rfl) (by kernel_rfl) (by kernel_rfl) (by kernel_rfl)) ?_
  intro W base args ds gs before hval0 hW hcnd hsz0 _
  have hsz : (DataW.weightsEach Try.prog (Try.f12.params.toList ++ Rows.fnExactEmptyRoomSpec.plain.varTypes Try.prog) (ds ++ gs)).all (· ≤ reachBytes) = true := hsz0
  have hval : ∀ (j : Nat) t v, Try.f12.params[j]? = some t → args[j]? = some v → Value.okWide Try.prog W .any base t v := hval0
  have hW' := hW
  obtain ⟨p, q, hA0, hV, rfl, hfz, hnd⟩ := hW
  have hA : DataW.TrodAll enc Try.prog W 0 (fun _ => true) true Try.f12.params.toList args.toList ds p := hA0
  rw [Try.params12] at hA hval hsz
  obtain ⟨v0, vs0, d0, ds0, p0, q0, hargs, rfl, rfl, h0, r0⟩ := trodAll_cons hA
  obtain ⟨rfl, rfl, rfl⟩ := trodAll_nil r0
  obtain rfl : args = #[v0] := by cases args; simp_all
  obtain ⟨rfl, rfl⟩ := trodVars_none hV
  have k0 := h0
  have lt0 : ∀ x ∈ p0, x.block < W.heap.size := by obtain ⟨m, hm⟩ := k0; exact DataW.trod_lt m _ _ _ hm
  obtain ⟨cs0, rfl, all0_0⟩ := open_agg (P := Try.prog) (t := 70) (l := [.row [.i64, .f32, .f32, .f32, .bool], .row [.i64, .f32], .sc .f32, .sc .f32]) Try.underlying70 (by kernel_rfl) (hval 0 70 v0 rfl rfl) h0
  obtain ⟨_, m0_0, rfl, ⟨a0_0, n0_0, c0_0, l0_0, rfl, w0_0⟩, all0_1⟩ := All2.cons_inv all0_0
  obtain ⟨_, m0_1, rfl, ⟨a0_1, n0_1, c0_1, l0_1, rfl, w0_1⟩, all0_2⟩ := All2.cons_inv all0_1
  obtain ⟨_, m0_2, rfl, ⟨a0_2, rfl, w0_2⟩, all0_3⟩ := All2.cons_inv all0_2
  obtain ⟨_, m0_3, rfl, ⟨a0_3, rfl, w0_3⟩, all0_4⟩ := All2.cons_inv all0_3
  obtain rfl := All2.nil_inv all0_4
  clear hA0 hval0 hsz0
  refine (emptyRoom_walk a0_0 n0_0 c0_0 l0_0 a0_1 n0_1 c0_1 l0_1 a0_2 a0_3 W w0_0 w0_1 w0_2 w0_3).mono fun e W' ⟨he, bel⟩ => ?_
  subst he
  exact ⟨_, rfl, _, _, _, [], _, [], hW', trodAll_mk1 (shut_bool Try.underlying4 _), (trodAll_cons_mk (Below.trod laidOut (by kernel_rfl) (of_decide_eq_true (by kernel_rfl)) k0 bel lt0) trodAll_mk0), rfl, bel.frame _, fun h => by cases h⟩
theorem over : Rows.fnExactEmptyRoomRow.holds Try.pinned (OpenSpec.ofChange Rows.fnExactEmptyRoomSpec) :=
  OpenClaim.holds_of_wide 12 Try.f12 rfl rfl rfl rfl rfl rfl rfl ⟨rfl, rfl, rfl, rfl, rfl⟩ rfl rfl rfl rfl rfl (by kernel_rfl) Try.func12 (by kernel_rfl)
    (of_decide_eq_true (by kernel_rfl)) (by unfold Func.isWrapper; first | (rw [if_pos (by decide +kernel)]; kernel_rfl) | (rw [if_neg (by decide +kernel)]; exact ⟨rfl, rfl⟩))
    (fun os started H enc _ => lifted os started H enc)
end Go.Proofs.Ytlenpecnfilkjaa.fnExactEmptyRoom
namespace Go.Proofs.Ytlenpecnfilkjaa
/-- The row, under a short name, for the claim. -/
theorem fnExactEmptyRoom_holds : Rows.FnExactEmptyRoomSaid := fnExactEmptyRoom.over
#print axioms fnExactEmptyRoom_holds
end Go.Proofs.Ytlenpecnfilkjaa
