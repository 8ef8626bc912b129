/- The walk of the law on empty lines. Conditions: none. -/
import Derived.Test.YtbaokmapgdnhlaaL2
import Derived.Test.YtbaokmapgdnhlaaS1
set_option linter.unusedVariables false
set_option linter.unusedSimpArgs false
namespace Go.Proofs.Ytbaokmapgdnhlaa
open Go.RowKit

set_option maxHeartbeats 400000 in
set_option maxRecDepth 20000 in
theorem spec_l03Length (n : Int) (w : World) :
    Calls Try.prog 55 #[.int .i64 n] w fun e w' => e = .returned (.bool (inC n 1 64)) ∧ w = w' := by
  go_enter Try.func55, Try.ntmps55
  go_wp2_with (go_at_call 77; refine (spec_l00In _).mono ?_; rintro e_ w_ ⟨rfl, rfl⟩)
  all_goals (go_ret; exact ⟨(by first | rfl | exact ret_bool (by simp_all) | exact ret_int (by simp_all) | simp_all), rfl⟩)
set_option maxHeartbeats 400000 in
set_option maxRecDepth 20000 in
theorem impl_isLength (n : Int) (w : World) :
    Calls Try.prog 59 #[.int .i64 n] w fun e w' => e = .returned (.bool (inC n 1 64)) ∧ w = w' := by
  go_enter Try.func59, Try.ntmps59
  go_wp2_with (go_at_call 80; refine (impl_within _).mono ?_; rintro e_ w_ ⟨rfl, rfl⟩)
  all_goals (go_ret; exact ⟨(by first | rfl | exact ret_bool (by simp_all) | exact ret_int (by simp_all) | simp_all), rfl⟩)
theorem clss_zeros (m : Nat) : clss (List.replicate m 0) = List.replicate m (some 0) := by
  have h : cls .f32 0 = some 0 := zero_fl.cl
  simp [clss, h]
def emptyC (n : Int) : List (Option Nat) := if inC n 1 64 = true then List.replicate n.toNat (some 0) else []
end Go.Proofs.Ytbaokmapgdnhlaa
