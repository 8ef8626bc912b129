/- The walks of the small laws on single numbers: constants, finite, subnormal, bits, same. Conditions: none. -/
import Derived.Test.YtajnncidkmafgaaRows
import Derived.Test.YtajnncidkmafgaaFl
import Derived.Test.YtajnncidkmafgaaFp
import Derived.Laws.Externs
set_option linter.unusedVariables false
set_option linter.unusedSimpArgs false
namespace Go.Proofs.Ytajnncidkmafgaa
open Go.RowKit

/-! ### Bits -/
@[go_sem] theorem call_f32bits (x : Nat) (w : World) : (callFunc 28 #[.float .f32 x]).run Try.prog w = .ok (.value (.int .u32 x)) w := by
  rw [run_callFunc_extern (P := Try.prog) (e := Extern.MathFloatBits.float32bits) Try.func28 (by kernel_rfl) (by kernel_rfl) (by kernel_rfl) (by kernel_rfl)]
  rfl
set_option maxHeartbeats 400000 in
theorem spec_l01Bits {x : Nat} {X : Option Nat} (hx : Fl .f32 x X) (w : World) : Calls Try.prog 27 #[.float .f32 x] w (RI .i64 (bitsC X) w) := by
  rcases hx.cases with ⟨rfl, n1⟩ | ⟨rfl, n1⟩
  · have hs := ord_nan n1
    go_enter Try.func27, Try.ntmps27
    go_wp2
    go_ret
    exact ⟨rfl, 0, rfl⟩
  · have hs := ord_num n1
    go_enter Try.func27, Try.ntmps27
    go_wp2
    go_ret
    exact ⟨ret_int (wrap64_word hx.wf), 0, rfl⟩
set_option maxHeartbeats 400000 in
theorem impl_BitsOf {x : Nat} {X : Option Nat} (hx : Fl .f32 x X) (w : World) : Calls Try.prog 25 #[.float .f32 x] w (RI .i64 (bitsC X) w) := by
  rcases hx.cases with ⟨rfl, n1⟩ | ⟨rfl, n1⟩
  · have hs := ord_nan n1
    go_enter Try.func25, Try.ntmps25
    go_wp2
    go_ret
    exact ⟨rfl, 0, rfl⟩
  · have hs := ord_num n1
    go_enter Try.func25, Try.ntmps25
    go_wp2
    go_ret
    exact ⟨ret_int (wrap64_word hx.wf), 0, rfl⟩
/-! ### Same -/
/-! ### Subnormal -/
end Go.Proofs.Ytajnncidkmafgaa
