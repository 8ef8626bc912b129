/- The walks of the small laws on single numbers: constants, finite, subnormal, bits, same. Conditions: none. -/
import Derived.Test.YtajnncidkmafgaaDoorRows
import Derived.Test.YtajnncidkmafgaaDoorFl
import Derived.Test.YtajnncidkmafgaaDoorFp
import Derived.Laws.Externs
set_option linter.unusedVariables false
set_option linter.unusedSimpArgs false
namespace Go.Proofs.YtajnncidkmafgaaDoor
open Go.RowKit

/-! ### Bits -/
@[go_sem] theorem call_f32bits (x : Nat) (w : World) : (callFunc 64 #[.float .f32 x]).run Tryd.prog w = .ok (.value (.int .u32 x)) w := by
  rw [run_callFunc_extern (P := Tryd.prog) (e := Extern.MathFloatBits.float32bits) Tryd.func64 (by kernel_rfl) (by kernel_rfl) (by kernel_rfl) (by kernel_rfl)]
  rfl
set_option maxHeartbeats 400000 in
theorem spec_l01Bits {x : Nat} {X : Option Nat} (hx : Fl .f32 x X) (w : World) : Calls Tryd.prog 48 #[.float .f32 x] w (RI .i64 (bitsC X) w) := by
  rcases hx.cases with ⟨rfl, n1⟩ | ⟨rfl, n1⟩
  · have hs := ord_nan n1
    go_enter Tryd.func48, Tryd.ntmps48
    go_wp2
    go_ret
    exact ⟨rfl, 0, rfl⟩
  · have hs := ord_num n1
    go_enter Tryd.func48, Tryd.ntmps48
    go_wp2
    go_ret
    exact ⟨ret_int (wrap64_word hx.wf), 0, rfl⟩
set_option maxHeartbeats 400000 in
theorem impl_BitsOf {x : Nat} {X : Option Nat} (hx : Fl .f32 x X) (w : World) : Calls Tryd.prog 66 #[.float .f32 x] w (RI .i64 (bitsC X) w) := by
  rcases hx.cases with ⟨rfl, n1⟩ | ⟨rfl, n1⟩
  · have hs := ord_nan n1
    go_enter Tryd.func66, Tryd.ntmps66
    go_wp2
    go_ret
    exact ⟨rfl, 0, rfl⟩
  · have hs := ord_num n1
    go_enter Tryd.func66, Tryd.ntmps66
    go_wp2
    go_ret
    exact ⟨ret_int (wrap64_word hx.wf), 0, rfl⟩
/-! ### Same -/
/-! ### Subnormal -/
end Go.Proofs.YtajnncidkmafgaaDoor
