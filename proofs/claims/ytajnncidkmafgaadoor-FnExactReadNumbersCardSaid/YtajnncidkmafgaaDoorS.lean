/- The walks of the laws on single numbers, first part: bits, flushing, small filters. Conditions: none. -/
import Derived.Test.YtajnncidkmafgaaDoorRows
import Derived.Test.YtajnncidkmafgaaDoorFw
import Derived.Laws.Externs
set_option linter.unusedVariables false
set_option linter.unusedSimpArgs false
namespace Go.Proofs.YtajnncidkmafgaaDoor
open Go.RowKit

@[go_sem] theorem call_f32bits (x : Nat) (w : World) : (callFunc 64 #[.float .f32 x]).run Tryd.prog w = .ok (.value (.int .u32 x)) w := by
  rw [run_callFunc_extern (P := Tryd.prog) (e := Extern.MathFloatBits.float32bits) Tryd.func64 (by kernel_rfl) (by kernel_rfl) (by kernel_rfl) (by kernel_rfl)]
  rfl
@[go_sem] theorem call_f32from (n : Int) (w : World) : (callFunc 63 #[.int .u32 n]).run Tryd.prog w = .ok (.value (.float .f32 n.toNat)) w := by
  rw [run_callFunc_extern (P := Tryd.prog) (e := Extern.MathFloatBits.float32frombits) Tryd.func63 (by kernel_rfl) (by kernel_rfl) (by kernel_rfl) (by kernel_rfl)]
  rfl
/-! ### Two numbers of one class are the same -/
theorem one_over {b : Nat} (hw : b < 2 ^ FloatKind.f64.format.width) (h : FloatKind.f64.format.order b 0 = some .eq) : ∃ r, floatBits .quo .f64 4607182418800017408 b = some r := by
  have hn : isN .f64 b = false := by
    cases hb : isN .f64 b with
    | false => rfl
    | true =>
      have h2 : FloatKind.f64.format.order b 0 = none := order_nan_left hb
      rw [h2] at h; cases h
  have h1 : Fp.rung Ieee.double b ≤ Ieee.double.infRung := Fp.rung_le_of_not_nan _ (by decide) hn
  have h2 := Fp.order_words Ieee.double (by decide) (by decide) h1 (b := 0) (by decide)
  have h3 : FloatKind.f64.format.order b 0 = some (compare (Fp.sr Ieee.double b) (Fp.sr Ieee.double 0)) := h2
  rw [h] at h3
  have h4 : Fp.sr Ieee.double b = 0 := by
    have e := cmp_eq (Fp.sr Ieee.double b) (Fp.sr Ieee.double 0)
    rw [← h3] at e
    have e2 : Fp.sr Ieee.double b = Fp.sr Ieee.double 0 := by simpa using e
    rw [e2]; decide
  have h5 : Fp.rung Ieee.double b = 0 := by
    unfold Fp.sr Fp.sg at h4
    split at h4 <;> omega
  have h6 : Ieee.double.word (Fp.neg Ieee.double b) (Fp.rung Ieee.double b) = b := Fp.word_parts Ieee.double hw
  rw [h5] at h6
  rw [← h6]
  cases Fp.neg Ieee.double b
  · exact ⟨9218868437227405312, by decide⟩
  · exact ⟨18442240474082181120, by decide⟩
set_option maxHeartbeats 400000 in
theorem laws_sameFloat {a b : Nat} {X : Option Nat} (ha : Fl .f64 a X) (hb : Fl .f64 b X) (w : World) : Calls Tryd.prog 38 #[.float .f64 a, .float .f64 b] w (RB true w) := by
  rcases ha.cases with ⟨rfl, n1⟩ | ⟨rfl, n1⟩
  · have hs := ord_nan n1
    have ht := ord_nan hb.nan
    go_enter Tryd.func38, Tryd.ntmps38
    go_wp2
    go_ret
    exact ⟨rfl, 0, rfl⟩
  · obtain rfl := hb.some
    have hs := ord_num n1
    cases hz : (FloatKind.f64.format.order b 0 == some Ordering.eq) with
    | true =>
      have hz' : FloatKind.f64.format.order b 0 = some .eq := by simpa using hz
      obtain ⟨r, hr⟩ := one_over ha.wf hz'
      have h1 : ∀ w, fr .quo .f64 4607182418800017408 b w = r := fun w => by simp [fr, hr]
      clear hr hz ha hb n1
      go_enter Tryd.func38, Tryd.ntmps38
      go_wp2
      go_ret
      exact ⟨ret_bool (by simp), _, rfl⟩
    | false =>
      clear ha hb n1
      go_enter Tryd.func38, Tryd.ntmps38
      go_wp2
      go_ret
      exact ⟨ret_bool (by simp [hs]), 0, rfl⟩
end Go.Proofs.YtajnncidkmafgaaDoor
