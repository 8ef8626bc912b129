/- The walk of the law on roots. Conditions: none. -/
import Derived.Test.YtpeflkakljaheaaFd
import Derived.Test.YtpeflkakljaheaaS
set_option linter.unusedVariables false
set_option linter.unusedSimpArgs false
namespace Go.Proofs.Ytpeflkakljaheaa
open Go.RowKit

def sqb (x : Nat) (w : World) : Nat := (Ieee.double.sqrt x).getD (nanB (.nanBits .f64 x x) w)
def sqd (x : Nat) : Nat := if (Ieee.double.sqrt x).isSome then 0 else 1
def sqC (X : Option Nat) : Option Nat := X.bind Ieee.double.sqrt
@[go_sem] theorem call_sqrt (x : Nat) (w : World) : (callFunc 75 #[.float .f64 x]).run Try.prog w = .ok (.value (.float .f64 (sqb x w))) (w.drewN (sqd x)) := by
  rw [run_callFunc_extern (P := Try.prog) (e := Extern.MathSqrt.sqrt) Try.func75 (by kernel_rfl) (by kernel_rfl) (by kernel_rfl) (by kernel_rfl)]
  have hq : (Question.nanBits .f64 x x).forced = false := rfl
  have e : Extern.MathSqrt.sqrt #[.float .f64 x] = (match FloatKind.f64.format.sqrt x with | some r => pure (.float .f64 r) | none => do pure (.float .f64 (← choose (.nanBits .f64 x x)))) := rfl
  rw [e]
  cases h : Ieee.double.sqrt x with
  | some r =>
    have h' : FloatKind.f64.format.sqrt x = some r := h
    simp [sqb, sqd, h, h', go_sem, World.drewN_zero]
  | none =>
    have h' : FloatKind.f64.format.sqrt x = none := h
    simp [sqb, sqd, h, h', go_sem, choose, Sem.run, hq, nanB, World.drewN]
theorem fl_sqb {x : Nat} {X : Option Nat} (hx : Fl .f64 x X) (w : World) : Fl .f64 (sqb x w) (sqC X) := by
  obtain ⟨g1, g2⟩ := nanBits_nan .f64 x x w
  rcases hx.cases with ⟨rfl, n1⟩ | ⟨rfl, n1⟩
  · have h : Ieee.double.sqrt x = none := by
      obtain ⟨s, t, hd⟩ := decode_nan n1
      have hd' : Ieee.double.read x = .nan s t := hd
      unfold Ieee.Format.sqrt
      rw [hd']; rfl
    simp only [sqb, h, Option.getD_none, sqC, Option.bind_none]
    exact .of_nan g2 g1
  · cases h : Ieee.double.sqrt x with
    | none =>
      simp only [sqb, h, Option.getD_none, sqC, Option.bind_some]
      exact .of_nan g2 g1
    | some r =>
      simp only [sqb, h, Option.getD_some, sqC, Option.bind_some]
      unfold Ieee.Format.sqrt at h
      obtain ⟨d, hd, rfl⟩ := Option.map_eq_some_iff.1 h
      refine .of_lit (Ieee.Format.write_lt _ _) (write_not_nan _ ?_)
      unfold Ieee.Datum.root at hd
      cases he : Ieee.double.read x with
      | nan s t => rw [he] at hd; cases hd
      | infinity s => rw [he] at hd; cases s <;> simp at hd; rw [← hd]; rfl
      | number s m i =>
        rw [he] at hd
        dsimp only at hd
        split at hd
        · rw [← Option.some.inj hd]; rfl
        · split at hd
          · cases hd
          · rw [← Option.some.inj hd]; rfl
theorem root_fits {x : Nat} {X : Option Nat} (hx : Fl .f32 x X) : fits (sqC (wide X)) = true := by
  rcases hx.cases with ⟨rfl, n1⟩ | ⟨rfl, n1⟩
  · rfl
  · obtain ⟨R, h1, h2, _, h4⟩ := wide_of hx.wf n1
    have e : sqC (wide (some x)) = Ieee.double.sqrt (Ieee.double.word (Fp.neg Ieee.single x) R) := by simp [sqC, wide, h2]
    rw [e]
    rcases h4 with ⟨_, rfl⟩ | ⟨hr, hR, hV⟩
    · cases Fp.neg Ieee.single x <;> decide
    · obtain ⟨g1, _⟩ := Fp.rung_word Ieee.double (Fp.neg Ieee.single x) (r := R) (Nat.lt_of_le_of_lt h1 (by decide))
      refine Fc.sqrt_fits (by rw [g1]; exact hR) ?_
      unfold Fc.mag
      rw [g1, hV]
      have hn := Fc.nU_eq
      have hnq := nq_eq
      have hnv := nv_eq
      have hnw := nw_eq
      have h5 : Fp.V Ieee.single.binade (Fp.rung Ieee.single x) ≤ 2 ^ nv := by
        generalize Fp.rung Ieee.single x = r at hr
        have hr' : r < 2139095040 := hr
        by_cases hs : r < 8388608
        · rw [Fp.V_small (B := Ieee.single.binade) hs]
          exact Nat.le_of_lt (Nat.lt_of_lt_of_le (Nat.lt_trans hs (show 8388608 < 2 ^ 24 by decide)) (Nat.pow_le_pow_right (by decide) (by omega)))
        · rw [Fp.V_big (B := Ieee.single.binade) (show 8388608 ≤ r by omega)]
          have a1 : 8388608 + r % 8388608 ≤ 2 ^ 24 := by have := Nat.mod_lt r (show 0 < 8388608 by omega); omega
          have a2 : 2 ^ (r / 8388608 - 1) ≤ 2 ^ nw := Nat.pow_le_pow_right (by decide) (by omega)
          exact Nat.le_trans (Nat.mul_le_mul a1 a2) (Nat.le_of_eq (Nat.pow_add 2 24 nw).symm)
      refine Nat.le_trans (Nat.mul_le_mul_right _ h5) ?_
      rw [← Nat.pow_add]
      exact Nat.pow_le_pow_right (by decide) (by omega)
def rootC (X : Option Nat) : Option Nat := narrow (sqC (wide X))
set_option maxHeartbeats 400000 in
set_option maxRecDepth 20000 in
theorem math_Sqrt {x : Nat} {X : Option Nat} (hx : Fl .f64 x X) (w : World) :
    Calls Try.prog 54 #[.float .f64 x] w (RF .f64 ((sqC X)) w) := by
  have h1 := fl_sqb hx
  go_enter Try.func54, Try.ntmps54
  go_wp2
  go_ret
  exact ⟨_, _, rfl, h1 _, rfl⟩
set_option maxHeartbeats 400000 in
set_option maxRecDepth 20000 in
theorem impl_RootNumber {x : Nat} {X : Option Nat} (hx : Fl .f32 x X) (w : World) :
    Calls Try.prog 27 #[.float .f32 x] w (RF .f32 ((rootC X)) w) := by
  have HW := Lib.hid (fun w => hx.cw w)
  have HF := Lib.hid (root_fits hx)
  go_enter Try.func27, Try.ntmps27
  go_wp2_with (go_at_call 54; refine (math_Sqrt (HW.out _) _).mono ?_; rintro e w' ⟨r1, q, rfl, hr1, rfl⟩)
  go_ret
  exact ⟨_, _, rfl, hr1.cn HF.out _, rfl⟩
set_option maxHeartbeats 400000 in
set_option maxRecDepth 20000 in
theorem spec_l01Narrow {x : Nat} {X : Option Nat} (hx : Fl .f64 x X) (hf : fits X = true) (w : World) :
    Calls Try.prog 74 #[.float .f64 x] w (RF .f32 ((narrow X)) w) := by
  have HF := Lib.hid hf
  go_enter Try.func74, Try.ntmps74
  go_wp2
  go_ret
  exact ⟨_, _, rfl, hx.cn HF.out _, rfl⟩
set_option maxHeartbeats 400000 in
set_option maxRecDepth 20000 in
theorem spec_l01Sqrt {x : Nat} {X : Option Nat} (hx : Fl .f32 x X) (w : World) :
    Calls Try.prog 53 #[.float .f32 x] w (RF .f32 ((rootC X)) w) := by
  have HW := Lib.hid (fun w => hx.cw w)
  have HF := Lib.hid (root_fits hx)
  go_enter Try.func53, Try.ntmps53
  go_wp2_with (first
    | (go_at_call 54; refine (math_Sqrt (HW.out _) _).mono ?_; rintro e w' ⟨r1, q, rfl, hr1, rfl⟩)
    | (go_at_call 74; refine (spec_l01Narrow hr1 HF.out _).mono ?_; rintro e w' ⟨r2, q2, rfl, hr2, rfl⟩))
  go_ret
  exact ⟨_, _, rfl, hr2, rfl⟩
set_option maxHeartbeats 400000 in
set_option maxRecDepth 20000 in
theorem spec_RootNumber {x : Nat} {X : Option Nat} (hx : Fl .f32 x X) (w : World) :
    Calls Try.prog 26 #[.float .f32 x] w (RF .f32 ((rootC X)) w) := by
  go_enter Try.func26, Try.ntmps26
  go_wp2_with (go_at_call 53; refine (spec_l01Sqrt (by repeat (first | (with_reducible assumption) | exact Fl.of_lit (by decide) (by decide) | apply Fl.fr | apply Fl.cw | apply Fl.cn)) _).mono ?_; rintro e_ w_ ⟨r_, n_, rfl, hr_, rfl⟩)
  all_goals (go_ret; first | exact ⟨_, _, rfl, (by repeat (first | (with_reducible assumption) | exact Fl.of_lit (by decide) (by decide) | apply Fl.fr | apply Fl.cw | apply Fl.cn)), rfl⟩ | exact ⟨_, 0, rfl, (by repeat (first | (with_reducible assumption) | exact Fl.of_lit (by decide) (by decide) | apply Fl.fr | apply Fl.cw | apply Fl.cn)), rfl⟩)
set_option maxHeartbeats 400000 in
theorem rootNumber_walk (x : Nat) (w : World) (hw : x < 2 ^ FloatKind.f32.format.width) : Calls Try.prog 8 #[.float .f32 x] w fun e w' => e = .returned (.bool true) ∧ Below w.heap.size w w' := by
  have hx := Fl.self hw
  go_enter Try.func8, Try.ntmps8
  go_wp2_with (first
    | (go_at_call 26; refine (spec_RootNumber hx _).mono ?_; rintro e w' ⟨r1, n1, rfl, hr1, rfl⟩)
    | (go_at_call 27; refine (impl_RootNumber hx _).mono ?_; rintro e w' ⟨r2, n2, rfl, hr2, rfl⟩)
    | (go_at_call 17; refine (laws_sameFloat (hr2.cw _) (hr1.cw _) _).mono ?_; rintro e w' ⟨rfl, n3, rfl⟩))
  go_ret
  exact ⟨rfl, below_draws _ _⟩

end Go.Proofs.Ytpeflkakljaheaa
