/- The walk of the law on logarithms. Conditions: none. -/
import Derived.Test.YtpeflkakljaheaaK4
set_option linter.unusedVariables false
set_option linter.unusedSimpArgs false
namespace Go.Proofs.Ytpeflkakljaheaa
open Go.RowKit
set_option maxHeartbeats 1600000 in
theorem spec_l01LogWideA {y : Nat} {Y : Option Nat} (hy : Fl .f64 y Y) (hc : (Y = none ∧ isN .f64 y = true) ∨ (isN .f64 y = false ∧ lt0 .f64 Y = true) ∨ (isN .f64 y = false ∧ lt0 .f64 Y = false ∧ eq0 .f64 Y = true) ∨ (isN .f64 y = false ∧ lt0 .f64 Y = false ∧ eq0 .f64 Y = false ∧ gtM Y = true) ∨ (isN .f64 y = false ∧ lt0 .f64 Y = false ∧ eq0 .f64 Y = false ∧ gtM Y = false ∧ HI 0 Y)) (w : World) :
    Calls Try.prog 76 #[.float .f64 y] w (RF .f64 (logSW Y) w) := by
  have nn : isN .f64 y = false → Y ≠ none := fun h1 h2 => by subst h2; rw [hy.nan] at h1; cases h1
  have o0 := Fl.ord hy zero64
  rcases hc with ⟨rfl, n1⟩ | ⟨n1, h1⟩ | ⟨n1, h1, h2⟩ | ⟨n1, h1, h2, h3⟩ | ⟨n1, h1, h2, h3, h4⟩
  · have hs := ord_nan n1
    clear nn o0 n1
    rw [logC_none]
    go_enter Try.func76, Try.ntmps76
    go_wp2_with (go_at_call 56; refine (math_NaN _).mono ?_; rintro e w' ⟨rfl, rfl⟩)
    go_ret
    exact ⟨_, 0, rfl, nan64, rfl⟩
  · have hs := ord_num n1
    rw [logSW_lt h1]
    unfold lt0 at h1
    clear nn n1
    go_enter Try.func76, Try.ntmps76
    go_wp2_with (go_at_call 56; refine (math_NaN _).mono ?_; rintro e w' ⟨rfl, rfl⟩)
    go_ret
    exact ⟨_, 0, rfl, nan64, rfl⟩
  · have hs := ord_num n1
    rw [logSW_eq (nn n1) h1 h2]
    unfold lt0 at h1
    unfold eq0 at h2
    clear nn n1
    go_enter Try.func76, Try.ntmps76
    go_wp2_with (go_at_call 50; refine (math_InfN _).mono ?_; rintro e w' ⟨rfl, rfl⟩)
    go_ret
    exact ⟨_, 0, rfl, ninf64, rfl⟩
  · have hs := ord_num n1
    rw [logSW_inf (nn n1) h1 h2 h3]
    unfold lt0 at h1
    unfold eq0 at h2
    clear nn n1
    go_enter Try.func76, Try.ntmps76
    go_wp2_with (go_at_call 80; refine (math_IsInf1 hy _).mono ?_; rintro e w' ⟨rfl, q, rfl⟩)
    go_ret
    exact ⟨_, _, rfl, hy, rfl⟩
  · rw [logSW_num (nn n1) h1 h2 h3]
    exact spec_l01LogWide hy h4 n1 h1 h2 h3 w
theorem Fl.not_nan' {x : Nat} {X : Option Nat} (hx : Fl .f32 x X) (n1 : isN .f32 x = false) : wide X ≠ none := by
  rcases hx.cases with ⟨rfl, h⟩ | ⟨rfl, _⟩
  · rw [h] at n1; cases n1
  · exact wide_some hx.wf n1
theorem logSW_fits {x : Nat} {X : Option Nat} (hx : Fl .f32 x X) : fits (logSW (wide X)) = true := by
  rcases log_cases hx with ⟨rfl, n1⟩ | ⟨n1, a, b⟩ | ⟨n1, a, b, c, d⟩ | ⟨n1, a, b, c, d, e, f⟩ | ⟨n1, a, b, c, d, e, f, g⟩
  · show fits (logSW none) = true
    rw [logC_none]; rfl
  · rw [logSW_lt b]; rfl
  · rw [logSW_eq (hx.not_nan' n1) b d]; decide
  · rw [logSW_inf (hx.not_nan' n1) b d f]; exact (fits_wide hx).1
  · rw [logSW_num (hx.not_nan' n1) b d f]; exact log_fits g
theorem wide_isN {x : Nat} {X : Option Nat} (hx : Fl .f32 x X) (w : World) : isN .f64 (cw x w) = isN .f32 x := by
  rcases hx.cases with ⟨rfl, h⟩ | ⟨rfl, h⟩
  · have := hx.cw w
    rw [h]; exact Fl.nan (show Fl .f64 (cw x w) none from this)
  · have h1 := hx.cw w
    rw [h]
    cases hn : isN .f64 (cw x w) with
    | false => rfl
    | true =>
      have h2 := h1.cl
      unfold cls at h2
      rw [if_pos hn] at h2
      exact absurd h2.symm (wide_some hx.wf h)
set_option maxHeartbeats 800000 in
theorem spec_l01Log {x : Nat} {X : Option Nat} (hx : Fl .f32 x X) (w : World) : Calls Try.prog 55 #[.float .f32 x] w (RF .f32 (logC X) w) := by
  have HF := Lib.hid (logSW_fits hx)
  have HC := Lib.hid (fun w1 w2 => spec_l01LogWideA (hx.cw w1) (by
    rw [wide_isN hx w1]
    rcases log_cases hx with ⟨rfl, n1⟩ | ⟨n1, a, b⟩ | ⟨n1, a, b, c, d⟩ | ⟨n1, a, b, c, d, e, f⟩ | ⟨n1, a, b, c, d, e, f, g⟩
    · exact .inl ⟨rfl, n1⟩
    · exact .inr (.inl ⟨n1, b⟩)
    · exact .inr (.inr (.inl ⟨n1, b, d⟩))
    · exact .inr (.inr (.inr (.inl ⟨n1, b, d, f⟩)))
    · exact .inr (.inr (.inr (.inr ⟨n1, b, d, f, g⟩)))) w2)
  go_enter Try.func55, Try.ntmps55
  go_wp2_with (first
    | (go_at_call 76; refine (HC.out _ _).mono ?_; rintro e w' ⟨p, q, rfl, hp, rfl⟩)
    | (go_at_call 74; refine (spec_l01Narrow hp HF.out _).mono ?_; rintro e w' ⟨p2, q2, rfl, hp2, rfl⟩))
  go_ret
  exact ⟨_, _, rfl, hp2, rfl⟩
set_option maxHeartbeats 400000 in
set_option maxRecDepth 20000 in
theorem spec_LogNumber {x : Nat} {X : Option Nat} (hx : Fl .f32 x X) (w : World) :
    Calls Try.prog 28 #[.float .f32 x] w (RF .f32 ((logC X)) w) := by
  go_enter Try.func28, Try.ntmps28
  go_wp2_with (go_at_call 55; refine (spec_l01Log hx _).mono ?_; rintro e w' ⟨p, q, rfl, hp, rfl⟩)
  all_goals (go_ret; first | exact ⟨_, _, rfl, (by repeat (first | (with_reducible assumption) | exact Fl.of_lit (by decide) (by decide) | apply Fl.fr | apply Fl.cw | apply Fl.cn)), rfl⟩ | exact ⟨_, 0, rfl, (by repeat (first | (with_reducible assumption) | exact Fl.of_lit (by decide) (by decide) | apply Fl.fr | apply Fl.cw | apply Fl.cn)), rfl⟩)
theorem ninf_fits : fits (some 18442240474082181120) = true := by decide
set_option maxHeartbeats 1600000 in
theorem impl_LogNumber {x : Nat} {X : Option Nat} (hx : Fl .f32 x X) (w : World) : Calls Try.prog 29 #[.float .f32 x] w (RF .f32 (logC X) w) := by
  have o0 := Fl.ord hx (.of_lit (k := .f32) (b := 0) (by decide) (by decide))
  have hfit := logSW_fits hx
  unfold logC
  rcases log_cases hx with ⟨rfl, n1⟩ | ⟨n1, a, b⟩ | ⟨n1, a, b, c, d⟩ | ⟨n1, a, b, c, d, e, f⟩ | ⟨n1, a, b, c, d, e, f, g⟩
  · have hs := ord_nan n1
    have e1 : narrow (logSW (wide none)) = none := by show narrow (logSW none) = none; rw [logC_none]; rfl
    rw [e1]
    clear hfit e1 n1 o0
    have HN := Lib.hid (fun w1 => nan64.cn rfl w1)
    go_enter Try.func29, Try.ntmps29
    go_wp2_with (go_at_call 56; refine (math_NaN _).mono ?_; rintro e w' ⟨rfl, rfl⟩)
    go_ret
    exact ⟨_, _, rfl, HN.out _, rfl⟩
  · have hs := ord_num n1
    rw [logSW_lt b]
    unfold lt0 at a
    clear hfit n1 b
    have HN := Lib.hid (fun w1 => nan64.cn rfl w1)
    go_enter Try.func29, Try.ntmps29
    go_wp2_with (go_at_call 56; refine (math_NaN _).mono ?_; rintro e w' ⟨rfl, rfl⟩)
    go_ret
    exact ⟨_, _, rfl, HN.out _, rfl⟩
  · have hs := ord_num n1
    rw [logSW_eq (hx.not_nan' n1) b d]
    unfold lt0 at a
    unfold eq0 at c
    clear hfit n1 b d
    have HN := Lib.hid (fun w1 => ninf64.cn ninf_fits w1)
    go_enter Try.func29, Try.ntmps29
    go_wp2_with (go_at_call 50; refine (math_InfN _).mono ?_; rintro e w' ⟨rfl, rfl⟩)
    go_ret
    exact ⟨_, _, rfl, HN.out _, rfl⟩
  · have hs := ord_num n1
    rw [logSW_inf (hx.not_nan' n1) b d f, (fits_wide hx).2]
    unfold lt0 at a
    unfold eq0 at c
    clear hfit n1 b d f
    go_enter Try.func29, Try.ntmps29
    go_wp2_with (go_at_call 57; refine (impl_IsFinite hx _).mono ?_; rintro e w' ⟨rfl, q, rfl⟩)
    go_ret
    exact ⟨_, _, rfl, hx, rfl⟩
  · have hs := ord_num n1
    rw [logSW_num (hx.not_nan' n1) b d f]
    unfold lt0 at a
    unfold eq0 at c
    have HL := Lib.hid (fun w1 w2 => impl_logarithm (hx.cw w1) g w2)
    have HF := Lib.hid (log_fits g)
    clear hfit n1 b d f g
    go_enter Try.func29, Try.ntmps29
    go_wp2_with (first
      | (go_at_call 57; refine (impl_IsFinite hx _).mono ?_; rintro e w' ⟨rfl, q, rfl⟩)
      | (go_at_call 58; refine (HL.out _ _).mono ?_; rintro e w' ⟨p, q2, rfl, hp, rfl⟩))
    go_ret
    exact ⟨_, _, rfl, hp.cn HF.out _, rfl⟩
set_option maxHeartbeats 400000 in
theorem logNumber_walk (x : Nat) (w : World) (hw : x < 2 ^ FloatKind.f32.format.width) : Calls Try.prog 9 #[.float .f32 x] w fun e w' => e = .returned (.bool true) ∧ Below w.heap.size w w' := by
  have hx := Fl.self hw
  go_enter Try.func9, Try.ntmps9
  go_wp2_with (first
    | (go_at_call 28; refine (spec_LogNumber hx _).mono ?_; rintro e w' ⟨r1, n1, rfl, hr1, rfl⟩)
    | (go_at_call 29; refine (impl_LogNumber hx _).mono ?_; rintro e w' ⟨r2, n2, rfl, hr2, rfl⟩)
    | (go_at_call 17; refine (laws_sameFloat (hr2.cw _) (hr1.cw _) _).mono ?_; rintro e w' ⟨rfl, n3, rfl⟩))
  go_ret
  exact ⟨rfl, below_draws _ _⟩

end Go.Proofs.Ytpeflkakljaheaa
