/- The walks of logarithms. Conditions: none beside the contracts' own. -/
import Derived.Test.YtpeflkakljaheaaK3
import Derived.Deep.LoopGhost
import Derived.Deep.CutRange
set_option linter.unusedVariables false
set_option linter.unusedSimpArgs false
namespace Go.Proofs.Ytpeflkakljaheaa
open Go.RowKit
set_option maxHeartbeats 400000 in
set_option maxRecDepth 20000 in
theorem math_NaN  (w : World) :
    Calls Try.prog 56 #[] w fun e w' => e = .returned (.float .f64 9221120237041090561) ∧ w = w' := by
  go_enter Try.func56, Try.ntmps56
  go_wp2
  all_goals (go_ret; exact ⟨(by first | rfl | exact ret_bool (by simp_all) | exact ret_int (by simp_all) | simp_all), rfl⟩)
set_option maxHeartbeats 400000 in
set_option maxRecDepth 20000 in
theorem math_InfN  (w : World) :
    Calls Try.prog 50 #[.int .i64 (-1)] w fun e w' => e = .returned (.float .f64 18442240474082181120) ∧ w = w' := by
  go_enter Try.func50, Try.ntmps50
  go_wp2
  all_goals (go_ret; exact ⟨(by first | rfl | exact ret_bool (by simp_all) | exact ret_int (by simp_all) | simp_all), rfl⟩)
theorem nan64 : Fl .f64 9221120237041090561 none := .of_nan (by decide) (by decide)
theorem ninf64 : Fl .f64 18442240474082181120 (some 18442240474082181120) := .of_lit (by decide) (by decide)
theorem lit15 : Fl .f64 4609434218613702656 (some 4609434218613702656) := .of_lit (by decide) (by decide)
theorem lit075 : Fl .f64 4604930618986332160 (some 4604930618986332160) := .of_lit (by decide) (by decide)
theorem lit2 : Fl .f64 4611686018427387904 (some two) := .of_lit (by decide) (by decide)
theorem zero64 : Fl .f64 0 (some 0) := .of_lit (by decide) (by decide)
theorem litL2 : Fl .f64 4604418534313441775 (some 4604418534313441775) := .of_lit (by decide) (by decide)
theorem litM : Fl .f64 9218868437227405311 (some 9218868437227405311) := .of_lit (by decide) (by decide)
set_option maxHeartbeats 400000 in
theorem math_IsInf1 {y : Nat} {Y : Option Nat} (hy : Fl .f64 y Y) (w : World) : Calls Try.prog 80 #[.float .f64 y, .int .i64 1] w (RB (gtM Y) w) := by
  have ho := Fl.ord hy litM
  go_enter Try.func80, Try.ntmps80
  go_wp2
  go_ret
  exact ⟨by unfold gtM; rw [← ho]; rfl, 0, rfl⟩
set_option maxHeartbeats 400000 in
theorem impl_IsFinite {x : Nat} {X : Option Nat} (hx : Fl .f32 x X) (w : World) : Calls Try.prog 57 #[.float .f32 x] w (RB (finC X) w) := by
  go_enter Try.func57, Try.ntmps57
  go_wp2
  go_ret
  exact ⟨by unfold finC; rw [Fl.ord (hx.fr hx .sub _) (.of_lit (by decide) (by decide))]; rfl, _, rfl⟩
theorem kLi (j : Nat) : Fl .f64 (floatOfInt .f64 (25 - 2 * (j : Int))) (kL j) := intF64_fl _
theorem kL_next : ∀ j, j < 13 → fop .sub .f64 (kL j) (some two) = kL (j + 1) := by
  intro j hj
  have key : ∀ i : Fin 13, fop .sub .f64 (kL i.val) (some two) = kL (i.val + 1) := by decide
  exact key ⟨j, hj⟩
theorem kL_go : ∀ j, j < 13 → (ford .f64 (kL j) (some 4607182418800017408) == some .gt || ford .f64 (kL j) (some 4607182418800017408) == some .eq) = true := by
  intro j hj
  have key : ∀ i : Fin 13, (ford .f64 (kL i.val) (some 4607182418800017408) == some .gt || ford .f64 (kL i.val) (some 4607182418800017408) == some .eq) = true := by decide
  exact key ⟨j, hj⟩
theorem kL_end : (ford .f64 (kL 13) (some 4607182418800017408) == some .gt || ford .f64 (kL 13) (some 4607182418800017408) == some .eq) = false := by decide
theorem logSW_nan {Y : Option Nat} (h : Y = none) : logSW Y = none := by rw [h]; exact logC_none
theorem logSW_lt {Y : Option Nat} (h : lt0 .f64 Y = true) : logSW Y = none := by unfold logSW; rw [if_pos (.inl h)]
theorem logSW_eq {Y : Option Nat} (n : Y ≠ none) (h : lt0 .f64 Y = false) (h2 : eq0 .f64 Y = true) : logSW Y = some 18442240474082181120 := by unfold logSW; rw [if_neg (by simp [h, n]), if_pos h2]
theorem logSW_inf {Y : Option Nat} (n : Y ≠ none) (h : lt0 .f64 Y = false) (h2 : eq0 .f64 Y = false) (h3 : gtM Y = true) : logSW Y = Y := by unfold logSW; rw [if_neg (by simp [h, n]), if_neg (by simp [h2]), if_pos h3]
theorem logSW_num {Y : Option Nat} (n : Y ≠ none) (h : lt0 .f64 Y = false) (h2 : eq0 .f64 Y = false) (h3 : gtM Y = false) : logSW Y = logW Y := by unfold logSW; rw [if_neg (by simp [h, n]), if_neg (by simp [h2]), if_neg (by simp [h3])]
theorem cnt_up {b : Nat} {n : Int} (hb : b = floatOfInt .f64 n) (h0 : -150 ≤ n) (h1 : n ≤ 261) (w : World) : fr .add .f64 b 4607182418800017408 w = floatOfInt .f64 (n + 1) := by
  have h := (intF64_fl n).fr one64 .add w
  rw [(cnt_of h0 h1).1] at h
  rw [hb]; exact h.some
theorem cnt_down {b : Nat} {n : Int} (hb : b = floatOfInt .f64 n) (h0 : -149 ≤ n) (h1 : n ≤ 262) (w : World) : fr .sub .f64 b 4607182418800017408 w = floatOfInt .f64 (n - 1) := by
  have h := (intF64_fl n).fr one64 .sub w
  have := (cnt_of (n := n - 1) (by omega) (by omega)).2.1
  rw [show n - 1 + 1 = n by omega] at this
  rw [this] at h
  rw [hb]; exact h.some
theorem kL_step {b i : Nat} (hb : b = floatOfInt .f64 (25 - 2 * (i : Int))) (hi : i < 13) (w : World) : fr .sub .f64 b 4611686018427387904 w = floatOfInt .f64 (25 - 2 * ((i + 1 : Nat) : Int)) := by
  have h := (kLi i).fr lit2 .sub w
  rw [kL_next i hi] at h
  rw [hb]; exact h.some
set_option maxHeartbeats 3200000 in
theorem spec_l01LogWide {y : Nat} {Y : Option Nat} (hy : Fl .f64 y Y) (hHI : HI 0 Y) (n1 : isN .f64 y = false) (h1 : lt0 .f64 Y = false) (h2 : eq0 .f64 Y = false) (h3 : gtM Y = false) (w : World) : Calls Try.prog 76 #[.float .f64 y] w (RF .f64 (logW Y) w) := by
  have hs := ord_num n1
  have o0 := Fl.ord hy zero64
  unfold lt0 at h1
  unfold eq0 at h2
  have HH := Lib.hid hHI
  clear hHI
  go_enter Try.func76, Try.ntmps76
  go_wp2_with (go_at_call 80; refine (math_IsInf1 hy _).mono ?_; rintro e w' ⟨rfl, k0, rfl⟩)
  clear o0 h1 h2 h3 hs
  go_loopg [0, 3] 260 (fun g y0 e w' => ∃ j r X m, g + j = 260 ∧ e = .int .i64 (((j : Nat) : Int)) ∧ y0 = .float .f64 r ∧ Fl .f64 r X ∧ Hid (HI j X ∧ halveC (260 - j) X j = halveC 260 Y 0) ∧ w' = w.drewN m)
  case atStart => exact ⟨0, _, _, _, rfl, rfl, rfl, hy, Lib.hid ⟨HH.out, rfl⟩, rfl⟩
  case round =>
  obtain ⟨j, r, X, m, hgj, rfl, rfl, hr, hX, rfl⟩ := hrel
  have ho := Fl.ord hr lit15
  have hj := hX.out.1.le
  cases hg : ge15 X
  · have hE := Lib.hid (show halveC 260 Y 0 = (X, j) by rw [← hX.out.2, halveC_end hg])
    have hD := Lib.hid (hX.out.1.end_ hg)
    unfold ge15 at hg
    rw [← ho] at hg
    clear ho
    go_wp2
    clear hg
    go_loopg [0, 3] 149 (fun g y0 e w' => ∃ k r X2 m, g + k = 149 ∧ e = .int .i64 ((j : Int) - (k : Nat)) ∧ y0 = .float .f64 r ∧ Fl .f64 r X2 ∧ Hid (DI k X2 ∧ dblC (149 - k) X2 k = dblC 149 X 0) ∧ w' = w.drewN m)
    case atStart => exact ⟨0, _, _, _, rfl, by simp, rfl, hr, Lib.hid ⟨hD.out, rfl⟩, rfl⟩
    case round =>
    obtain ⟨k, r2, X2, m2, hgk, rfl, rfl, hr2, hX2, rfl⟩ := hrel
    have ho := Fl.ord hr2 lit075
    cases hg : lt075 X2
    · have hE2 := Lib.hid (show dblC 149 X 0 = (X2, k) by rw [← hX2.out.2, dblC_end hg])
      have hL := Lib.hid (show logL Y = X2 by unfold logL; rw [hE.out, hE2.out])
      have hN := Lib.hid (show logN Y = (j : Int) - (k : Nat) by unfold logN; rw [hE.out]; dsimp only; rw [hE2.out])
      unfold lt075 at hg
      rw [← ho] at hg
      clear ho
      have HS := Lib.hid (fun w1 w2 w3 => (hr2.fr one64 .sub w1).fr (hr2.fr one64 .add w2) .quo w3)
      go_upto_region 15 with fail
      clear hg
      generalize hss : fr .quo .f64 _ _ _ = ss
      have hS : Fl .f64 ss (logS X2) := by rw [← hss]; exact HS.out _ _ _
      clear hss HS
      have HU := Lib.hid (fun w1 => hS.fr hS .mul w1)
      go_upto_region 16 with fail
      generalize huu : fr .mul .f64 ss ss _ = uu
      have hU : Fl .f64 uu (fop .mul .f64 (logS X2) (logS X2)) := by rw [← huu]; exact HU.out _
      clear huu HU
      go_wp2
      go_loopw [6, 7] (fun q k w' => ∃ (i : Nat), ∃ m r, i ≤ 13 ∧ k = .int .i64 (25 - 2 * (i : Int)) ∧ q = .float .f64 r ∧ Fl .f64 r (logQ (fop .mul .f64 (logS X2) (logS X2)) i) ∧ w' = w.drewN m) (fun _ k _ => (intOf k + 1).toNat)
      case atStart => exact ⟨0, _, _, Nat.zero_le _, rfl, rfl, zero64, rfl⟩
      case round =>
      obtain ⟨i, m3, q, hi, rfl, rfl, hq, rfl⟩ := hrel
      by_cases hlt : i < 13
      · have hge : (1 : Int) ≤ 25 - 2 * (i : Int) := by omega
        have HQ := Lib.hid (fun w1 w2 w3 => (one64.fr (kLi i) .quo w1).fr (hU.fr hq .mul w2) .add w3)
        go_wp2
        exact ⟨⟨i + 1, _, _, by omega, by go_num, rfl, HQ.out _ _ _, rfl⟩, by simp [intOf]; omega⟩
      · obtain rfl : i = 13 := by omega
        have hI := intF64_fl ((j : Int) - (k : Nat))
        have HF := Lib.hid (fun w1 w2 w3 w4 => (lit2.fr (hS.fr hq .mul w1) .mul w2).fr (hI.fr litL2 .mul w3) .add w4)
        go_wp2
        go_ret
        refine ⟨_, _, rfl, ?_, rfl⟩
        rw [logW, hL.out, hN.out]
        exact HF.out _ _ _ _
    · have HG := Lib.hid hg
      have hst := hX2.out.1.step hg
      have hk := hst.1
      have HD := Lib.hid hst.2
      have HC := Lib.hid (dblC_go hX2.out.1 hg)
      have HR := Lib.hid (fun w1 => hr2.fr lit2 .mul w1)
      unfold lt075 at hg
      rw [← ho] at hg
      clear ho hst
      go_wp2
      go_roundg (149 - (k + 1))
      case measure => omega
      case rel => exact ⟨k + 1, _, _, _, by omega, by go_num, rfl, HR.out _, Lib.hid ⟨HD.out, by rw [← hX2.out.2, HC.out]⟩, rfl⟩
  · have hst := hX.out.1.step hg
    have hk := hst.1
    have HD := Lib.hid hst.2
    have HC := Lib.hid (halveC_go hX.out.1 hg)
    have HR := Lib.hid (fun w1 => hr.fr lit2 .quo w1)
    unfold ge15 at hg
    rw [← ho] at hg
    clear ho hst
    go_wp2
    go_roundg (260 - (j + 1))
    case measure => omega
    case rel => exact ⟨j + 1, _, _, _, by omega, by go_num, rfl, HR.out _, Lib.hid ⟨HD.out, by rw [← hX.out.2, HC.out]⟩, rfl⟩
set_option maxHeartbeats 3200000 in
theorem impl_logarithm {y : Nat} {Y : Option Nat} (hy : Fl .f64 y Y) (hHI : HI 0 Y) (w : World) : Calls Try.prog 58 #[.float .f64 y] w (RF .f64 (logW Y) w) := by
  have HH := Lib.hid hHI
  clear hHI
  go_enter Try.func58, Try.ntmps58
  go_wp2
  go_loopg [0, 3] 260 (fun g y0 e w' => ∃ j r X m b, g + j = 260 ∧ e = .float .f64 b ∧ Hid (b = floatOfInt .f64 (((j : Nat) : Int))) ∧ y0 = .float .f64 r ∧ Fl .f64 r X ∧ Hid (HI j X ∧ halveC (260 - j) X j = halveC 260 Y 0) ∧ w' = w.drewN m)
  case atStart => exact ⟨0, _, _, 0, _, rfl, rfl, Lib.hid (by decide), rfl, hy, Lib.hid ⟨HH.out, rfl⟩, rfl⟩
  case round =>
  obtain ⟨j, r, X, m, b, hgj, rfl, HB, rfl, hr, hX, rfl⟩ := hrel
  have ho := Fl.ord hr lit15
  have hj := hX.out.1.le
  cases hg : ge15 X
  · have hE := Lib.hid (show halveC 260 Y 0 = (X, j) by rw [← hX.out.2, halveC_end hg])
    have hD := Lib.hid (hX.out.1.end_ hg)
    unfold ge15 at hg
    rw [← ho] at hg
    clear ho
    go_wp2
    clear hg
    go_loopg [0, 3] 149 (fun g y0 e w' => ∃ k r X2 m b, g + k = 149 ∧ e = .float .f64 b ∧ Hid (b = floatOfInt .f64 ((j : Int) - (k : Nat))) ∧ y0 = .float .f64 r ∧ Fl .f64 r X2 ∧ Hid (DI k X2 ∧ dblC (149 - k) X2 k = dblC 149 X 0) ∧ w' = w.drewN m)
    case atStart => exact ⟨0, _, _, _, _, rfl, rfl, Lib.hid (by rw [HB.out]; simp), rfl, hr, Lib.hid ⟨hD.out, rfl⟩, rfl⟩
    case round =>
    obtain ⟨k, r2, X2, m2, b2, hgk, rfl, HB2, rfl, hr2, hX2, rfl⟩ := hrel
    have ho := Fl.ord hr2 lit075
    cases hg : lt075 X2
    · have hE2 := Lib.hid (show dblC 149 X 0 = (X2, k) by rw [← hX2.out.2, dblC_end hg])
      have hL := Lib.hid (show logL Y = X2 by unfold logL; rw [hE.out, hE2.out])
      have hN := Lib.hid (show logN Y = (j : Int) - (k : Nat) by unfold logN; rw [hE.out]; dsimp only; rw [hE2.out])
      unfold lt075 at hg
      rw [← ho] at hg
      clear ho
      have HS := Lib.hid (fun w1 w2 w3 => (hr2.fr one64 .sub w1).fr (hr2.fr one64 .add w2) .quo w3)
      go_upto_region 9 with fail
      clear hg
      generalize hss : fr .quo .f64 _ _ _ = ss
      have hS : Fl .f64 ss (logS X2) := by rw [← hss]; exact HS.out _ _ _
      clear hss HS
      have HU := Lib.hid (fun w1 => hS.fr hS .mul w1)
      go_upto_region 10 with fail
      generalize huu : fr .mul .f64 ss ss _ = uu
      have hU : Fl .f64 uu (fop .mul .f64 (logS X2) (logS X2)) := by rw [← huu]; exact HU.out _
      clear huu HU
      go_wp2
      go_loopg [6, 7] 13 (fun g q k w' => ∃ (i : Nat), ∃ m r b, g + i = 13 ∧ k = .float .f64 b ∧ Hid (b = floatOfInt .f64 (25 - 2 * (i : Int))) ∧ q = .float .f64 r ∧ Fl .f64 r (logQ (fop .mul .f64 (logS X2) (logS X2)) i) ∧ w' = w.drewN m)
      case atStart => exact ⟨0, _, _, _, rfl, rfl, Lib.hid (by decide), rfl, zero64, rfl⟩
      case round =>
      obtain ⟨i, m3, q, b3, hgi, rfl, HB3, rfl, hq, rfl⟩ := hrel
      have hk3 : Fl .f64 b3 (kL i) := by rw [HB3.out]; exact kLi i
      have ho3 := Fl.ord hk3 one64
      by_cases hlt : i < 13
      · have hg3 := kL_go i hlt
        rw [← ho3] at hg3
        clear ho3
        have HQ := Lib.hid (fun w1 w2 w3 => (one64.fr hk3 .quo w1).fr (hU.fr hq .mul w2) .add w3)
        have HN3 := Lib.hid (fun w1 => kL_step HB3.out hlt w1)
        have HL := Lib.hid hlt
        clear hlt
        go_wp2
        go_roundg (13 - (i + 1))
        case measure => have := HL.out; omega
        case rel => exact ⟨i + 1, _, _, _, by have := HL.out; omega, rfl, Lib.hid (HN3.out _), rfl, HQ.out _ _ _, rfl⟩
      · obtain rfl : i = 13 := by omega
        have hg3 := kL_end
        rw [← ho3] at hg3
        clear ho3
        have hI : Fl .f64 b2 (some (floatOfInt .f64 ((j : Int) - (k : Nat)))) := by rw [HB2.out]; exact intF64_fl _
        have HF := Lib.hid (fun w1 w2 w3 w4 => (lit2.fr (hS.fr hq .mul w1) .mul w2).fr (hI.fr litL2 .mul w3) .add w4)
        go_wp2
        go_ret
        refine ⟨_, _, rfl, ?_, rfl⟩
        rw [logW, hL.out, hN.out]
        exact HF.out _ _ _ _
    · have HG := Lib.hid hg
      have hst := hX2.out.1.step hg
      have hk := hst.1
      have HD := Lib.hid hst.2
      have HC := Lib.hid (dblC_go hX2.out.1 hg)
      have HR := Lib.hid (fun w1 => hr2.fr lit2 .mul w1)
      unfold lt075 at hg
      rw [← ho] at hg
      clear ho hst
      go_wp2
      go_roundg (149 - (k + 1))
      case measure => omega
      case rel => exact ⟨k + 1, _, _, _, _, by omega, rfl, Lib.hid (by rw [cnt_down (n := (j : Int) - (k : Nat)) HB2.out (by omega) (by omega)]; congr 1; omega), rfl, HR.out _, Lib.hid ⟨HD.out, by rw [← hX2.out.2, HC.out]⟩, rfl⟩
  · have hst := hX.out.1.step hg
    have hk := hst.1
    have HD := Lib.hid hst.2
    have HC := Lib.hid (halveC_go hX.out.1 hg)
    have HR := Lib.hid (fun w1 => hr.fr lit2 .quo w1)
    unfold ge15 at hg
    rw [← ho] at hg
    clear ho hst
    go_wp2
    go_roundg (260 - (j + 1))
    case measure => omega
    case rel => exact ⟨j + 1, _, _, _, _, by omega, rfl, Lib.hid (by rw [cnt_up (n := (j : Int)) HB.out (by omega) (by omega)]; rfl), rfl, HR.out _, Lib.hid ⟨HD.out, by rw [← hX.out.2, HC.out]⟩, rfl⟩
end Go.Proofs.Ytpeflkakljaheaa
