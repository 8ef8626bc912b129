/- The walks of the exponential function, and how great it is. Conditions: none. -/
import Derived.Test.YtpeflkakljaheaaN1
import Derived.Test.YtpeflkakljaheaaS2
set_option linter.unusedVariables false
set_option linter.unusedSimpArgs false
namespace Go.Proofs.Ytpeflkakljaheaa
open Go.RowKit

theorem intF64_fl (n : Int) : Fl .f64 (floatOfInt .f64 n) (some (floatOfInt .f64 n)) := by
  refine .of_lit ?_ ?_
  · exact wf_lt (floatOfInt_wf .f64 n)
  · show (FloatKind.f64.format.read (FloatKind.f64.format.write (.number (n < 0) n.natAbs 0))).isNaN = false
    exact write_not_nan _ rfl
/-- The number of the round, as a float. -/
def kF (j : Nat) : Option Nat := some (floatOfInt .f64 ((12 - j : Nat) : Int))
def expS (T P : Option Nat) (j : Nat) : Option Nat := fop .add .f64 (some 4607182418800017408) (fop .quo .f64 (fop .mul .f64 T P) (kF j))
def expI (T : Option Nat) : Nat → Option Nat
  | 0 => some 4607182418800017408
  | j + 1 => expS T (expI T j) j
def sqI (P : Option Nat) : Nat → Option Nat
  | 0 => P
  | j + 1 => fop .mul .f64 (sqI P j) (sqI P j)
def expC (Y : Option Nat) : Option Nat :=
  if (ford .f64 Y (some 4641240890982006784) == some .gt) = true then some 9218868437227405312
  else if (ford .f64 Y (some 13864612927836782592) == some .lt) = true then some 0
  else sqI (expI (fop .quo .f64 Y (some 4643211215818981376)) 12) 8
theorem fop_none (op : BinOp) (k : FloatKind) (Y : Option Nat) : fop op k none Y = none := rfl
theorem fop_none_r (op : BinOp) (k : FloatKind) (X : Option Nat) : fop op k X none = none := by cases X <;> rfl
theorem expC_none : expC none = none := by
  have h1 : ∀ j, expI none (j + 1) = none := fun j => by simp only [expI, expS, fop_none, fop_none_r]
  have h2 : ∀ j, sqI none j = none := by
    intro j
    induction j with
    | zero => rfl
    | succ j ih => simp only [sqI, ih, fop_none]
  unfold expC
  simp only [fop_none, h1, h2, ford, Option.bind_none]
  rfl
theorem kF_next : ∀ j, j < 12 → fop .sub .f64 (kF j) (some 4607182418800017408) = kF (j + 1) := by
  intro j hj
  have key : ∀ i : Fin 12, fop .sub .f64 (kF i.val) (some 4607182418800017408) = kF (i.val + 1) := by decide
  exact key ⟨j, hj⟩
theorem kF_go : ∀ j, j < 12 → (ford .f64 (kF j) (some 4607182418800017408) == some .gt || ford .f64 (kF j) (some 4607182418800017408) == some .eq) = true := by
  intro j hj
  have key : ∀ i : Fin 12, (ford .f64 (kF i.val) (some 4607182418800017408) == some .gt || ford .f64 (kF i.val) (some 4607182418800017408) == some .eq) = true := by decide
  exact key ⟨j, hj⟩
theorem kF_end : (ford .f64 (kF 12) (some 4607182418800017408) == some .gt || ford .f64 (kF 12) (some 4607182418800017408) == some .eq) = false := by decide
theorem kF_fl (j : Nat) : Fl .f64 (floatOfInt .f64 ((12 - j : Nat) : Int)) (kF j) := intF64_fl _
theorem one64 : Fl .f64 4607182418800017408 (some 4607182418800017408) := .of_lit (by decide) (by decide)
/-- How many rounds are left. -/
def kM (v : Value) : Nat := match v with
  | .float _ b => ((List.range 13).find? (fun (i : Nat) => floatOfInt .f64 (i : Int) == b)).getD 0
  | _ => 0
theorem kM_lt : ∀ j, j < 12 → kM (.float .f64 (floatOfInt .f64 ((12 - (j + 1) : Nat) : Int))) < kM (.float .f64 (floatOfInt .f64 ((12 - j : Nat) : Int))) := by
  intro j hj
  have key : ∀ i : Fin 12, kM (.float .f64 (floatOfInt .f64 ((12 - (i.val + 1) : Nat) : Int))) < kM (.float .f64 (floatOfInt .f64 ((12 - i.val : Nat) : Int))) := by decide
  exact key ⟨j, hj⟩
theorem kF_next_fl {b j : Nat} (hb : b = floatOfInt .f64 ((12 - j : Nat) : Int)) (hj : j < 12) (w : World) : fr .sub .f64 b 4607182418800017408 w = floatOfInt .f64 ((12 - (j + 1) : Nat) : Int) := by
  have h := (kF_fl j).fr one64 .sub w
  rw [kF_next j hj] at h
  rw [hb]; exact h.some
theorem kF_ord {b j : Nat} (hb : b = floatOfInt .f64 ((12 - j : Nat) : Int)) : FloatKind.f64.format.order b 4607182418800017408 = ford .f64 (kF j) (some 4607182418800017408) := by
  rw [hb]; exact Fl.ord (kF_fl j) one64
set_option maxHeartbeats 1600000 in
theorem impl_exponential {y : Nat} {Y : Option Nat} (hy : Fl .f64 y Y) (w : World) : Calls Try.prog 52 #[.float .f64 y] w (RF .f64 (expC Y) w) := by
  have h1 := Fl.ord hy (.of_lit (k := .f64) (b := 4641240890982006784) (by decide) (by decide))
  have h2 := Fl.ord hy (.of_lit (k := .f64) (b := 13864612927836782592) (by decide) (by decide))
  unfold expC
  cases c1 : (ford .f64 Y (some 4641240890982006784) == some .gt) <;> simp only [Bool.false_eq_true, if_true, if_false]
  · cases c2 : (ford .f64 Y (some 13864612927836782592) == some .lt) <;> simp only [Bool.false_eq_true, if_true, if_false]
    · have HT := Lib.hid (fun w => hy.fr (.of_lit (k := .f64) (b := 4643211215818981376) (by decide) (by decide)) .quo w)
      go_enter Try.func52, Try.ntmps52
      go_wp2
      clear c1 c2 h1 h2
      go_loopw [4, 5] (fun p k w' => ∃ j m r b, j ≤ 12 ∧ k = .float .f64 b ∧ Hid (b = floatOfInt .f64 ((12 - j : Nat) : Int)) ∧ p = .float .f64 r ∧ Fl .f64 r (expI (fop .quo .f64 Y (some 4643211215818981376)) j) ∧ w' = w.drewN m) (fun _ k _ => kM k)
      case atStart => exact ⟨0, _, _, _, Nat.zero_le _, rfl, Lib.hid (by decide), rfl, by rw [expI]; exact one64, rfl⟩
      case round =>
      obtain ⟨j, m, r, b, hj, rfl, HB, rfl, hr, rfl⟩ := hrel
      have ho := kF_ord HB.out
      by_cases hlt : j < 12
      · have hb : Fl .f64 b (kF j) := by rw [HB.out]; exact kF_fl j
        have hg := kF_go j hlt
        rw [← ho] at hg
        clear ho
        have hT := HT.out w
        generalize fr .quo .f64 y 4643211215818981376 w = tt at *
        have HN := Lib.hid (fun w1 w2 w3 => one64.fr ((hT.fr hr .mul w1).fr hb .quo w2) .add w3)
        have HL := Lib.hid hlt
        go_wp2
        refine ⟨⟨j + 1, _, _, _, by omega, rfl, Lib.hid (kF_next_fl HB.out HL.out _), rfl, HN.out _ _ _, rfl⟩, ?_⟩
        rw [kF_next_fl HB.out HL.out, HB.out]; exact kM_lt j HL.out
      · obtain rfl : j = 12 := by omega
        have hg := kF_end
        rw [← ho] at hg
        clear ho
        go_wp2
        go_loopw [4, 6] (fun p i w' => ∃ j m r, j ≤ 8 ∧ i = .int .i64 (j : Nat) ∧ p = .float .f64 r ∧ Fl .f64 r (sqI (expI (fop .quo .f64 Y (some 4643211215818981376)) 12) j) ∧ w' = w.drewN m) (fun _ i _ => 8 - (intOf i).toNat)
        case atStart => exact ⟨0, _, _, Nat.zero_le _, rfl, rfl, by simpa [sqI] using hr, rfl⟩
        case round =>
          obtain ⟨j, m, r, hj, rfl, rfl, hr, rfl⟩ := hrel
          by_cases hlt : j < 8
          · go_wp2
            exact ⟨⟨j + 1, _, _, by omega, by go_num, rfl, by rw [sqI]; exact hr.fr hr .mul _, rfl⟩, by simp [intOf]; omega⟩
          · go_wp2
            go_ret
            obtain rfl : j = 8 := by omega
            exact ⟨_, _, rfl, hr, rfl⟩
    · go_enter Try.func52, Try.ntmps52
      go_wp2
      go_ret
      exact ⟨_, 0, rfl, .of_lit (by decide) (by decide), rfl⟩
  · go_enter Try.func52, Try.ntmps52
    go_wp2_with (go_at_call 50; refine (math_Inf _).mono ?_; rintro e w' ⟨rfl, rfl⟩)
    go_ret
    exact ⟨_, 0, rfl, .of_lit (by decide) (by decide), rfl⟩
set_option maxHeartbeats 1600000 in
theorem spec_l01ExpWide {y : Nat} {Y : Option Nat} (hy : Fl .f64 y Y) (w : World) : Calls Try.prog 73 #[.float .f64 y] w (RF .f64 (expC Y) w) := by
  have h1 := Fl.ord hy (.of_lit (k := .f64) (b := 4641240890982006784) (by decide) (by decide))
  have h2 := Fl.ord hy (.of_lit (k := .f64) (b := 13864612927836782592) (by decide) (by decide))
  rcases hy.cases with ⟨rfl, n1⟩ | ⟨rfl, n1⟩
  · have hs := ord_nan n1
    rw [expC_none]
    go_enter Try.func73, Try.ntmps73
    go_wp2
    go_ret
    exact ⟨_, 0, rfl, hy, rfl⟩
  have hs := ord_num n1
  generalize hYe : some y = Y at *
  clear hYe
  unfold expC
  cases c1 : (ford .f64 Y (some 4641240890982006784) == some .gt) <;> simp only [Bool.false_eq_true, if_true, if_false]
  · cases c2 : (ford .f64 Y (some 13864612927836782592) == some .lt) <;> simp only [Bool.false_eq_true, if_true, if_false]
    · have HT := Lib.hid (fun w => hy.fr (.of_lit (k := .f64) (b := 4643211215818981376) (by decide) (by decide)) .quo w)
      go_enter Try.func73, Try.ntmps73
      go_wp2
      clear c1 c2 h1 h2
      go_loopw [4, 5] (fun p k w' => ∃ j m r, j ≤ 12 ∧ k = .int .i64 ((12 - j : Nat) : Int) ∧ p = .float .f64 r ∧ Fl .f64 r (expI (fop .quo .f64 Y (some 4643211215818981376)) j) ∧ w' = w.drewN m) (fun _ k _ => (intOf k).toNat)
      case atStart => exact ⟨0, _, _, Nat.zero_le _, rfl, rfl, by rw [expI]; exact one64, rfl⟩
      case round =>
      obtain ⟨j, m, r, hj, rfl, rfl, hr, rfl⟩ := hrel
      by_cases hlt : j < 12
      · have hb := kF_fl j
        obtain ⟨i, hi⟩ : ∃ i : Nat, 12 - j = i + 1 := ⟨11 - j, by omega⟩
        rw [hi] at hb ⊢
        have hi2 : 12 - (j + 1) = i := by omega
        have HI := Lib.hid hi2
        have hi3 : i ≤ 11 := by omega
        have hT := HT.out w
        generalize fr .quo .f64 y 4643211215818981376 w = tt at *
        have HN := Lib.hid (fun w1 w2 w3 => one64.fr ((hT.fr hr .mul w1).fr hb .quo w2) .add w3)
        have HL := Lib.hid hlt
        clear hb hi hi2 hlt
        go_wp2
        exact ⟨⟨j + 1, _, _, by have := HL.out; omega, by rw [HI.out], rfl, HN.out _ _ _, rfl⟩, by simp [intOf]⟩
      · obtain rfl : j = 12 := by omega
        go_wp2
        go_loopw [4, 6] (fun p i w' => ∃ j m r, j ≤ 8 ∧ i = .int .i64 (j : Nat) ∧ p = .float .f64 r ∧ Fl .f64 r (sqI (expI (fop .quo .f64 Y (some 4643211215818981376)) 12) j) ∧ w' = w.drewN m) (fun _ i _ => 8 - (intOf i).toNat)
        case atStart => exact ⟨0, _, _, Nat.zero_le _, rfl, rfl, by simpa [sqI] using hr, rfl⟩
        case round =>
          obtain ⟨j, m, r, hj, rfl, rfl, hr, rfl⟩ := hrel
          by_cases hlt : j < 8
          · go_wp2
            exact ⟨⟨j + 1, _, _, by omega, by go_num, rfl, by rw [sqI]; exact hr.fr hr .mul _, rfl⟩, by simp [intOf]; omega⟩
          · go_wp2
            go_ret
            obtain rfl : j = 8 := by omega
            exact ⟨_, _, rfl, hr, rfl⟩
    · go_enter Try.func73, Try.ntmps73
      go_wp2
      go_ret
      exact ⟨_, 0, rfl, .of_lit (by decide) (by decide), rfl⟩
  · go_enter Try.func73, Try.ntmps73
    go_wp2_with (go_at_call 50; refine (math_Inf _).mono ?_; rintro e w' ⟨rfl, rfl⟩)
    go_ret
    exact ⟨_, 0, rfl, .of_lit (by decide) (by decide), rfl⟩
end Go.Proofs.Ytpeflkakljaheaa
