/- The walk of the law on levels of envelopes. Conditions: none beside the contracts' own. -/
import Derived.Test.YtlenpecnfilkjaaQ1
import Derived.Handy
import Derived.Deep.RegionWith
set_option linter.unusedVariables false
set_option linter.unusedSimpArgs false
namespace Go.Proofs.Ytlenpecnfilkjaa
open Go.RowKit
theorem intF_fl' (n : Int) : Fl .f32 (floatOfInt .f32 n) (some (floatOfInt .f32 n)) := by
  refine .of_lit ?_ ?_
  · exact wf_lt (floatOfInt_wf .f32 n)
  · show (FloatKind.f32.format.read (FloatKind.f32.format.write (.number (n < 0) n.natAbs 0))).isNaN = false
    exact write_not_nan _ rfl
def fi (n : Int) : Option Nat := some (floatOfInt .f32 n)
def envC (n d r : Int) : Bool := inC n 0 1000 && inC d 0 1000 && inC r 0 1000
def heldC (A D : Int) (S : Option Nat) (n : Int) : Option Nat :=
  if n < A then fquo (fi n) (fi A) else if n - A < D then fsub (some 1065353216) (fmul (fquo (fi (n - A)) (fi D)) (fsub (some 1065353216) S)) else S
def levC (A D R : Int) (S : Option Nat) (held n : Int) : Option Nat :=
  if n < held then heldC A D S n else if R ≤ n - held then some 0 else fmul (heldC A D S held) (fsub (some 1065353216) (fquo (fi (n - held)) (fi R)))
set_option maxHeartbeats 800000 in
theorem spec_l05Held {b : Nat} {A D : Int} {s : Nat} {S : Option Nat} {n : Int} (w : World) (hs : Fl .f32 s S) (hA : 0 ≤ A ∧ A ≤ 1000) (hD : 0 ≤ D ∧ D ≤ 1000) (hn : 0 ≤ n ∧ n ≤ 4000)
    (c0 : w.cell? ⟨b, 0, none⟩ = some (.int .i64 A)) (c1 : w.cell? ⟨b, 1, none⟩ = some (.int .i64 D)) (c2 : w.cell? ⟨b, 2, none⟩ = some (.float .f32 s)) :
    Calls Try.prog 98 #[.pointer (some ⟨b, 0, none⟩), .int .i64 n] w (RF .f32 (heldC A D S n) w) := by
  obtain ⟨hA0, hA1⟩ := hA
  obtain ⟨hD0, hD1⟩ := hD
  obtain ⟨hn0, hn1⟩ := hn
  unfold heldC
  have HN := Lib.hid (fun (m : Int) => intF_fl' m)
  have HO := Lib.hid one32
  have HS := Lib.hid hs
  clear hs
  by_cases h1 : n < A
  · rw [if_pos h1]
    go_enter Try.func98, Try.ntmps98
    go_wp2
    go_ret
    exact ⟨_, _, rfl, (HN.out n).fr (HN.out A) .quo _, rfl⟩
  · rw [if_neg h1]
    by_cases h2 : n - A < D
    · rw [if_pos h2]
      go_enter Try.func98, Try.ntmps98
      go_wp2
      go_region
      all_goals go_wp2
      all_goals go_ret
      all_goals exact ⟨_, _, rfl, HO.out.fr (((HN.out _).fr (HN.out _) .quo _).fr (HO.out.fr HS.out .sub _) .mul _) .sub _, rfl⟩
    · rw [if_neg h2]
      go_enter Try.func98, Try.ntmps98
      go_wp2
      go_ret
      exact ⟨_, 0, rfl, HS.out, rfl⟩
set_option maxHeartbeats 1600000 in
theorem spec_l05Level {b : Nat} {A D R : Int} {s : Nat} {S : Option Nat} {held n : Int} (w : World) (hs : Fl .f32 s S) (hA : 0 ≤ A ∧ A ≤ 1000) (hD : 0 ≤ D ∧ D ≤ 1000) (hR : 0 ≤ R ∧ R ≤ 1000) (hh : 0 ≤ held ∧ held ≤ 4000) (hn : 0 ≤ n ∧ n ≤ 4000)
    (c0 : w.cell? ⟨b, 0, none⟩ = some (.int .i64 A)) (c1 : w.cell? ⟨b, 1, none⟩ = some (.int .i64 D)) (c2 : w.cell? ⟨b, 2, none⟩ = some (.float .f32 s)) (c3 : w.cell? ⟨b, 3, none⟩ = some (.int .i64 R)) :
    Calls Try.prog 67 #[.pointer (some ⟨b, 0, none⟩), .int .i64 held, .int .i64 n] w (RF .f32 (levC A D R S held n) w) := by
  have CH : ∀ m W, (0 ≤ m ∧ m ≤ 4000) → W.heap = w.heap → Calls Try.prog 98 #[.pointer (some ⟨b, 0, none⟩), .int .i64 m] W (RF .f32 (heldC A D S m) W) := fun m W hm e => spec_l05Held W hs hA hD hm (by simpa [World.cell?, e] using c0) (by simpa [World.cell?, e] using c1) (by simpa [World.cell?, e] using c2)
  have hh' := hh
  have hn' := hn
  obtain ⟨hR0, hR1⟩ := hR
  obtain ⟨hh0, hh1⟩ := hh
  obtain ⟨hn0, hn1⟩ := hn
  unfold levC
  have HN := Lib.hid (fun (m : Int) => intF_fl' m)
  have HO := Lib.hid one32
  clear hs
  by_cases h1 : n < held
  · rw [if_pos h1]
    go_enter Try.func67, Try.ntmps67
    go_wp2_with (go_at_call 98; (with_reducible refine (CH _ _ hn' ?_).mono ?_); rfl; rintro e w1 ⟨y, q, rfl, hy, rfl⟩)
    go_ret
    exact ⟨_, _, rfl, hy, rfl⟩
  · rw [if_neg h1]
    by_cases h2 : R ≤ n - held
    · rw [if_pos h2]
      go_enter Try.func67, Try.ntmps67
      go_wp2
      go_ret
      exact ⟨_, 0, rfl, zero32, rfl⟩
    · rw [if_neg h2]
      go_enter Try.func67, Try.ntmps67
      go_wp2_with fail
      go_region_with (go_at_call 98; (with_reducible refine (CH _ _ hh' ?_).mono ?_); rfl; rintro e w1 ⟨y, q, rfl, hy, rfl⟩)
      all_goals go_wp2
      all_goals go_ret
      all_goals exact ⟨_, _, rfl, hy.fr (HO.out.fr ((HN.out _).fr (HN.out _) .quo _) .sub _) .mul _, rfl⟩
set_option maxHeartbeats 400000 in
theorem spec_l05Envelope (n d r : Int) (b : Nat) (w : World) (h0 : w.cell? ⟨b, 0, none⟩ = some (.int .i64 n)) (h1 : w.cell? ⟨b, 1, none⟩ = some (.int .i64 d)) (h3 : w.cell? ⟨b, 3, none⟩ = some (.int .i64 r)) : Calls Try.prog 66 #[.pointer (some ⟨b, 0, none⟩)] w (fun e w' => e = .returned (.bool (envC n d r)) ∧ w = w') := by
  unfold envC
  go_enter Try.func66, Try.ntmps66
  go_wp2_with (go_at_call 58; refine (spec_l00In _).mono ?_; rintro e w' ⟨rfl, rfl⟩)
  all_goals
    go_ret
    exact ⟨ret_bool (by simp_all), rfl⟩
def levOk (A D R held n : Int) : Bool := envC A D R && inC held 0 4000 && inC n 0 4000
def levNC (A D R : Int) (S : Option Nat) (held n : Int) : Option Nat := if levOk A D R held n = true then levC A D R S held n else some 0
/-- A sample and a bool, new memory besides. -/
def RFBB (X : Option Nat) (b : Bool) (w : World) (e : Ending) (w' : World) : Prop := ∃ r, e = .returned (.tuple #[.float .f32 r, .bool b]) ∧ Fl .f32 r X ∧ Below w.heap.size w w'
set_option maxHeartbeats 1600000 in
theorem spec_LevelAt {A D R : Int} {s : Nat} {S : Option Nat} {held n : Int} (w : World) (hs : Fl .f32 s S) :
    Calls Try.prog 33 #[.agg #[.int .i64 A, .int .i64 D, .float .f32 s, .int .i64 R], .int .i64 held, .int .i64 n] w (RFBB (levNC A D R S held n) (levOk A D R held n) w) := by
  unfold levNC levOk
  have hal := fun o m => below_drewN ((Below.refl _ w).alloc (Nat.le_refl _) o) m
  have hal0 := fun o => (Below.refl _ w).alloc (Nat.le_refl _) o
  cases c1 : envC A D R <;> cases c2 : inC held 0 4000 <;> cases c3 : inC n 0 4000 <;> simp only [Bool.false_eq_true, if_true, if_false, Bool.and_true, Bool.true_and, Bool.and_false, Bool.false_and]
  case true.true.true =>
    have hh := (inC_iff _ _ _).1 c2
    have hn := (inC_iff _ _ _).1 c3
    have hA : (0 ≤ A ∧ A ≤ 1000) ∧ (0 ≤ D ∧ D ≤ 1000) ∧ (0 ≤ R ∧ R ≤ 1000) := by
      simp only [envC, Bool.and_eq_true] at c1
      exact ⟨(inC_iff _ _ _).1 c1.1.1, (inC_iff _ _ _).1 c1.1.2, (inC_iff _ _ _).1 c1.2⟩
    obtain ⟨h1, h2, h3⟩ := hA
    go_enter Try.func33, Try.ntmps33
    go_wp2_with (first
      | (go_at_call 66; refine (spec_l05Envelope A D R _ _ (by simp [go_sem]) (by simp [go_sem]) (by simp [go_sem])).mono ?_; rintro e w' ⟨rfl, rfl⟩)
      | (go_at_call 58; refine (spec_l00In _).mono ?_; rintro e w' ⟨rfl, rfl⟩)
      | (go_at_call 67; refine (spec_l05Level _ hs h1 h2 h3 hh hn (by simp [go_sem]) (by simp [go_sem]) (by simp [go_sem]) (by simp [go_sem])).mono ?_; rintro e w' ⟨y, q, rfl, hy, rfl⟩))
    go_ret2
    exact ⟨_, rfl, hy, hal _ _⟩
  all_goals
    go_enter Try.func33, Try.ntmps33
    go_wp2_with (first
      | (go_at_call 66; refine (spec_l05Envelope A D R _ _ (by simp [go_sem]) (by simp [go_sem]) (by simp [go_sem])).mono ?_; rintro e w' ⟨rfl, rfl⟩)
      | (go_at_call 58; refine (spec_l00In _).mono ?_; rintro e w' ⟨rfl, rfl⟩))
    go_ret2
    exact ⟨_, rfl, zero32, hal0 _⟩
/-! ### The program's own side -/
set_option maxHeartbeats 400000 in
theorem impl_share {n m : Int} (w : World) : Calls Try.prog 100 #[.int .i64 n, .int .i64 m] w (RF .f32 (fquo (fi n) (fi m)) w) := by
  go_enter Try.func100, Try.ntmps100
  go_wp2
  go_ret
  exact ⟨_, _, rfl, (intF_fl' n).fr (intF_fl' m) .quo _, rfl⟩
set_option maxHeartbeats 800000 in
theorem impl_holding {A D R : Int} {s : Nat} {S : Option Nat} {n : Int} (w : World) (hs : Fl .f32 s S) (hA : 0 ≤ A ∧ A ≤ 1000) (hD : 0 ≤ D ∧ D ≤ 1000) (hn : 0 ≤ n ∧ n ≤ 4000) :
    Calls Try.prog 99 #[.agg #[.int .i64 A, .int .i64 D, .float .f32 s, .int .i64 R], .int .i64 n] w (RFM .f32 (heldC A D S n) w) := by
  obtain ⟨hA0, hA1⟩ := hA
  obtain ⟨hD0, hD1⟩ := hD
  obtain ⟨hn0, hn1⟩ := hn
  unfold heldC
  have hal := fun o m => below_drewN ((Below.refl _ w).alloc (Nat.le_refl _) o) m
  have hal0 := fun o => (Below.refl _ w).alloc (Nat.le_refl _) o
  have HO := Lib.hid one32
  have HS := Lib.hid hs
  clear hs
  by_cases h1 : n < A
  · rw [if_pos h1]
    have h1' : n - A < 0 := by omega
    go_enter Try.func99, Try.ntmps99
    go_wp2_with (go_at_call 100; refine (impl_share _).mono ?_; rintro e w1 ⟨y, q, rfl, hy, rfl⟩)
    go_ret
    exact ⟨_, rfl, hy, hal _ _⟩
  · rw [if_neg h1]
    have h1' : ¬ n - A < 0 := by omega
    by_cases h2 : n - A < D
    · rw [if_pos h2]
      go_enter Try.func99, Try.ntmps99
      go_wp2_with fail
      go_region_with (go_at_call 100; refine (impl_share _).mono ?_; rintro e w1 ⟨y, q, rfl, hy, rfl⟩)
      all_goals go_wp2
      all_goals go_ret
      all_goals exact ⟨_, rfl, HO.out.fr (hy.fr (HO.out.fr HS.out .sub _) .mul _) .sub _, hal _ _⟩
    · rw [if_neg h2]
      go_enter Try.func99, Try.ntmps99
      go_wp2
      go_ret
      exact ⟨_, rfl, HS.out, hal0 _⟩
set_option maxHeartbeats 1600000 in
theorem impl_level {A D R : Int} {s : Nat} {S : Option Nat} {held n : Int} (w : World) (hs : Fl .f32 s S) (hA : 0 ≤ A ∧ A ≤ 1000) (hD : 0 ≤ D ∧ D ≤ 1000) (hR : 0 ≤ R ∧ R ≤ 1000) (hh : 0 ≤ held ∧ held ≤ 4000) (hn : 0 ≤ n ∧ n ≤ 4000) :
    Calls Try.prog 70 #[.agg #[.int .i64 A, .int .i64 D, .float .f32 s, .int .i64 R], .int .i64 held, .int .i64 n] w (RFM .f32 (levC A D R S held n) w) := by
  have CH : ∀ m W, (0 ≤ m ∧ m ≤ 4000) → Calls Try.prog 99 #[.agg #[.int .i64 A, .int .i64 D, .float .f32 s, .int .i64 R], .int .i64 m] W (RFM .f32 (heldC A D S m) W) := fun m W hm => impl_holding W hs hA hD hm
  have hh' := hh
  have hn' := hn
  obtain ⟨hR0, hR1⟩ := hR
  obtain ⟨hh0, hh1⟩ := hh
  obtain ⟨hn0, hn1⟩ := hn
  unfold levC
  have HO := Lib.hid one32
  clear hs
  by_cases h1 : n < held
  · rw [if_pos h1]
    go_enter Try.func70, Try.ntmps70
    go_wp2_with fail
    refine (CH _ _ hn').mono ?_
    rintro e w1 ⟨y, rfl, hy, hb1⟩
    have hb2 := below_next ((Below.refl _ w).alloc (Nat.le_refl _) _) (by simp) hb1
    clear hb1
    go_wp2_with fail
    go_ret
    exact ⟨_, rfl, hy, hb2⟩
  · rw [if_neg h1]
    by_cases h2 : R ≤ n - held
    · rw [if_pos h2]
      go_enter Try.func70, Try.ntmps70
      go_wp2
      go_ret
      exact ⟨_, rfl, zero32, (Below.refl _ w).alloc (Nat.le_refl _) _⟩
    · rw [if_neg h2]
      go_enter Try.func70, Try.ntmps70
      go_wp2_with fail
      obtain ⟨W1, hW1⟩ : ∃ W1, W1 = w.alloc (.cells #[.int .i64 A, .int .i64 D, .float .f32 s, .int .i64 R] 57) := ⟨_, rfl⟩
      rw [← hW1]
      have hB1 : Below w.heap.size w W1 := by rw [hW1]; exact (Below.refl _ _).alloc (Nat.le_refl _) _
      have hz1 : W1.heap.size = w.heap.size + 1 := by rw [hW1]; simp
      have hlt : w.heap.size < W1.heap.size := by omega
      have g0 : W1.cell? ⟨w.heap.size, 0, none⟩ = some (.int .i64 A) := by rw [hW1]; simp [go_sem]
      have g1 : W1.cell? ⟨w.heap.size, 1, none⟩ = some (.int .i64 D) := by rw [hW1]; simp [go_sem]
      have g2 : W1.cell? ⟨w.heap.size, 2, none⟩ = some (.float .f32 s) := by rw [hW1]; simp [go_sem]
      have g3 : W1.cell? ⟨w.heap.size, 3, none⟩ = some (.int .i64 R) := by rw [hW1]; simp [go_sem]
      clear hW1
      go_region_with (first
        | (go_at_call 99; (with_reducible refine (CH _ _ hh').mono ?_); rintro e w2 ⟨y, rfl, hy, hb2⟩; have e0 := (cell_below hb2 (by simp [hz1])).trans g0; have e1 := (cell_below hb2 (by simp [hz1])).trans g1; have e2 := (cell_below hb2 (by simp [hz1])).trans g2; have e3 := (cell_below hb2 (by simp [hz1])).trans g3)
        | (go_at_call 100; refine (impl_share _).mono ?_; rintro e w3 ⟨z, q, rfl, hz, rfl⟩))
      all_goals
        have hbel : Hid (Below w.heap.size w w2) := Lib.hid (by first | exact below_next (below_drewN hB1 1) (by simp [hz1]) hb2 | exact below_next (below_drewN hB1 _) (by simp [hz1]) hb2)
        clear hB1 hb2 CH g0 g1 g2 g3
        go_wp2
        go_ret
        refine ⟨_, rfl, hy.fr (HO.out.fr hz .sub _) .mul _, ?_⟩
        first | exact hbel.out | exact below_drewN hbel.out _
end Go.Proofs.Ytlenpecnfilkjaa
