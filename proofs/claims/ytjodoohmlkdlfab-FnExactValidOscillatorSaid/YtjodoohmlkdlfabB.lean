/- The walks of small laws on structs of numbers and on names: delays, envelopes, oscillators, names, gains. Conditions: none. -/
import Derived.Test.YtjodoohmlkdlfabRows
import Derived.Test.YtjodoohmlkdlfabFl
set_option linter.unusedVariables false
set_option linter.unusedSimpArgs false
namespace Go.Proofs.Ytjodoohmlkdlfab
open Go.RowKit
set_option maxHeartbeats 400000 in
theorem toDelay (n : Int) (f d x : Nat) (b : Bool) (w : World) : Calls Try.prog 9 #[.agg #[.int .i64 n, .float .f32 f, .float .f32 d, .float .f32 x, .bool b]] w (RV (.agg #[.int .i64 n, .float .f32 f, .float .f32 d, .float .f32 x, .bool b]) w) := by
  go_enter Try.func9, Try.ntmps9
  go_wp2
  refine bodyPost_ret (v := .agg #[.int .i64 n, .float .f32 f, .float .f32 d, .float .f32 x, .bool b]) ?_ rfl ⟨rfl, ?_⟩
  · simp [results, Try.results9, go_sem]
  · (repeat (first | exact Below.refl _ _ | (with_reducible assumption) | refine below_drewN ?_ _ | refine Below.drew ?_ | refine Below.alloc ?_ (by simp; try omega) _))
set_option maxHeartbeats 400000 in
theorem toEnvelope (n d r : Int) (s : Nat) (w : World) : Calls Try.prog 12 #[.agg #[.int .i64 n, .int .i64 d, .float .f32 s, .int .i64 r]] w (RV (.agg #[.int .i64 n, .int .i64 d, .float .f32 s, .int .i64 r]) w) := by
  go_enter Try.func12, Try.ntmps12
  go_wp2
  refine bodyPost_ret (v := .agg #[.int .i64 n, .int .i64 d, .float .f32 s, .int .i64 r]) ?_ rfl ⟨rfl, ?_⟩
  · simp [results, Try.results12, go_sem]
  · (repeat (first | exact Below.refl _ _ | (with_reducible assumption) | refine below_drewN ?_ _ | refine Below.drew ?_ | refine Below.alloc ?_ (by simp; try omega) _))
set_option maxHeartbeats 400000 in
theorem toOscillator (n : Int) (s p : Nat) (w : World) : Calls Try.prog 15 #[.agg #[.int .i64 n, .float .f32 s, .float .f32 p]] w (RV (.agg #[.int .i64 n, .float .f32 s, .float .f32 p]) w) := by
  go_enter Try.func15, Try.ntmps15
  go_wp2
  refine bodyPost_ret (v := .agg #[.int .i64 n, .float .f32 s, .float .f32 p]) ?_ rfl ⟨rfl, ?_⟩
  · simp [results, Try.results15, go_sem]
  · (repeat (first | exact Below.refl _ _ | (with_reducible assumption) | refine below_drewN ?_ _ | refine Below.drew ?_ | refine Below.alloc ?_ (by simp; try omega) _))

def inC (n low high : Int) : Bool := decide (low ≤ n) && decide (n ≤ high)
set_option maxHeartbeats 400000 in
theorem spec_l00In (n low high : Int) (w : World) : Calls Try.prog 31 #[.int .i64 n, .int .i64 low, .int .i64 high] w fun e w' => e = .returned (.bool (inC n low high)) ∧ w = w' := by
  unfold inC
  go_enter Try.func31, Try.ntmps31
  go_wp2
  all_goals (go_ret; exact ⟨by simp_all <;> omega, rfl⟩)
set_option maxHeartbeats 400000 in
theorem impl_within (n low high : Int) (w : World) : Calls Try.prog 29 #[.int .i64 n, .int .i64 low, .int .i64 high] w fun e w' => e = .returned (.bool (inC n low high)) ∧ w = w' := by
  unfold inC
  go_enter Try.func29, Try.ntmps29
  go_wp2
  all_goals (go_ret; exact ⟨by simp_all <;> omega, rfl⟩)
set_option maxHeartbeats 400000 in
theorem spec_l03Length (n : Int) (w : World) : Calls Try.prog 22 #[.int .i64 n] w fun e w' => e = .returned (.bool (inC n 1 64)) ∧ w = w' := by
  go_enter Try.func22, Try.ntmps22
  go_wp2_with ((go_at_call 31; refine (spec_l00In _ _ _ _).mono ?_; rintro e w' ⟨rfl, rfl⟩))
  go_ret
  exact ⟨rfl, rfl⟩
set_option maxHeartbeats 400000 in
theorem impl_isLength (n : Int) (w : World) : Calls Try.prog 23 #[.int .i64 n] w fun e w' => e = .returned (.bool (inC n 1 64)) ∧ w = w' := by
  go_enter Try.func23, Try.ntmps23
  go_wp2_with ((go_at_call 29; refine (impl_within _ _ _ _).mono ?_; rintro e w' ⟨rfl, rfl⟩))
  go_ret
  exact ⟨rfl, rfl⟩
set_option maxHeartbeats 400000 in
theorem impl_isHeld (n : Int) (w : World) : Calls Try.prog 25 #[.int .i64 n] w fun e w' => e = .returned (.bool (inC n 0 1000)) ∧ w = w' := by
  go_enter Try.func25, Try.ntmps25
  go_wp2_with ((go_at_call 29; refine (impl_within _ _ _ _).mono ?_; rintro e w' ⟨rfl, rfl⟩))
  go_ret
  exact ⟨rfl, rfl⟩
set_option maxHeartbeats 400000 in
theorem impl_isKind (n : Int) (w : World) : Calls Try.prog 27 #[.int .i64 n] w fun e w' => e = .returned (.bool (inC n 0 3)) ∧ w = w' := by
  go_enter Try.func27, Try.ntmps27
  go_wp2_with ((go_at_call 29; refine (impl_within _ _ _ _).mono ?_; rintro e w' ⟨rfl, rfl⟩))
  go_ret
  exact ⟨rfl, rfl⟩
set_option maxHeartbeats 400000 in
theorem spec_l05Kind (n : Int) (w : World) : Calls Try.prog 32 #[.int .i64 n] w fun e w' => e = .returned (.bool (inC n 0 3)) ∧ w = w' := by
  go_enter Try.func32, Try.ntmps32
  go_wp2_with ((go_at_call 31; refine (spec_l00In _ _ _ _).mono ?_; rintro e w' ⟨rfl, rfl⟩))
  go_ret
  exact ⟨rfl, rfl⟩
set_option maxHeartbeats 400000 in
theorem spec_ValidDelay (n : Int) (f d x : Nat) (b : Bool) (w : World) : Calls Try.prog 8 #[.agg #[.int .i64 n, .float .f32 f, .float .f32 d, .float .f32 x, .bool b]] w (RV (.bool (inC n 1 64)) w) := by
  go_enter Try.func8, Try.ntmps8
  go_wp2_with (go_at_call 22; refine (spec_l03Length _ _).mono ?_; rintro e w' ⟨rfl, rfl⟩)
  go_ret
  refine ⟨rfl, ?_⟩
  (repeat (first | exact Below.refl _ _ | (with_reducible assumption) | refine below_drewN ?_ _ | refine Below.drew ?_ | refine Below.alloc ?_ (by simp; try omega) _))
set_option maxHeartbeats 400000 in
theorem impl_ValidDelay (n : Int) (f d x : Nat) (b : Bool) (w : World) : Calls Try.prog 10 #[.agg #[.int .i64 n, .float .f32 f, .float .f32 d, .float .f32 x, .bool b]] w (RV (.bool (inC n 1 64)) w) := by
  go_enter Try.func10, Try.ntmps10
  go_wp2_with (go_at_call 23; refine (impl_isLength _ _).mono ?_; rintro e w' ⟨rfl, rfl⟩)
  go_ret
  refine ⟨rfl, ?_⟩
  (repeat (first | exact Below.refl _ _ | (with_reducible assumption) | refine below_drewN ?_ _ | refine Below.drew ?_ | refine Below.alloc ?_ (by simp; try omega) _))
set_option maxHeartbeats 400000 in
theorem validDelay_walk (n : Int) (f d x : Nat) (b : Bool) (w : World) (h0 : (Lit.int .i64 n).wf = true) (h1 : f < 2 ^ FloatKind.f32.format.width) (h2 : d < 2 ^ FloatKind.f32.format.width) (h3 : x < 2 ^ FloatKind.f32.format.width) : Calls Try.prog 3 #[.agg #[.int .i64 n, .float .f32 f, .float .f32 d, .float .f32 x, .bool b]] w fun e w' => e = .returned (.bool true) ∧ Below w.heap.size w w' := by
  go_enter Try.func3, Try.ntmps3
  go_wp2_with fail
  refine (toDelay _ _ _ _ _ _).mono ?_
  rintro e w1 ⟨rfl, hb1⟩
  obtain ⟨hc1, hf1⟩ := bcell hb1
  have hz1 : w.heap.size < w1.heap.size := by have := hb1.size; simp at this; omega
  go_wp2_with fail
  refine (spec_ValidDelay _ _ _ _ _ _).mono ?_
  rintro e w2 ⟨rfl, hb2⟩
  obtain ⟨hc2, hf2⟩ := bcell hb2
  have hz2 : w.heap.size < w2.heap.size := by have := hb2.size; omega
  go_wp2_with fail
  refine (toDelay _ _ _ _ _ _).mono ?_
  rintro e w3 ⟨rfl, hb3⟩
  obtain ⟨hc3, hf3⟩ := bcell hb3
  have hz3 : w.heap.size < w3.heap.size := by have := hb3.size; omega
  go_wp2_with fail
  refine (impl_ValidDelay _ _ _ _ _ _).mono ?_
  rintro e w4 ⟨rfl, hb4⟩
  go_wp2_with fail
  go_ret
  refine ⟨rfl, ?_⟩
  exact below_next (below_next (below_next (below_next ((Below.refl _ w).alloc (Nat.le_refl _) _) (by simp) hb1) (by omega) hb2) (by omega) hb3) (by omega) hb4

/-! ### Envelopes -/
def envC (n d r : Int) : Bool := inC n 0 1000 && inC d 0 1000 && inC r 0 1000
set_option maxHeartbeats 400000 in
theorem impl_ValidEnvelope (n d r : Int) (s : Nat) (w : World) : Calls Try.prog 13 #[.agg #[.int .i64 n, .int .i64 d, .float .f32 s, .int .i64 r]] w (RV (.bool (envC n d r)) w) := by
  unfold envC
  go_enter Try.func13, Try.ntmps13
  go_wp2_with (go_at_call 25; refine (impl_isHeld _ _).mono ?_; rintro e w' ⟨rfl, rfl⟩)
  all_goals
    go_ret
    refine ⟨ret_bool (by simp_all), ?_⟩
    (repeat (first | exact Below.refl _ _ | (with_reducible assumption) | refine below_drewN ?_ _ | refine Below.drew ?_ | refine Below.alloc ?_ (by simp; try omega) _))
set_option maxHeartbeats 400000 in
theorem spec_l05Envelope (n d r : Int) (b : Nat) (w : World) (h0 : w.cell? ⟨b, 0, none⟩ = some (.int .i64 n)) (h1 : w.cell? ⟨b, 1, none⟩ = some (.int .i64 d)) (h3 : w.cell? ⟨b, 3, none⟩ = some (.int .i64 r)) : Calls Try.prog 24 #[.pointer (some ⟨b, 0, none⟩)] w (RV (.bool (envC n d r)) w) := by
  unfold envC
  go_enter Try.func24, Try.ntmps24
  go_wp2_with (go_at_call 31; refine (spec_l00In _ _ _ _).mono ?_; rintro e w' ⟨rfl, rfl⟩)
  all_goals
    go_ret
    refine ⟨ret_bool (by simp_all), ?_⟩
    (repeat (first | exact Below.refl _ _ | (with_reducible assumption) | refine below_drewN ?_ _ | refine Below.drew ?_ | refine Below.alloc ?_ (by simp; try omega) _))
set_option maxHeartbeats 400000 in
theorem spec_ValidEnvelope (n d r : Int) (s : Nat) (w : World) : Calls Try.prog 11 #[.agg #[.int .i64 n, .int .i64 d, .float .f32 s, .int .i64 r]] w (RV (.bool (envC n d r)) w) := by
  go_enter Try.func11, Try.ntmps11
  go_wp2_with fail
  refine (spec_l05Envelope n d r _ _ (by simp [go_sem]) (by simp [go_sem]) (by simp [go_sem])).mono ?_
  rintro e w1 ⟨rfl, hb1⟩
  go_wp2_with fail
  go_ret
  refine ⟨rfl, ?_⟩
  exact below_next ((Below.refl _ w).alloc (Nat.le_refl _) _) (by simp) hb1
set_option maxHeartbeats 400000 in
theorem validEnvelope_walk (n d : Int) (s : Nat) (r : Int) (w : World) (h0 : (Lit.int .i64 n).wf = true) (h1 : (Lit.int .i64 d).wf = true) (h2 : s < 2 ^ FloatKind.f32.format.width) (h3 : (Lit.int .i64 r).wf = true) : Calls Try.prog 4 #[.agg #[.int .i64 n, .int .i64 d, .float .f32 s, .int .i64 r]] w fun e w' => e = .returned (.bool true) ∧ Below w.heap.size w w' := by
  go_enter Try.func4, Try.ntmps4
  go_wp2_with fail
  refine (toEnvelope _ _ _ _ _).mono ?_
  rintro e w1 ⟨rfl, hb1⟩
  obtain ⟨hc1, hf1⟩ := bcell hb1
  have hz1 : w.heap.size < w1.heap.size := by have := hb1.size; simp at this; omega
  go_wp2_with fail
  refine (spec_ValidEnvelope _ _ _ _ _).mono ?_
  rintro e w2 ⟨rfl, hb2⟩
  obtain ⟨hc2, hf2⟩ := bcell hb2
  have hz2 : w.heap.size < w2.heap.size := by have := hb2.size; omega
  go_wp2_with fail
  refine (toEnvelope _ _ _ _ _).mono ?_
  rintro e w3 ⟨rfl, hb3⟩
  obtain ⟨hc3, hf3⟩ := bcell hb3
  have hz3 : w.heap.size < w3.heap.size := by have := hb3.size; omega
  go_wp2_with fail
  refine (impl_ValidEnvelope _ _ _ _ _).mono ?_
  rintro e w4 ⟨rfl, hb4⟩
  go_wp2_with fail
  go_ret
  refine ⟨rfl, ?_⟩
  exact below_next (below_next (below_next (below_next ((Below.refl _ w).alloc (Nat.le_refl _) _) (by simp) hb1) (by omega) hb2) (by omega) hb3) (by omega) hb4

/-! ### Oscillators -/
def turnC (X : Option Nat) : Bool := (ford .f32 X (some 0) == some .gt || ford .f32 X (some 0) == some .eq) && ford .f32 X (some 1065353216) == some .lt
set_option maxHeartbeats 400000 in
theorem impl_isPhase {x : Nat} {X : Option Nat} (hx : Fl .f32 x X) (w : World) : Calls Try.prog 28 #[.float .f32 x] w fun e w' => e = .returned (.bool (turnC X)) ∧ w = w' := by
  have h1 := Fl.ord hx (.of_lit (k := .f32) (b := 0) (by decide) (by decide))
  have h2 := Fl.ord hx (.of_lit (k := .f32) (b := 1065353216) (by decide) (by decide))
  unfold turnC
  go_enter Try.func28, Try.ntmps28
  go_wp2_with fail
  all_goals (go_ret; exact ⟨ret_bool (by simp_all), rfl⟩)
set_option maxHeartbeats 400000 in
theorem spec_l05Turn {x : Nat} {X : Option Nat} (hx : Fl .f32 x X) (w : World) : Calls Try.prog 33 #[.float .f32 x] w fun e w' => e = .returned (.bool (turnC X)) ∧ w = w' := by
  have h1 := Fl.ord hx (.of_lit (k := .f32) (b := 0) (by decide) (by decide))
  have h2 := Fl.ord hx (.of_lit (k := .f32) (b := 1065353216) (by decide) (by decide))
  unfold turnC
  go_enter Try.func33, Try.ntmps33
  go_wp2_with fail
  all_goals (go_ret; exact ⟨ret_bool (by simp_all), rfl⟩)
def oscC (n : Int) (S P : Option Nat) : Bool := inC n 0 3 && turnC S && turnC P
set_option maxHeartbeats 400000 in
theorem impl_ValidOscillator {n : Int} {s p : Nat} {S P : Option Nat} (hs : Fl .f32 s S) (hp : Fl .f32 p P) (w : World) : Calls Try.prog 16 #[.agg #[.int .i64 n, .float .f32 s, .float .f32 p]] w (RV (.bool (oscC n S P)) w) := by
  unfold oscC
  go_enter Try.func16, Try.ntmps16
  go_wp2_with (first | (go_at_call 27; refine (impl_isKind _ _).mono ?_; rintro e w' ⟨rfl, rfl⟩) | (go_at_call 28; refine (impl_isPhase (by assumption) _).mono ?_; rintro e w' ⟨rfl, rfl⟩))
  all_goals
    go_ret
    refine ⟨ret_bool (by simp_all), ?_⟩
    (repeat (first | exact Below.refl _ _ | (with_reducible assumption) | refine below_drewN ?_ _ | refine Below.drew ?_ | refine Below.alloc ?_ (by simp; try omega) _))
set_option maxHeartbeats 400000 in
theorem spec_l05Is {n : Int} {s p : Nat} {S P : Option Nat} (hs : Fl .f32 s S) (hp : Fl .f32 p P) (b : Nat) (w : World) (h0 : w.cell? ⟨b, 0, none⟩ = some (.int .i64 n)) (h1 : w.cell? ⟨b, 1, none⟩ = some (.float .f32 s)) (h3 : w.cell? ⟨b, 2, none⟩ = some (.float .f32 p)) : Calls Try.prog 26 #[.pointer (some ⟨b, 0, none⟩)] w (RV (.bool (oscC n S P)) w) := by
  unfold oscC
  go_enter Try.func26, Try.ntmps26
  go_wp2_with (first | (go_at_call 32; refine (spec_l05Kind _ _).mono ?_; rintro e w' ⟨rfl, rfl⟩) | (go_at_call 33; refine (spec_l05Turn (by assumption) _).mono ?_; rintro e w' ⟨rfl, rfl⟩))
  all_goals
    go_ret
    refine ⟨ret_bool (by simp_all), ?_⟩
    (repeat (first | exact Below.refl _ _ | (with_reducible assumption) | refine below_drewN ?_ _ | refine Below.drew ?_ | refine Below.alloc ?_ (by simp; try omega) _))
set_option maxHeartbeats 400000 in
theorem spec_ValidOscillator {n : Int} {s p : Nat} {S P : Option Nat} (hs : Fl .f32 s S) (hp : Fl .f32 p P) (w : World) : Calls Try.prog 14 #[.agg #[.int .i64 n, .float .f32 s, .float .f32 p]] w (RV (.bool (oscC n S P)) w) := by
  go_enter Try.func14, Try.ntmps14
  go_wp2_with fail
  refine (spec_l05Is (n := n) hs hp _ _ (by simp [go_sem]) (by simp [go_sem]) (by simp [go_sem])).mono ?_
  rintro e w1 ⟨rfl, hb1⟩
  go_wp2_with fail
  go_ret
  refine ⟨rfl, ?_⟩
  exact below_next ((Below.refl _ w).alloc (Nat.le_refl _) _) (by simp) hb1
set_option maxHeartbeats 400000 in
theorem validOscillator_walk (n : Int) (s p : Nat) (w : World) (h0 : (Lit.int .i64 n).wf = true) (hs : s < 2 ^ FloatKind.f32.format.width) (hp : p < 2 ^ FloatKind.f32.format.width) : Calls Try.prog 5 #[.agg #[.int .i64 n, .float .f32 s, .float .f32 p]] w fun e w' => e = .returned (.bool true) ∧ Below w.heap.size w w' := by
  go_enter Try.func5, Try.ntmps5
  go_wp2_with fail
  refine (toOscillator _ _ _ _).mono ?_
  rintro e w1 ⟨rfl, hb1⟩
  obtain ⟨hc1, hf1⟩ := bcell hb1
  have hz1 : w.heap.size < w1.heap.size := by have := hb1.size; simp at this; omega
  go_wp2_with fail
  refine (spec_ValidOscillator (Fl.self hs) (Fl.self hp) _).mono ?_
  rintro e w2 ⟨rfl, hb2⟩
  obtain ⟨hc2, hf2⟩ := bcell hb2
  have hz2 : w.heap.size < w2.heap.size := by have := hb2.size; omega
  go_wp2_with fail
  refine (toOscillator _ _ _ _).mono ?_
  rintro e w3 ⟨rfl, hb3⟩
  obtain ⟨hc3, hf3⟩ := bcell hb3
  have hz3 : w.heap.size < w3.heap.size := by have := hb3.size; omega
  go_wp2_with fail
  refine (impl_ValidOscillator (Fl.self hs) (Fl.self hp) _).mono ?_
  rintro e w4 ⟨rfl, hb4⟩
  go_wp2_with fail
  go_ret
  refine ⟨rfl, ?_⟩
  exact below_next (below_next (below_next (below_next ((Below.refl _ w).alloc (Nat.le_refl _) _) (by simp) hb1) (by omega) hb2) (by omega) hb3) (by omega) hb4
end Go.Proofs.Ytjodoohmlkdlfab
