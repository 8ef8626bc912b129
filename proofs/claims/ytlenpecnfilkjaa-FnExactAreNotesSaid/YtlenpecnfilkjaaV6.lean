/- The walk of the law on notes. Conditions: none. -/
import Derived.Test.YtlenpecnfilkjaaV5
set_option linter.unusedVariables false
set_option linter.unusedSimpArgs false
namespace Go.Proofs.Ytlenpecnfilkjaa
open Go.RowKit
set_option maxHeartbeats 1600000 in
theorem areNotes_walk (a : Option Addr) (n c : Nat) (l : List Value) (w : World) (wr0 : Row w [.i64, .i64, .i64, .f32] a n l) : Calls Try.prog 8 #[.slice a n c] w fun e w' => e = .returned (.bool true) ∧ Below w.heap.size w w' := by
  obtain ⟨f0, f1, f2, f3, h⟩ := wr0.rdNote
  have hm := h.most
  rcases Nat.lt_or_ge 1048576 n with hn | hn
  · have hc : ((1048576 : Int) < (n : Int)) := by omega
    go_enter Try.func8, Try.ntmps8
    go_wp2_with fail
    refine (laws_szNoteS _ (by omega) hm).mono ?_
    rintro e w' ⟨rfl, rfl⟩
    rw [if_pos (by omega : ((1048576 : Int) < (n : Int)))]
    go_wp2_with fail
    go_ret
    exact ⟨rfl, Below.refl _ _⟩
  have hc : ¬ ((1048576 : Int) < (n : Int)) := by omega
  have hc2 : ¬ ((1048576 : Int) - (n : Int) < 0) := by omega
  have HB0 : Below w.heap.size w w := Below.refl _ _
  have hz0 : w.heap.size ≤ w.heap.size := Nat.le_refl _
  go_enter Try.func8, Try.ntmps8
  go_wp2_with fail
  refine (laws_szNoteS _ (by omega) hm).mono ?_
  rintro e w' ⟨rfl, rfl⟩
  rw [if_neg (by omega : ¬ ((1048576 : Int) < (n : Int)))]
  go_wp2_with fail
  refine (laws_toNoteS _ (h.below HB0) hn).mono ?_
  rintro e W1 ⟨A1, c1_, rfl, R1, b1⟩
  have HB1 := below_next HB0 hz0 b1
  have hz1 := Nat.le_trans hz0 b1.size
  clear b1
  go_wp2_with fail
  refine (spec_AreNotes _ R1 hn).mono ?_
  rintro e W1s ⟨rfl, b1s⟩
  replace HB1 := below_next HB1 hz1 b1s
  replace hz1 := Nat.le_trans hz1 b1s.size
  clear b1s
  go_wp2_with fail
  refine (laws_toNoteS _ (h.below HB1) hn).mono ?_
  rintro e W2 ⟨A2, c2_, rfl, R2, b2⟩
  have HB2 := below_next HB1 hz1 b2
  have hz2 := Nat.le_trans hz1 b2.size
  clear b2
  go_wp2_with fail
  refine (impl_AreNotes _ R2 hn).mono ?_
  rintro e W3 ⟨rfl, b3⟩
  have HB3 := below_next HB2 hz2 b3
  have hz3 := Nat.le_trans hz2 b3.size
  replace R2 := R2.below b3
  clear b3
  go_wp2_with fail
  refine (laws_toNoteS _ (h.below HB3) hn).mono ?_
  rintro e W4 ⟨A4, c4_, rfl, R4, b4⟩
  have HB4 := below_next HB3 hz3 b4
  have hz4 := Nat.le_trans hz3 b4.size
  go_wp2_with fail
  refine (laws_eqNoteS _ (R2.below b4) R4 hn).mono ?_
  rintro e W9 ⟨rfl, b9⟩
  have HB9 := below_next HB4 hz4 b9
  clear b9
  go_wp2_with fail
  go_ret
  exact ⟨rfl, HB9⟩
end Go.Proofs.Ytlenpecnfilkjaa
