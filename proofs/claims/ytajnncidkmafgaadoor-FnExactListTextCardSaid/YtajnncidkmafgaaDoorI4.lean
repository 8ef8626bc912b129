/- The law on texts of lists of whole numbers. Conditions: none beside the given statement's own. -/
import Derived.Test.YtajnncidkmafgaaDoorI3
set_option linter.unusedVariables false
set_option linter.unusedSimpArgs false
namespace Go.Proofs.YtajnncidkmafgaaDoor
open Go.RowKit
set_option maxHeartbeats 4000000 in
set_option maxRecDepth 100000 in
theorem listText_walk (a0 : Option Addr) (n0 c0 : Nat) (l0 : List Value) (w : World) (w0 : Row w [.i64] a0 n0 l0) (ht : Pow w) :
    Calls Tryd.prog 4 #[.slice a0 n0 c0] w fun e w' => e = .returned (.bool true) ∧ Below w.heap.size w w' := by
  obtain ⟨x0, h0⟩ := w0.rdI
  rcases Nat.lt_or_ge 1048576 n0 with hn0 | hn0
  · go_enter Tryd.func4, Tryd.ntmps4
    go_wp2_with fail
    go_ret
    exact ⟨rfl, by (repeat (first | exact Below.refl _ _ | (with_reducible assumption) | refine below_drewN ?_ _ | refine Below.drew ?_ | refine Below.alloc ?_ (by simp; try omega) _))⟩
  have hl0 := h0.len
  have HL0 := Lib.hid hl0; clear hl0
  have HT := Lib.hid ht; clear ht
  have HB0 : Below w.heap.size w w := Below.refl _ _
  have hz0 : w.heap.size ≤ w.heap.size := Nat.le_refl _
  go_enter Tryd.func4, Tryd.ntmps4
  go_wp2_with fail
  refine (laws_toInt64S _ (h0.below HB0) hn0).mono ?_
  rintro e_ W1 ⟨v1, rfl, HO1, hb1⟩
  obtain ⟨A1, c_1, rfl⟩ := HO1.shape_n HL0.out
  have hs1 : w.heap.size ≤ W1.heap.size := hb1.size
  have HB1 := below_next HB0 hz0 hb1
  have hz1 : w.heap.size ≤ W1.heap.size := Nat.le_trans hz0 hs1
  have ltA1 := HO1.lt
  have geA1 := HO1.base
  clear hb1
  go_wp2_with fail
  refine (spec_ListText _ (HO1.rd HL0.out) hn0).mono ?_
  rintro e_ W2 ⟨rfl, hb2⟩
  have hs2 : W1.heap.size ≤ W2.heap.size := hb2.size
  have HB2 := below_next HB1 hz1 hb2
  have hz2 : w.heap.size ≤ W2.heap.size := Nat.le_trans hz1 hs2
  replace HO1 := HO1.below hb2
  clear hb2
  go_wp2_with fail
  refine (laws_toInt64S _ (h0.below HB2) hn0).mono ?_
  rintro e_ W3 ⟨v2, rfl, HO2, hb3⟩
  obtain ⟨A2, c_2, rfl⟩ := HO2.shape_n HL0.out
  have hs3 : W2.heap.size ≤ W3.heap.size := hb3.size
  have HB3 := below_next HB2 hz2 hb3
  have hz3 : w.heap.size ≤ W3.heap.size := Nat.le_trans hz2 hs3
  replace HO1 := HO1.below hb3
  have ltA2 := HO2.lt
  have geA2 := HO2.base
  clear hb3
  go_wp2_with fail
  refine (impl_ListText _ (HO2.rd HL0.out) hn0 (HT.out.below HB3)).mono ?_
  rintro e_ W4 ⟨rfl, hb4⟩
  have hs4 : W3.heap.size ≤ W4.heap.size := hb4.size
  have HB4 := below_next HB3 hz3 hb4
  have hz4 : w.heap.size ≤ W4.heap.size := Nat.le_trans hz3 hs4
  replace HO1 := HO1.below hb4
  replace HO2 := HO2.below hb4
  clear hb4
  go_wp2_with fail
  refine (laws_toInt64S _ (h0.below HB4) hn0).mono ?_
  rintro e_ W5 ⟨v3, rfl, HO3, hb5⟩
  obtain ⟨A3, c_3, rfl⟩ := HO3.shape_n HL0.out
  have hs5 : W4.heap.size ≤ W5.heap.size := hb5.size
  have HB5 := below_next HB4 hz4 hb5
  have hz5 : w.heap.size ≤ W5.heap.size := Nat.le_trans hz4 hs5
  replace HO1 := HO1.below hb5
  replace HO2 := HO2.below hb5
  have ltA3 := HO3.lt
  have geA3 := HO3.base
  clear hb5
  go_wp2_with fail
  refine (RB.m (laws_eqInt64S _ (HO2.rd HL0.out) (HO3.rd HL0.out) rfl (by omega))).mono ?_
  rintro e_ W6 ⟨rfl, hb6⟩
  have hs6 : W5.heap.size ≤ W6.heap.size := hb6.size
  have HB6 := below_next HB5 hz5 hb6
  have hz6 : w.heap.size ≤ W6.heap.size := Nat.le_trans hz5 hs6
  replace HO1 := HO1.below hb6
  replace HO2 := HO2.below hb6
  replace HO3 := HO3.below hb6
  clear hb6
  go_wp2_with fail
  go_ret
  exact ⟨rfl, HB6⟩
theorem listText_law (a0 : Option Addr) (n0 c0 : Nat) (l0 : List Value) (W : World) (w0 : Row W [.i64] a0 n0 l0) (hL : laidMetH Tryd.prog Rows.fnExactListTextRow.laid W) (hsh : W.ShapedOpen Tryd.prog) :
    Calls Tryd.prog 4 #[.slice a0 n0 c0] W fun e w' => e = .returned (.bool true) ∧ Below W.heap.size W w' := by
  rw [MakeChecks.laidMetH_plain _ _ _ (by kernel_rfl)] at hL
  exact listText_walk a0 n0 c0 l0 W w0 (pow_of hL.tail.tail)
end Go.Proofs.YtajnncidkmafgaaDoor
