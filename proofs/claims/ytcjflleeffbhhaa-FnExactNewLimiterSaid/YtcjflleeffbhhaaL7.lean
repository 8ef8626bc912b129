/- The walk of the law on empty lines. Conditions: none. -/
import Derived.Test.YtcjflleeffbhhaaL2
import Derived.Test.YtcjflleeffbhhaaS1
set_option linter.unusedVariables false
set_option linter.unusedSimpArgs false
namespace Go.Proofs.Ytcjflleeffbhhaa
open Go.RowKit

set_option maxHeartbeats 400000 in
set_option maxRecDepth 20000 in
theorem spec_l03Length (n : Int) (w : World) :
    Calls Try.prog 69 #[.int .i64 n] w fun e w' => e = .returned (.bool (inC n 1 64)) ∧ w = w' := by
  go_enter Try.func69, Try.ntmps69
  go_wp2_with (go_at_call 63; refine (spec_l00In _).mono ?_; rintro e_ w_ ⟨rfl, rfl⟩)
  all_goals (go_ret; exact ⟨(by first | rfl | exact ret_bool (by simp_all) | exact ret_int (by simp_all) | simp_all), rfl⟩)
set_option maxHeartbeats 400000 in
set_option maxRecDepth 20000 in
theorem impl_isLength (n : Int) (w : World) :
    Calls Try.prog 70 #[.int .i64 n] w fun e w' => e = .returned (.bool (inC n 1 64)) ∧ w = w' := by
  go_enter Try.func70, Try.ntmps70
  go_wp2_with (go_at_call 65; refine (impl_within _).mono ?_; rintro e_ w_ ⟨rfl, rfl⟩)
  all_goals (go_ret; exact ⟨(by first | rfl | exact ret_bool (by simp_all) | exact ret_int (by simp_all) | simp_all), rfl⟩)
theorem clss_zeros (m : Nat) : clss (List.replicate m 0) = List.replicate m (some 0) := by
  have h : cls .f32 0 = some 0 := zero_fl.cl
  simp [clss, h]
set_option maxHeartbeats 400000 in
theorem impl_zeros (m : Nat) (hm : m ≤ 1048576) (w : World) : Calls Try.prog 71 #[.int .i64 (m : Int)] w (RO (List.replicate m (some 0)) w) := by
  have hmk := mk_float (P := Try.prog) 22 23 Try.underlying22 info_f32 .i64 m (by omega)
  go_enter Try.func71, Try.ntmps71
  go_wp2
  go_ret
  exact ⟨_, _, rfl, Ow.made w w.heap.size 23 m (Nat.le_refl _) (by omega), clss_zeros m, (Below.refl _ _).alloc (Nat.le_refl _) _⟩
def emptyC (n : Int) : List (Option Nat) := if inC n 1 64 = true then List.replicate n.toNat (some 0) else []
set_option maxHeartbeats 400000 in
theorem impl_EmptyLine {n : Int} (w : World) : Calls Try.prog 41 #[.int .i64 n] w (RSB (emptyC n) (inC n 1 64) w) := by
  unfold emptyC
  cases c : inC n 1 64 <;> simp only [Bool.false_eq_true, if_true, if_false]
  · go_enter Try.func41, Try.ntmps41
    go_wp2_with (go_at_call 70; refine (impl_isLength _ _).mono ?_; rintro e w' ⟨rfl, rfl⟩)
    go_ret2
    exact ⟨_, _, rfl, .nil _ _ _, rfl, by simp, Below.refl _ _⟩
  · obtain ⟨h0, h1⟩ := (inC_iff _ _ _).1 c
    obtain ⟨m, rfl⟩ : ∃ m : Nat, n = m := ⟨n.toNat, by omega⟩
    go_enter Try.func41, Try.ntmps41
    go_wp2_with (first | (go_at_call 70; refine (impl_isLength _ _).mono ?_; rintro e w' ⟨rfl, rfl⟩) | (go_at_call 71; refine (impl_zeros m (by omega) _).mono ?_; rintro e w' ⟨v1, zs, rfl, ho, hz, hb⟩))
    go_ret2
    exact ⟨_, _, rfl, ho, hz, len_of hz (by rw [List.length_replicate]; omega), hb⟩
set_option maxHeartbeats 400000 in
theorem spec_EmptyLine {n : Int} (w : World) : Calls Try.prog 40 #[.int .i64 n] w (RSB (emptyC n) (inC n 1 64) w) := by
  unfold emptyC
  cases c : inC n 1 64 <;> simp only [Bool.false_eq_true, if_true, if_false]
  · go_enter Try.func40, Try.ntmps40
    go_wp2_with (go_at_call 69; refine (spec_l03Length _ _).mono ?_; rintro e w' ⟨rfl, rfl⟩)
    go_ret2
    exact ⟨_, _, rfl, .nil _ _ _, rfl, by simp, Below.refl _ _⟩
  · obtain ⟨h0, h1⟩ := (inC_iff _ _ _).1 c
    obtain ⟨m, rfl⟩ : ∃ m : Nat, n = m := ⟨n.toNat, by omega⟩
    have hmk := mk_float (P := Try.prog) 22 23 Try.underlying22 info_f32 .i64 m (by omega)
    go_enter Try.func40, Try.ntmps40
    go_wp2_with (go_at_call 69; refine (spec_l03Length _ _).mono ?_; rintro e w' ⟨rfl, rfl⟩)
    go_ret2
    exact ⟨_, _, rfl, Ow.made w w.heap.size 23 m (Nat.le_refl _) (by omega), clss_zeros m, by simp; omega, (Below.refl _ _).alloc (Nat.le_refl _) _⟩
set_option maxHeartbeats 4000000 in
set_option maxRecDepth 100000 in
theorem emptyLine_walk (a0 : Int) (w : World) (w0 : (Lit.int .i64 a0).wf = true) :
    Calls Try.prog 13 #[.int .i64 a0] w fun e w' => e = .returned (.bool true) ∧ Below w.heap.size w w' := by
  clear w0
  have HB0 : Below w.heap.size w w := Below.refl _ _
  have hz0 : w.heap.size ≤ w.heap.size := Nat.le_refl _
  go_enter Try.func13, Try.ntmps13
  go_wp2_with fail
  refine (spec_EmptyLine _ ).mono ?_
  rintro e_ W1 ⟨vw0, zw0, rfl, HOw0, hzw0, hmw0, hb1⟩
  have hs1 : w.heap.size ≤ W1.heap.size := hb1.size
  have HB1 := below_next HB0 hz0 hb1
  have hz1 : w.heap.size ≤ W1.heap.size := Nat.le_trans hz0 hs1
  have HZw0 := Lib.hid hzw0; clear hzw0
  obtain ⟨Aw0, c_w0, rfl⟩ := HOw0.shape
  have ltAw0 := HOw0.lt
  have geAw0 := HOw0.base
  clear hb1
  go_wp2_with fail
  refine (impl_EmptyLine _ ).mono ?_
  rintro e_ W2 ⟨vg0, zg0, rfl, HOg0, hzg0, hmg0, hb2⟩
  have hs2 : W1.heap.size ≤ W2.heap.size := hb2.size
  have HB2 := below_next HB1 hz1 hb2
  have hz2 : w.heap.size ≤ W2.heap.size := Nat.le_trans hz1 hs2
  replace HOw0 := HOw0.below hb2
  have HZg0 := Lib.hid hzg0; clear hzg0
  obtain ⟨Ag0, c_g0, rfl⟩ := HOg0.shape
  have ltAg0 := HOg0.lt
  have geAg0 := HOg0.base
  clear hb2
  go_wp2_with fail
  refine (RB.m (laws_eqFloat32S _ (HOg0.rd rfl) (HOw0.rd rfl) (by rw [HZg0.out, HZw0.out]) (by omega))).mono ?_
  rintro e_ W3 ⟨rfl, hb3⟩
  have hs3 : W2.heap.size ≤ W3.heap.size := hb3.size
  have HB3 := below_next HB2 hz2 hb3
  have hz3 : w.heap.size ≤ W3.heap.size := Nat.le_trans hz2 hs3
  replace HOw0 := HOw0.below hb3
  replace HOg0 := HOg0.below hb3
  clear hb3
  go_wp2_with fail
  refine (laws_markFloat32S _ HOg0 rfl (by omega) (by omega) (by omega)).mono ?_
  clear HOg0
  rintro e_ W4 ⟨rfl, HOg0, hg4⟩
  have hs4 : W3.heap.size ≤ W4.heap.size := hg4.size
  have HB4 := HB3.grown hg4 hz3 (fun k_ e_ => Nat.le_trans hz1 (geAg0 k_ e_))
  have hz4 : w.heap.size ≤ W4.heap.size := Nat.le_trans hz3 hs4
  replace HOw0 := HOw0.other hg4 (own_apart ltAw0 geAg0 (by omega))
  clear hg4
  go_wp2_with fail
  refine (RH.m (laws_heldFloat32S _ (HOg0.rd (marks_length _ _)) (by omega) (by omega) (by omega))).mono ?_
  rintro e_ W5 ⟨rfl, hb5⟩
  have hs5 : W4.heap.size ≤ W5.heap.size := hb5.size
  have HB5 := below_next HB4 hz4 hb5
  have hz5 : w.heap.size ≤ W5.heap.size := Nat.le_trans hz4 hs5
  replace HOw0 := HOw0.below hb5
  replace HOg0 := HOg0.below hb5
  clear hb5
  go_wp2_with fail
  refine (impl_EmptyLine _ ).mono ?_
  rintro e_ W6 ⟨vh0, zh0, rfl, HOh0, hzh0, hmh0, hb6⟩
  have hs6 : W5.heap.size ≤ W6.heap.size := hb6.size
  have HB6 := below_next HB5 hz5 hb6
  have hz6 : w.heap.size ≤ W6.heap.size := Nat.le_trans hz5 hs6
  replace HOw0 := HOw0.below hb6
  replace HOg0 := HOg0.below hb6
  have HZh0 := Lib.hid hzh0; clear hzh0
  obtain ⟨Ah0, c_h0, rfl⟩ := HOh0.shape
  have ltAh0 := HOh0.lt
  have geAh0 := HOh0.base
  clear hb6
  go_wp2_with fail
  refine (RB.m (laws_eqFloat32S _ (HOh0.rd rfl) (HOw0.rd rfl) (by rw [HZh0.out, HZw0.out]) (by omega))).mono ?_
  rintro e_ W7 ⟨rfl, hb7⟩
  have hs7 : W6.heap.size ≤ W7.heap.size := hb7.size
  have HB7 := below_next HB6 hz6 hb7
  have hz7 : w.heap.size ≤ W7.heap.size := Nat.le_trans hz6 hs7
  replace HOw0 := HOw0.below hb7
  replace HOg0 := HOg0.below hb7
  replace HOh0 := HOh0.below hb7
  clear hb7
  go_wp2_with fail
  refine (RH.m (laws_heldFloat32S _ (HOg0.rd (marks_length _ _)) (by omega) (by omega) (by omega))).mono ?_
  rintro e_ W8 ⟨rfl, hb8⟩
  have hs8 : W7.heap.size ≤ W8.heap.size := hb8.size
  have HB8 := below_next HB7 hz7 hb8
  have hz8 : w.heap.size ≤ W8.heap.size := Nat.le_trans hz7 hs8
  replace HOw0 := HOw0.below hb8
  replace HOg0 := HOg0.below hb8
  replace HOh0 := HOh0.below hb8
  clear hb8
  go_wp2_with fail
  go_ret
  exact ⟨rfl, HB8⟩
end Go.Proofs.Ytcjflleeffbhhaa
