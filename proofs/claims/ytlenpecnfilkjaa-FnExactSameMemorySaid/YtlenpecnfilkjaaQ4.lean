/- The walk of the law on memories that are the same: the law. Conditions: none. -/
import Derived.Test.YtlenpecnfilkjaaQ3
set_option linter.unusedVariables false
set_option linter.unusedSimpArgs false
namespace Go.Proofs.Ytlenpecnfilkjaa
open Go.RowKit
structure TwoM (w W : World) (a b c d a' b' c' d' : Nat) : Prop where
  below : Below w.heap.size w W
  size : w.heap.size + 2 ≤ W.heap.size
  p0 : W.cell? ⟨w.heap.size, 0, none⟩ = some (.float .f32 a)
  p1 : W.cell? ⟨w.heap.size, 1, none⟩ = some (.float .f32 b)
  p2 : W.cell? ⟨w.heap.size, 2, none⟩ = some (.float .f32 c)
  p3 : W.cell? ⟨w.heap.size, 3, none⟩ = some (.float .f32 d)
  q0 : W.cell? ⟨w.heap.size + 1, 0, none⟩ = some (.float .f32 a')
  q1 : W.cell? ⟨w.heap.size + 1, 1, none⟩ = some (.float .f32 b')
  q2 : W.cell? ⟨w.heap.size + 1, 2, none⟩ = some (.float .f32 c')
  q3 : W.cell? ⟨w.heap.size + 1, 3, none⟩ = some (.float .f32 d')
theorem TwoM.next {w W W' : World} {a b c d a' b' c' d' : Nat} (T : TwoM w W a b c d a' b' c' d') (h : Below W.heap.size W W') : TwoM w W' a b c d a' b' c' d' := by
  have hz := T.size
  have h1 : w.heap.size < W.heap.size := by omega
  have h2 : w.heap.size + 1 < W.heap.size := by omega
  exact ⟨below_next T.below (by omega) h, Nat.le_trans hz h.size, (cell_below h h1).trans T.p0, (cell_below h h1).trans T.p1, (cell_below h h1).trans T.p2, (cell_below h h1).trans T.p3, (cell_below h h2).trans T.q0, (cell_below h h2).trans T.q1, (cell_below h h2).trans T.q2, (cell_below h h2).trans T.q3⟩
theorem TwoM.nextD {w W W' : World} {a b c d a' b' c' d' : Nat} (T : TwoM w W a b c d a' b' c' d') (h : Below W.drew.heap.size W.drew W') : TwoM w W' a b c d a' b' c' d' := T.next (below_undrawn (m := 1) h)
theorem TwoM.start (w : World) (a b c d a' b' c' d' : Nat) (e e' : TypeId) : TwoM w ((w.alloc (.cells #[.float .f32 a, .float .f32 b, .float .f32 c, .float .f32 d] e)).alloc (.cells #[.float .f32 a', .float .f32 b', .float .f32 c', .float .f32 d'] e')) a b c d a' b' c' d' := by
  refine ⟨((Below.refl _ w).alloc (Nat.le_refl _) _).alloc (by simp) _, by simp, ?_, ?_, ?_, ?_, ?_, ?_, ?_, ?_⟩ <;> simp [go_sem]
set_option maxHeartbeats 4000000 in
set_option maxRecDepth 100000 in
theorem sameMemory_walk (a b c d a' b' c' d' : Nat) (w : World) (wa : a < 2 ^ FloatKind.f32.format.width) (wb : b < 2 ^ FloatKind.f32.format.width) (wc : c < 2 ^ FloatKind.f32.format.width) (wd : d < 2 ^ FloatKind.f32.format.width) (wa_ : a' < 2 ^ FloatKind.f32.format.width) (wb_ : b' < 2 ^ FloatKind.f32.format.width) (wc_ : c' < 2 ^ FloatKind.f32.format.width) (wd_ : d' < 2 ^ FloatKind.f32.format.width) : Calls Try.prog 3 #[.agg #[.float .f32 a, .float .f32 b, .float .f32 c, .float .f32 d], .agg #[.float .f32 a', .float .f32 b', .float .f32 c', .float .f32 d']] w fun e w' => e = .returned (.bool true) ∧ Below w.heap.size w w' := by
  have C1 := fun W => laws_toMemory (a := a) (b := b) (c := c) (d := d) W
  have C2 := fun W => laws_toMemory (a := a') (b := b') (c := c') (d := d') W
  have CS := fun W => spec_SameMemory W (Fl.self wa) (Fl.self wb) (Fl.self wc) (Fl.self wd) (Fl.self wa_) (Fl.self wb_) (Fl.self wc_) (Fl.self wd_)
  have CI := fun W => impl_SameMemory W (Fl.self wa) (Fl.self wb) (Fl.self wc) (Fl.self wd) (Fl.self wa_) (Fl.self wb_) (Fl.self wc_) (Fl.self wd_)
  generalize sameM (cls .f32 a) (cls .f32 b) (cls .f32 c) (cls .f32 d) (cls .f32 a') (cls .f32 b') (cls .f32 c') (cls .f32 d') = r at *
  clear wa wb wc wd wa_ wb_ wc_ wd_
  have T0 := TwoM.start w a b c d a' b' c' d' 24 24
  go_enter Try.func3, Try.ntmps3
  go_wp2_with fail
  generalize (w.alloc _).alloc _ = W0 at *
  have U0 := T0
  obtain ⟨-, z0, p00, p01, p02, p03, q00, q01, q02, q03⟩ := U0
  go_region_with (first
    | (go_at_call 14; (with_reducible refine (C1 _).mono ?_); rintro e W1 ⟨rfl, hb1⟩; have T1 : TwoM w W1 a b c d a' b' c' d' := (by first | exact T0.next hb1 | exact T0.nextD hb1); clear hb1; have U1 := T1; obtain ⟨-, z1, p10, p11, p12, p13, q10, q11, q12, q13⟩ := U1)
    | (go_at_call 14; (with_reducible refine (C2 _).mono ?_); rintro e W2 ⟨rfl, hb2⟩; have T2 : TwoM w W2 a b c d a' b' c' d' := (by first | exact T1.next hb2 | exact T1.nextD hb2); clear hb2; have U2 := T2; obtain ⟨-, z2, p20, p21, p22, p23, q20, q21, q22, q23⟩ := U2)
    | (go_at_call 13; (with_reducible refine (CS _).mono ?_); rintro e W3 ⟨rfl, hb3⟩; have T3 : TwoM w W3 a b c d a' b' c' d' := (by first | exact T2.next hb3 | exact T2.nextD hb3); clear hb3; have U3 := T3; obtain ⟨-, z3, p30, p31, p32, p33, q30, q31, q32, q33⟩ := U3))
  all_goals
    clear z0 p00 p01 p02 p03 q00 q01 q02 q03 T0 z1 p10 p11 p12 p13 q10 q11 q12 q13 T1 z2 p20 p21 p22 p23 q20 q21 q22 q23 T2
    go_wp2_with fail
    go_region_with (first
      | (go_at_call 14; (with_reducible refine (C1 _).mono ?_); rintro e W4 ⟨rfl, hb4⟩; have T4 : TwoM w W4 a b c d a' b' c' d' := (by first | exact T3.next hb4 | exact T3.nextD hb4); clear hb4; have U4 := T4; obtain ⟨-, z4, p40, p41, p42, p43, q40, q41, q42, q43⟩ := U4)
      | (go_at_call 14; (with_reducible refine (C2 _).mono ?_); rintro e W5 ⟨rfl, hb5⟩; have T5 : TwoM w W5 a b c d a' b' c' d' := (by first | exact T4.next hb5 | exact T4.nextD hb5); clear hb5; have U5 := T5; obtain ⟨-, z5, p50, p51, p52, p53, q50, q51, q52, q53⟩ := U5)
      | (go_at_call 15; (with_reducible refine (CI _).mono ?_); rintro e W6 ⟨rfl, hb6⟩; have T6 : TwoM w W6 a b c d a' b' c' d' := (by first | exact T5.next hb6 | exact T5.nextD hb6); clear hb6; have U6 := T6; obtain ⟨-, z6, p60, p61, p62, p63, q60, q61, q62, q63⟩ := U6))
    all_goals
      go_wp2
      go_ret
      exact ⟨rfl, T6.below⟩
end Go.Proofs.Ytlenpecnfilkjaa
