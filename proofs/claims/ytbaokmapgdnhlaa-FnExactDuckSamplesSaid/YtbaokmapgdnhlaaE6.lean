/- The laws on squeezes: their words. Conditions: none beside the contracts' own. -/
import Derived.Test.YtbaokmapgdnhlaaE5
import Derived.Deep.CutRange
set_option linter.unusedVariables false
set_option linter.unusedSimpArgs false
namespace Go.Proofs.Ytbaokmapgdnhlaa
open Go.RowKit
set_option maxHeartbeats 800000 in
theorem laws_toFollower {a b c : Nat} (w : World) : Calls Try.prog 37 #[.agg #[.float .f32 a, .float .f32 b, .float .f32 c]] w (RV (.agg #[.float .f32 a, .float .f32 b, .float .f32 c]) w) := by
  go_enter Try.func37, Try.ntmps37
  go_wp2
  refine bodyPost_ret (v := .agg #[.float .f32 a, .float .f32 b, .float .f32 c]) ?_ rfl ⟨rfl, ?_⟩
  · simp [results, Try.results37, go_sem]
  · (repeat (first | exact Below.refl _ _ | (with_reducible assumption) | refine below_drewN ?_ _ | refine Below.drew ?_ | refine Below.alloc ?_ (by simp; try omega) _))
set_option maxHeartbeats 800000 in
theorem laws_eqFollower {a b c a' b' c' : Nat} {A B C : Option Nat} (w : World) (ha : Fl .f32 a A) (hb : Fl .f32 b B) (hc : Fl .f32 c C) (ha' : Fl .f32 a' A) (hb' : Fl .f32 b' B) (hc' : Fl .f32 c' C) :
    Calls Try.prog 39 #[.agg #[.float .f32 a, .float .f32 b, .float .f32 c], .agg #[.float .f32 a', .float .f32 b', .float .f32 c']] w (RV (.bool true) w) := by
  have hal := fun o o' m => below_drewN (((Below.refl _ w).alloc (Nat.le_refl _) o).alloc (by simp) o') m
  go_enter Try.func39, Try.ntmps39
  go_wp2_with fail
  refine (laws_sameFloat (ha.cw _) (ha'.cw _) _).mono ?_; rintro e w' ⟨rfl, q1, rfl⟩
  go_wp2_with fail
  refine (laws_sameFloat (hb.cw _) (hb'.cw _) _).mono ?_; rintro e w' ⟨rfl, q2, rfl⟩
  go_wp2_with fail
  refine (laws_sameFloat (hc.cw _) (hc'.cw _) _).mono ?_; rintro e w' ⟨rfl, q3, rfl⟩
  go_wp2_with fail
  go_ret
  exact ⟨rfl, hal _ _ _⟩
structure TsK (w W : World) (a b c d f x0 x1 x2 x3 x4 : Nat) : Prop where
  p0 : W.cell? ⟨w.heap.size, 0, none⟩ = some (.float .f32 a)
  p1 : W.cell? ⟨w.heap.size, 1, none⟩ = some (.float .f32 b)
  p2 : W.cell? ⟨w.heap.size, 2, none⟩ = some (.float .f32 c)
  p3 : W.cell? ⟨w.heap.size, 3, none⟩ = some (.float .f32 d)
  p4 : W.cell? ⟨w.heap.size, 4, none⟩ = some (.float .f32 f)
  r0 : W.cell? ⟨w.heap.size + 1, 0, none⟩ = some (.float .f32 0)
  r1 : W.cell? ⟨w.heap.size + 1, 1, none⟩ = some (.float .f32 0)
  r2 : W.cell? ⟨w.heap.size + 1, 2, none⟩ = some (.float .f32 0)
  r3 : W.cell? ⟨w.heap.size + 1, 3, none⟩ = some (.float .f32 0)
  r4 : W.cell? ⟨w.heap.size + 1, 4, none⟩ = some (.float .f32 0)
  g0 : W.frozen? ⟨w.heap.size + 1, 0, none⟩ = false
  g1 : W.frozen? ⟨w.heap.size + 1, 1, none⟩ = false
  g2 : W.frozen? ⟨w.heap.size + 1, 2, none⟩ = false
  g3 : W.frozen? ⟨w.heap.size + 1, 3, none⟩ = false
  g4 : W.frozen? ⟨w.heap.size + 1, 4, none⟩ = false
  s0 : W.cell? ⟨w.heap.size + 1 + 1, 0, none⟩ = some (.float .f32 x0)
  s1 : W.cell? ⟨w.heap.size + 1 + 1, 1, none⟩ = some (.float .f32 x1)
  s2 : W.cell? ⟨w.heap.size + 1 + 1, 2, none⟩ = some (.float .f32 x2)
  s3 : W.cell? ⟨w.heap.size + 1 + 1, 3, none⟩ = some (.float .f32 x3)
  s4 : W.cell? ⟨w.heap.size + 1 + 1, 4, none⟩ = some (.float .f32 x4)
  h0 : W.frozen? ⟨w.heap.size + 1 + 1, 0, none⟩ = false
  h1 : W.frozen? ⟨w.heap.size + 1 + 1, 1, none⟩ = false
  h2 : W.frozen? ⟨w.heap.size + 1 + 1, 2, none⟩ = false
  h3 : W.frozen? ⟨w.heap.size + 1 + 1, 3, none⟩ = false
  h4 : W.frozen? ⟨w.heap.size + 1 + 1, 4, none⟩ = false
  bel : Below w.heap.size w W
  sz : w.heap.size + 3 ≤ W.heap.size
theorem TsK.start (w : World) (a b c d f : Nat) (e e' e'' : TypeId) : TsK w (((w.alloc (.cells #[.float .f32 a, .float .f32 b, .float .f32 c, .float .f32 d, .float .f32 f] e)).alloc (.cells #[.float .f32 0, .float .f32 0, .float .f32 0, .float .f32 0, .float .f32 0] e')).alloc (.cells #[.float .f32 0, .float .f32 0, .float .f32 0, .float .f32 0, .float .f32 0] e'')) a b c d f 0 0 0 0 0 := by
  refine ⟨?_, ?_, ?_, ?_, ?_, ?_, ?_, ?_, ?_, ?_, ?_, ?_, ?_, ?_, ?_, ?_, ?_, ?_, ?_, ?_, ?_, ?_, ?_, ?_, ?_, (((Below.refl _ w).alloc (Nat.le_refl _) _).alloc (by simp) _).alloc (by simp; omega) _, by simp⟩ <;> simp [go_sem]
theorem TsK.next {w W W' : World} {a b c d f x0 x1 x2 x3 x4 : Nat} (h : TsK w W a b c d f x0 x1 x2 x3 x4) (k : Below W.heap.size W W') : TsK w W' a b c d f x0 x1 x2 x3 x4 := by
  obtain ⟨hc, hf⟩ := bcell k
  have hz := h.sz
  exact ⟨(hc _ _ (by omega)).trans h.p0, (hc _ _ (by omega)).trans h.p1, (hc _ _ (by omega)).trans h.p2, (hc _ _ (by omega)).trans h.p3, (hc _ _ (by omega)).trans h.p4, (hc _ _ (by omega)).trans h.r0, (hc _ _ (by omega)).trans h.r1, (hc _ _ (by omega)).trans h.r2, (hc _ _ (by omega)).trans h.r3, (hc _ _ (by omega)).trans h.r4, (hf _ _ (by omega)).trans h.g0, (hf _ _ (by omega)).trans h.g1, (hf _ _ (by omega)).trans h.g2, (hf _ _ (by omega)).trans h.g3, (hf _ _ (by omega)).trans h.g4, (hc _ _ (by omega)).trans h.s0, (hc _ _ (by omega)).trans h.s1, (hc _ _ (by omega)).trans h.s2, (hc _ _ (by omega)).trans h.s3, (hc _ _ (by omega)).trans h.s4, (hf _ _ (by omega)).trans h.h0, (hf _ _ (by omega)).trans h.h1, (hf _ _ (by omega)).trans h.h2, (hf _ _ (by omega)).trans h.h3, (hf _ _ (by omega)).trans h.h4, below_next h.bel (by omega) k, Nat.le_trans hz k.size⟩
theorem cell_set4 {W : World} {p q : Addr} {v u : Value} (h : W.cell? p = some u) (hne : p ≠ q) : (W.setCell q v).cell? p = some u := (World.cell?_setCell_other _ _ _ _ (fun e => hne e.symm)).trans h
theorem cell_same {W : World} {q : Addr} {v u : Value} (h : W.cell? q = some u) : (W.setCell q v).cell? q = some v := World.cell?_setCell_same _ _ _ h
theorem TsK.set0 {w W : World} {a b c d f x0 x1 x2 x3 x4 : Nat} (h : TsK w W a b c d f x0 x1 x2 x3 x4) (y : Nat) : TsK w (W.setCell ⟨w.heap.size + 1 + 1, 0, none⟩ (.float .f32 y)) a b c d f y x1 x2 x3 x4 := by
  have hz := h.sz
  exact ⟨cell_set4 h.p0 (by simp <;> omega), cell_set4 h.p1 (by simp <;> omega), cell_set4 h.p2 (by simp <;> omega), cell_set4 h.p3 (by simp <;> omega), cell_set4 h.p4 (by simp <;> omega), cell_set4 h.r0 (by simp <;> omega), cell_set4 h.r1 (by simp <;> omega), cell_set4 h.r2 (by simp <;> omega), cell_set4 h.r3 (by simp <;> omega), cell_set4 h.r4 (by simp <;> omega), by simpa using h.g0, by simpa using h.g1, by simpa using h.g2, by simpa using h.g3, by simpa using h.g4, cell_same h.s0, cell_set4 h.s1 (by simp <;> omega), cell_set4 h.s2 (by simp <;> omega), cell_set4 h.s3 (by simp <;> omega), cell_set4 h.s4 (by simp <;> omega), by simpa using h.h0, by simpa using h.h1, by simpa using h.h2, by simpa using h.h3, by simpa using h.h4, h.bel.setCell (by simp; omega) _, by simpa using hz⟩
theorem TsK.set1 {w W : World} {a b c d f x0 x1 x2 x3 x4 : Nat} (h : TsK w W a b c d f x0 x1 x2 x3 x4) (y : Nat) : TsK w (W.setCell ⟨w.heap.size + 1 + 1, 1, none⟩ (.float .f32 y)) a b c d f x0 y x2 x3 x4 := by
  have hz := h.sz
  exact ⟨cell_set4 h.p0 (by simp <;> omega), cell_set4 h.p1 (by simp <;> omega), cell_set4 h.p2 (by simp <;> omega), cell_set4 h.p3 (by simp <;> omega), cell_set4 h.p4 (by simp <;> omega), cell_set4 h.r0 (by simp <;> omega), cell_set4 h.r1 (by simp <;> omega), cell_set4 h.r2 (by simp <;> omega), cell_set4 h.r3 (by simp <;> omega), cell_set4 h.r4 (by simp <;> omega), by simpa using h.g0, by simpa using h.g1, by simpa using h.g2, by simpa using h.g3, by simpa using h.g4, cell_set4 h.s0 (by simp <;> omega), cell_same h.s1, cell_set4 h.s2 (by simp <;> omega), cell_set4 h.s3 (by simp <;> omega), cell_set4 h.s4 (by simp <;> omega), by simpa using h.h0, by simpa using h.h1, by simpa using h.h2, by simpa using h.h3, by simpa using h.h4, h.bel.setCell (by simp; omega) _, by simpa using hz⟩
theorem TsK.set2 {w W : World} {a b c d f x0 x1 x2 x3 x4 : Nat} (h : TsK w W a b c d f x0 x1 x2 x3 x4) (y : Nat) : TsK w (W.setCell ⟨w.heap.size + 1 + 1, 2, none⟩ (.float .f32 y)) a b c d f x0 x1 y x3 x4 := by
  have hz := h.sz
  exact ⟨cell_set4 h.p0 (by simp <;> omega), cell_set4 h.p1 (by simp <;> omega), cell_set4 h.p2 (by simp <;> omega), cell_set4 h.p3 (by simp <;> omega), cell_set4 h.p4 (by simp <;> omega), cell_set4 h.r0 (by simp <;> omega), cell_set4 h.r1 (by simp <;> omega), cell_set4 h.r2 (by simp <;> omega), cell_set4 h.r3 (by simp <;> omega), cell_set4 h.r4 (by simp <;> omega), by simpa using h.g0, by simpa using h.g1, by simpa using h.g2, by simpa using h.g3, by simpa using h.g4, cell_set4 h.s0 (by simp <;> omega), cell_set4 h.s1 (by simp <;> omega), cell_same h.s2, cell_set4 h.s3 (by simp <;> omega), cell_set4 h.s4 (by simp <;> omega), by simpa using h.h0, by simpa using h.h1, by simpa using h.h2, by simpa using h.h3, by simpa using h.h4, h.bel.setCell (by simp; omega) _, by simpa using hz⟩
theorem TsK.set3 {w W : World} {a b c d f x0 x1 x2 x3 x4 : Nat} (h : TsK w W a b c d f x0 x1 x2 x3 x4) (y : Nat) : TsK w (W.setCell ⟨w.heap.size + 1 + 1, 3, none⟩ (.float .f32 y)) a b c d f x0 x1 x2 y x4 := by
  have hz := h.sz
  exact ⟨cell_set4 h.p0 (by simp <;> omega), cell_set4 h.p1 (by simp <;> omega), cell_set4 h.p2 (by simp <;> omega), cell_set4 h.p3 (by simp <;> omega), cell_set4 h.p4 (by simp <;> omega), cell_set4 h.r0 (by simp <;> omega), cell_set4 h.r1 (by simp <;> omega), cell_set4 h.r2 (by simp <;> omega), cell_set4 h.r3 (by simp <;> omega), cell_set4 h.r4 (by simp <;> omega), by simpa using h.g0, by simpa using h.g1, by simpa using h.g2, by simpa using h.g3, by simpa using h.g4, cell_set4 h.s0 (by simp <;> omega), cell_set4 h.s1 (by simp <;> omega), cell_set4 h.s2 (by simp <;> omega), cell_same h.s3, cell_set4 h.s4 (by simp <;> omega), by simpa using h.h0, by simpa using h.h1, by simpa using h.h2, by simpa using h.h3, by simpa using h.h4, h.bel.setCell (by simp; omega) _, by simpa using hz⟩
theorem TsK.set4 {w W : World} {a b c d f x0 x1 x2 x3 x4 : Nat} (h : TsK w W a b c d f x0 x1 x2 x3 x4) (y : Nat) : TsK w (W.setCell ⟨w.heap.size + 1 + 1, 4, none⟩ (.float .f32 y)) a b c d f x0 x1 x2 x3 y := by
  have hz := h.sz
  exact ⟨cell_set4 h.p0 (by simp <;> omega), cell_set4 h.p1 (by simp <;> omega), cell_set4 h.p2 (by simp <;> omega), cell_set4 h.p3 (by simp <;> omega), cell_set4 h.p4 (by simp <;> omega), cell_set4 h.r0 (by simp <;> omega), cell_set4 h.r1 (by simp <;> omega), cell_set4 h.r2 (by simp <;> omega), cell_set4 h.r3 (by simp <;> omega), cell_set4 h.r4 (by simp <;> omega), by simpa using h.g0, by simpa using h.g1, by simpa using h.g2, by simpa using h.g3, by simpa using h.g4, cell_set4 h.s0 (by simp <;> omega), cell_set4 h.s1 (by simp <;> omega), cell_set4 h.s2 (by simp <;> omega), cell_set4 h.s3 (by simp <;> omega), cell_same h.s4, by simpa using h.h0, by simpa using h.h1, by simpa using h.h2, by simpa using h.h3, by simpa using h.h4, h.bel.setCell (by simp; omega) _, by simpa using hz⟩
set_option maxHeartbeats 3200000 in
theorem laws_toSqueeze {a b c d f : Nat} (w : World) : Calls Try.prog 41 #[.agg #[.float .f32 a, .float .f32 b, .float .f32 c, .float .f32 d, .float .f32 f]] w (RV (.agg #[.float .f32 a, .float .f32 b, .float .f32 c, .float .f32 d, .float .f32 f]) w) := by
  have hK := TsK.start w a b c d f 66 68 68
  go_enter Try.func41, Try.ntmps41
  go_wp2_with fail
  generalize (World.alloc (World.alloc (World.alloc w _) _) _) = W0 at *
  go_wp2_with fail
  refine (laws_toFollower _).mono ?_
  rintro e w1 ⟨rfl, hb1⟩
  replace hK := hK.next hb1
  clear hb1
  obtain ⟨s0, s1, s2, h0, h1, h2⟩ : _ ∧ _ ∧ _ ∧ _ ∧ _ ∧ _ := ⟨hK.s0, hK.s1, hK.s2, hK.h0, hK.h1, hK.h2⟩
  replace hK := Lib.hid (((hK.set0 a).set1 b).set2 c)
  go_upto_region 3 with fail
  clear s0 s1 s2 h0 h1 h2
  generalize World.setCell (World.setCell (World.setCell w1 _ _) _ _) _ _ = W1 at *
  obtain ⟨p3, s3, h3⟩ : _ ∧ _ ∧ _ := ⟨hK.out.p3, hK.out.s3, hK.out.h3⟩
  replace hK := Lib.hid (hK.out.set3 d)
  go_upto_region 4 with fail
  clear p3 s3 h3
  generalize World.setCell W1 _ _ = W2 at *
  obtain ⟨p4, s4, h4⟩ : _ ∧ _ ∧ _ := ⟨hK.out.p4, hK.out.s4, hK.out.h4⟩
  replace hK := Lib.hid (hK.out.set4 f)
  go_upto_region 5 with fail
  clear p4 s4 h4
  generalize World.setCell W2 _ _ = W3 at *
  obtain ⟨s0, s1, s2, s3, s4, r0, r1, r2, r3, r4, g0, g1, g2, g3, g4, hbel⟩ : _ ∧ _ ∧ _ ∧ _ ∧ _ ∧ _ ∧ _ ∧ _ ∧ _ ∧ _ ∧ _ ∧ _ ∧ _ ∧ _ ∧ _ ∧ _ := ⟨hK.out.s0, hK.out.s1, hK.out.s2, hK.out.s3, hK.out.s4, hK.out.r0, hK.out.r1, hK.out.r2, hK.out.r3, hK.out.r4, hK.out.g0, hK.out.g1, hK.out.g2, hK.out.g3, hK.out.g4, hK.out.bel⟩
  clear hK
  go_wp2
  refine bodyPost_ret (v := .agg #[.float .f32 a, .float .f32 b, .float .f32 c, .float .f32 d, .float .f32 f]) ?_ rfl ⟨rfl, ?_⟩
  · simp [results, Try.results41, go_sem, r0, r1, r2, r3, r4]
  · exact ((((hbel.setCell (by simp) _).setCell (by simp) _).setCell (by simp) _).setCell (by simp) _).setCell (by simp) _
set_option maxHeartbeats 1600000 in
theorem laws_eqSqueeze {a b c d f a' b' c' d' f' : Nat} {A B C D E : Option Nat} (w : World) (ha : Fl .f32 a A) (hb : Fl .f32 b B) (hc : Fl .f32 c C) (hd : Fl .f32 d D) (hf : Fl .f32 f E) (ha' : Fl .f32 a' A) (hb' : Fl .f32 b' B) (hc' : Fl .f32 c' C) (hd' : Fl .f32 d' D) (hf' : Fl .f32 f' E) :
    Calls Try.prog 43 #[.agg #[.float .f32 a, .float .f32 b, .float .f32 c, .float .f32 d, .float .f32 f], .agg #[.float .f32 a', .float .f32 b', .float .f32 c', .float .f32 d', .float .f32 f']] w (RV (.bool true) w) := by
  obtain ⟨W0, hW0⟩ : ∃ W, W = (w.alloc (.cells #[.float .f32 a, .float .f32 b, .float .f32 c, .float .f32 d, .float .f32 f] 68)).alloc (.cells #[.float .f32 a', .float .f32 b', .float .f32 c', .float .f32 d', .float .f32 f'] 68) := ⟨_, rfl⟩
  have hB : Below w.heap.size w W0 := by rw [hW0]; exact ((Below.refl _ w).alloc (Nat.le_refl _) _).alloc (by simp) _
  have hz : W0.heap.size = w.heap.size + 2 := by rw [hW0]; simp
  have k0 : W0.cell? ⟨w.heap.size, 0, none⟩ = some (.float .f32 a) ∧ W0.cell? ⟨w.heap.size, 1, none⟩ = some (.float .f32 b) ∧ W0.cell? ⟨w.heap.size, 2, none⟩ = some (.float .f32 c) ∧ W0.cell? ⟨w.heap.size, 3, none⟩ = some (.float .f32 d) ∧ W0.cell? ⟨w.heap.size, 4, none⟩ = some (.float .f32 f) := by
    rw [hW0]; simp [go_sem]
  have k1 : W0.cell? ⟨w.heap.size + 1, 0, none⟩ = some (.float .f32 a') ∧ W0.cell? ⟨w.heap.size + 1, 1, none⟩ = some (.float .f32 b') ∧ W0.cell? ⟨w.heap.size + 1, 2, none⟩ = some (.float .f32 c') ∧ W0.cell? ⟨w.heap.size + 1, 3, none⟩ = some (.float .f32 d') ∧ W0.cell? ⟨w.heap.size + 1, 4, none⟩ = some (.float .f32 f') := by
    rw [hW0]; simp [go_sem]
  obtain ⟨c0, c1, c2, c3, c4⟩ := k0
  obtain ⟨d0, d1, d2, d3, d4⟩ := k1
  go_enter Try.func43, Try.ntmps43
  go_wp2_with fail
  rw [← hW0]
  clear hW0
  go_wp2_with fail
  refine (laws_eqFollower _ ha hb hc ha' hb' hc').mono ?_
  rintro e w1 ⟨rfl, hb1⟩
  have h1 := cell_below (o := 3) hb1 (show w.heap.size < W0.heap.size by omega) |>.trans c3
  have h2 := cell_below (o := 4) hb1 (show w.heap.size < W0.heap.size by omega) |>.trans c4
  have h3 := cell_below (o := 3) hb1 (show w.heap.size + 1 < W0.heap.size by omega) |>.trans d3
  have h4 := cell_below (o := 4) hb1 (show w.heap.size + 1 < W0.heap.size by omega) |>.trans d4
  have hbel := Lib.hid (below_next hB (by omega) hb1)
  clear c0 c1 c2 c3 c4 d0 d1 d2 d3 d4 hb1 hB
  go_wp2_with fail
  refine (laws_sameFloat (hd.cw _) (hd'.cw _) _).mono ?_; rintro e w' ⟨rfl, q1, rfl⟩
  go_wp2_with fail
  refine (laws_sameFloat (hf.cw _) (hf'.cw _) _).mono ?_; rintro e w' ⟨rfl, q2, rfl⟩
  go_wp2_with fail
  go_ret
  exact ⟨rfl, below_drewN hbel.out _⟩
end Go.Proofs.Ytbaokmapgdnhlaa
