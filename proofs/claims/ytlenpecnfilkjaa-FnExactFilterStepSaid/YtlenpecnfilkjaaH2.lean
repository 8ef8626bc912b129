/- The steps of filters: the reference. Conditions: none beside the contracts' own. -/
import Derived.Test.YtlenpecnfilkjaaH1
set_option linter.unusedVariables false
set_option linter.unusedSimpArgs false
namespace Go.Proofs.Ytlenpecnfilkjaa
open Go.RowKit
set_option maxHeartbeats 400000 in
set_option maxRecDepth 20000 in
theorem spec_l02Flush {x : Nat} {X : Option Nat} {fl : Bool} (hx : Fl .f32 x X) (w : World) :
    Calls Try.prog 92 #[.float .f32 x, .bool fl] w (RF .f32 ((flC fl X)) w) := by
  unfold flC
  cases fl <;> simp only [Bool.false_eq_true, if_true, if_false]
  · go_enter Try.func92, Try.ntmps92
    go_wp2
    go_ret
    exact ⟨_, 0, rfl, hx, rfl⟩
  · go_enter Try.func92, Try.ntmps92
    go_wp2_with (go_at_call 93; refine (spec_l01Flush hx _).mono ?_; rintro e w' ⟨r, q, rfl, hr, rfl⟩)
    go_ret
    exact ⟨_, _, rfl, hr, rfl⟩
  skip
  skip
/-- The cells of a step: the filter's, the memory's, the result's, those of the next memory. -/
structure SpI (w W : World) (b b0 b1 b2 a1 a2 a b' c d n0 n1 n2 n3 : Nat) : Prop where
  p0 : W.cell? ⟨b, 0, none⟩ = some (.float .f32 b0)
  p1 : W.cell? ⟨b, 1, none⟩ = some (.float .f32 b1)
  p2 : W.cell? ⟨b, 2, none⟩ = some (.float .f32 b2)
  p3 : W.cell? ⟨b, 3, none⟩ = some (.float .f32 a1)
  p4 : W.cell? ⟨b, 4, none⟩ = some (.float .f32 a2)
  m0 : W.cell? ⟨w.heap.size, 0, none⟩ = some (.float .f32 a)
  m1 : W.cell? ⟨w.heap.size, 1, none⟩ = some (.float .f32 b')
  m2 : W.cell? ⟨w.heap.size, 2, none⟩ = some (.float .f32 c)
  m3 : W.cell? ⟨w.heap.size, 3, none⟩ = some (.float .f32 d)
  r0 : W.cell? ⟨w.heap.size + 1, 0, none⟩ = some (.float .f32 0)
  r1 : W.cell? ⟨w.heap.size + 1, 1, none⟩ = some (.float .f32 0)
  r2 : W.cell? ⟨w.heap.size + 1, 2, none⟩ = some (.float .f32 0)
  r3 : W.cell? ⟨w.heap.size + 1, 3, none⟩ = some (.float .f32 0)
  g0 : W.frozen? ⟨w.heap.size + 1, 0, none⟩ = false
  g1 : W.frozen? ⟨w.heap.size + 1, 1, none⟩ = false
  g2 : W.frozen? ⟨w.heap.size + 1, 2, none⟩ = false
  g3 : W.frozen? ⟨w.heap.size + 1, 3, none⟩ = false
  s0 : W.cell? ⟨w.heap.size + 1 + 1, 0, none⟩ = some (.float .f32 n0)
  s1 : W.cell? ⟨w.heap.size + 1 + 1, 1, none⟩ = some (.float .f32 n1)
  s2 : W.cell? ⟨w.heap.size + 1 + 1, 2, none⟩ = some (.float .f32 n2)
  s3 : W.cell? ⟨w.heap.size + 1 + 1, 3, none⟩ = some (.float .f32 n3)
  t0 : W.frozen? ⟨w.heap.size + 1 + 1, 0, none⟩ = false
  t1 : W.frozen? ⟨w.heap.size + 1 + 1, 1, none⟩ = false
  t2 : W.frozen? ⟨w.heap.size + 1 + 1, 2, none⟩ = false
  t3 : W.frozen? ⟨w.heap.size + 1 + 1, 3, none⟩ = false
  bel : Below w.heap.size w W
  sz : w.heap.size + 3 ≤ W.heap.size
  hb : b < w.heap.size
theorem SpI.next {w W W' : World} {b b0 b1 b2 a1 a2 a b' c d n0 n1 n2 n3 : Nat} (h : SpI w W b b0 b1 b2 a1 a2 a b' c d n0 n1 n2 n3) (k : Below W.heap.size W W') : SpI w W' b b0 b1 b2 a1 a2 a b' c d n0 n1 n2 n3 := by
  obtain ⟨hc, hf⟩ := bcell k
  have hz := h.sz
  have hb := h.hb
  exact ⟨(hc _ _ (by omega)).trans h.p0, (hc _ _ (by omega)).trans h.p1, (hc _ _ (by omega)).trans h.p2, (hc _ _ (by omega)).trans h.p3, (hc _ _ (by omega)).trans h.p4, (hc _ _ (by omega)).trans h.m0, (hc _ _ (by omega)).trans h.m1, (hc _ _ (by omega)).trans h.m2, (hc _ _ (by omega)).trans h.m3, (hc _ _ (by omega)).trans h.r0, (hc _ _ (by omega)).trans h.r1, (hc _ _ (by omega)).trans h.r2, (hc _ _ (by omega)).trans h.r3, (hf _ _ (by omega)).trans h.g0, (hf _ _ (by omega)).trans h.g1, (hf _ _ (by omega)).trans h.g2, (hf _ _ (by omega)).trans h.g3, (hc _ _ (by omega)).trans h.s0, (hc _ _ (by omega)).trans h.s1, (hc _ _ (by omega)).trans h.s2, (hc _ _ (by omega)).trans h.s3, (hf _ _ (by omega)).trans h.t0, (hf _ _ (by omega)).trans h.t1, (hf _ _ (by omega)).trans h.t2, (hf _ _ (by omega)).trans h.t3, below_next h.bel (by omega) k, Nat.le_trans hz k.size, hb⟩
theorem SpI.drewN {w W : World} {b b0 b1 b2 a1 a2 a b' c d n0 n1 n2 n3 : Nat} (h : SpI w W b b0 b1 b2 a1 a2 a b' c d n0 n1 n2 n3) (q : Nat) : SpI w (W.drewN q) b b0 b1 b2 a1 a2 a b' c d n0 n1 n2 n3 := h.next (below_draws W q)
theorem cell_set4 {W : World} {p q : Addr} {v u : Value} (h : W.cell? p = some u) (hne : p ≠ q) : (W.setCell q v).cell? p = some u := (World.cell?_setCell_other _ _ _ _ (fun e => hne e.symm)).trans h
theorem cell_same {W : World} {q : Addr} {v u : Value} (h : W.cell? q = some u) : (W.setCell q v).cell? q = some v := World.cell?_setCell_same _ _ _ h
theorem SpI.set {w W : World} {b b0 b1 b2 a1 a2 a b' c d n0 n1 n2 n3 : Nat} (h : SpI w W b b0 b1 b2 a1 a2 a b' c d n0 n1 n2 n3) (x0 x1 x2 x3 : Nat) : SpI w ((((W.setCell ⟨w.heap.size + 1 + 1, 0, none⟩ (.float .f32 x0)).setCell ⟨w.heap.size + 1 + 1, 1, none⟩ (.float .f32 x1)).setCell ⟨w.heap.size + 1 + 1, 2, none⟩ (.float .f32 x2)).setCell ⟨w.heap.size + 1 + 1, 3, none⟩ (.float .f32 x3)) b b0 b1 b2 a1 a2 a b' c d x0 x1 x2 x3 := by
  have hb := h.hb
  have hz := h.sz
  exact ⟨cell_set4 (cell_set4 (cell_set4 (cell_set4 h.p0 (by simp <;> omega)) (by simp <;> omega)) (by simp <;> omega)) (by simp <;> omega),
    cell_set4 (cell_set4 (cell_set4 (cell_set4 h.p1 (by simp <;> omega)) (by simp <;> omega)) (by simp <;> omega)) (by simp <;> omega),
    cell_set4 (cell_set4 (cell_set4 (cell_set4 h.p2 (by simp <;> omega)) (by simp <;> omega)) (by simp <;> omega)) (by simp <;> omega),
    cell_set4 (cell_set4 (cell_set4 (cell_set4 h.p3 (by simp <;> omega)) (by simp <;> omega)) (by simp <;> omega)) (by simp <;> omega),
    cell_set4 (cell_set4 (cell_set4 (cell_set4 h.p4 (by simp <;> omega)) (by simp <;> omega)) (by simp <;> omega)) (by simp <;> omega),
    cell_set4 (cell_set4 (cell_set4 (cell_set4 h.m0 (by simp <;> omega)) (by simp <;> omega)) (by simp <;> omega)) (by simp <;> omega),
    cell_set4 (cell_set4 (cell_set4 (cell_set4 h.m1 (by simp <;> omega)) (by simp <;> omega)) (by simp <;> omega)) (by simp <;> omega),
    cell_set4 (cell_set4 (cell_set4 (cell_set4 h.m2 (by simp <;> omega)) (by simp <;> omega)) (by simp <;> omega)) (by simp <;> omega),
    cell_set4 (cell_set4 (cell_set4 (cell_set4 h.m3 (by simp <;> omega)) (by simp <;> omega)) (by simp <;> omega)) (by simp <;> omega),
    cell_set4 (cell_set4 (cell_set4 (cell_set4 h.r0 (by simp <;> omega)) (by simp <;> omega)) (by simp <;> omega)) (by simp <;> omega),
    cell_set4 (cell_set4 (cell_set4 (cell_set4 h.r1 (by simp <;> omega)) (by simp <;> omega)) (by simp <;> omega)) (by simp <;> omega),
    cell_set4 (cell_set4 (cell_set4 (cell_set4 h.r2 (by simp <;> omega)) (by simp <;> omega)) (by simp <;> omega)) (by simp <;> omega),
    cell_set4 (cell_set4 (cell_set4 (cell_set4 h.r3 (by simp <;> omega)) (by simp <;> omega)) (by simp <;> omega)) (by simp <;> omega),
    by simpa using h.g0,
    by simpa using h.g1,
    by simpa using h.g2,
    by simpa using h.g3,
    cell_set4 (cell_set4 (cell_set4 (cell_same (h.s0)) (by simp)) (by simp)) (by simp),
    cell_set4 (cell_set4 (cell_same (cell_set4 (h.s1) (by simp))) (by simp)) (by simp),
    cell_set4 (cell_same (cell_set4 (cell_set4 (h.s2) (by simp)) (by simp))) (by simp),
    cell_same (cell_set4 (cell_set4 (cell_set4 (h.s3) (by simp)) (by simp)) (by simp)),
    by simpa using h.t0,
    by simpa using h.t1,
    by simpa using h.t2,
    by simpa using h.t3, (((h.bel.setCell (by simp; omega) _).setCell (by simp; omega) _).setCell (by simp; omega) _).setCell (by simp; omega) _, by simpa using hz, hb⟩
theorem SpI.start {w : World} {b b0 b1 b2 a1 a2 : Nat} (h0 : w.cell? ⟨b, 0, none⟩ = some (.float .f32 b0)) (h1 : w.cell? ⟨b, 1, none⟩ = some (.float .f32 b1)) (h2 : w.cell? ⟨b, 2, none⟩ = some (.float .f32 b2)) (h3 : w.cell? ⟨b, 3, none⟩ = some (.float .f32 a1)) (h4 : w.cell? ⟨b, 4, none⟩ = some (.float .f32 a2)) (a b' c d : Nat) (e e' e'' : TypeId) :
    SpI w (((w.alloc (.cells #[.float .f32 a, .float .f32 b', .float .f32 c, .float .f32 d] e)).alloc (.cells #[.float .f32 0, .float .f32 0, .float .f32 0, .float .f32 0] e')).alloc (.cells #[.float .f32 0, .float .f32 0, .float .f32 0, .float .f32 0] e'')) b b0 b1 b2 a1 a2 a b' c d 0 0 0 0 := by
  have hb : b < w.heap.size := World.block_lt_of_cell? w ⟨b, 0, none⟩ h0
  have hbel : Below w.heap.size w (((w.alloc (.cells #[.float .f32 a, .float .f32 b', .float .f32 c, .float .f32 d] e)).alloc (.cells #[.float .f32 0, .float .f32 0, .float .f32 0, .float .f32 0] e')).alloc (.cells #[.float .f32 0, .float .f32 0, .float .f32 0, .float .f32 0] e'')) := (((Below.refl _ w).alloc (Nat.le_refl _) _).alloc (by simp) _).alloc (by simp; omega) _
  refine ⟨(cell_below hbel hb).trans h0, (cell_below hbel hb).trans h1, (cell_below hbel hb).trans h2, (cell_below hbel hb).trans h3, (cell_below hbel hb).trans h4, ?_, ?_, ?_, ?_, ?_, ?_, ?_, ?_, ?_, ?_, ?_, ?_, ?_, ?_, ?_, ?_, ?_, ?_, ?_, ?_, hbel, by simp, hb⟩ <;> simp [go_sem]
set_option maxHeartbeats 12800000 in
set_option maxRecDepth 100000 in
theorem spec_l02Step {b b0 b1 b2 a1 a2 a b' c d x : Nat} {form : Int} {fl : Bool} {B0 B1 B2 A1 A2 A B C D X : Option Nat} (w : World) (h0 : Fl .f32 b0 B0) (h1 : Fl .f32 b1 B1) (h2 : Fl .f32 b2 B2) (h3 : Fl .f32 a1 A1) (h4 : Fl .f32 a2 A2)
    (ha : Fl .f32 a A) (hb : Fl .f32 b' B) (hc : Fl .f32 c C) (hd : Fl .f32 d D) (hx : Fl .f32 x X)
    (p0 : w.cell? ⟨b, 0, none⟩ = some (.float .f32 b0)) (p1 : w.cell? ⟨b, 1, none⟩ = some (.float .f32 b1)) (p2 : w.cell? ⟨b, 2, none⟩ = some (.float .f32 b2)) (p3 : w.cell? ⟨b, 3, none⟩ = some (.float .f32 a1)) (p4 : w.cell? ⟨b, 4, none⟩ = some (.float .f32 a2)) :
    Calls Try.prog 55 #[.pointer (some ⟨b, 0, none⟩), .int .i64 form, .bool fl, .agg #[.float .f32 a, .float .f32 b', .float .f32 c, .float .f32 d], .float .f32 x] w
      (RYM (stY B0 B1 B2 A1 A2 form fl A B C D X) (stA B0 B1 A1 A2 form fl A B X) (stB B0 B2 A2 form fl A X) (stC form fl (stY B0 B1 B2 A1 A2 form fl A B C D X)) (stD form fl C) w) := by
  by_cases e0 : form = 0
  · subst e0
    simp only [stY, stA, stB, stC, stD, if_true]
    cases fl
    · go_enter Try.func55, Try.ntmps55
      go_wp2_with fail
      refine Loose.regionC_of (fun W => SpI w W b b0 b1 b2 a1 a2 a b' c d 0 0 0 0) (by kernel_rfl) (by kernel_rfl) (SpI.start p0 p1 p2 p3 p4 ..) ?_
      intro W hI
      have h0L : Loose.All [(⟨b, 0, none⟩, .float .f32 b0), (⟨b, 1, none⟩, .float .f32 b1), (⟨b, 2, none⟩, .float .f32 b2), (⟨b, 3, none⟩, .float .f32 a1), (⟨b, 4, none⟩, .float .f32 a2), (⟨w.heap.size, 0, none⟩, .float .f32 a), (⟨w.heap.size, 1, none⟩, .float .f32 b'), (⟨w.heap.size, 2, none⟩, .float .f32 c), (⟨w.heap.size, 3, none⟩, .float .f32 d)] W := ⟨hI.p0, hI.p1, hI.p2, hI.p3, hI.p4, hI.m0, hI.m1, hI.m2, hI.m3, trivial⟩
      refine ⟨_, h0L, ?_⟩
      have HI := Lib.hid hI
      clear hI
      apply Exists.intro
      repeat
        first
          | (apply Loose.walk_skip; exact rfl; simp only [Act.put, List.setIfInBounds_toArray, List.set_cons_zero, List.set_cons_succ])
          | (apply Loose.quiet h0L; exact rfl; exact rfl; intro K hK; go_big_quiet_op; go_big_quiet_on)
          | (apply Loose.quiet h0L; exact rfl; exact rfl; intro K hK; go_big_quiet_op; apply Exists.intro; refine ⟨fun w' hw' => ?_, ?_⟩
             · (first | exact rfl | (have l := hw'.all; simp only [Loose.All] at l; go_simp; rfl))
             go_big_quiet_on)
          | (apply Loose.fl32; exact rfl; (intro w' hw'; apply Exists.intro; apply Exists.intro; refine ⟨?_, ?_⟩; (go_simp; exact ⟨rfl, rfl⟩); exact Fl.fr (by assumption) (by assumption) _ _); intro r_ f_; simp only [Act.put, List.setIfInBounds_toArray, List.set_cons_zero, List.set_cons_succ])
          | (apply Loose.exact_ h0L; exact rfl; (intro w' hw'; first | (go_simp; rfl) | (have l := hw'.all; simp only [Loose.All] at l; go_simp; rfl)); simp only [Act.put, List.setIfInBounds_toArray, List.set_cons_zero, List.set_cons_succ])
      apply Loose.done
      rintro w3 - hb3 -
      have hI := HI.out.next hb3
      clear HI hb3 h0L
      go_wp2_with fail
      have h0L : Loose.All [(⟨b, 0, none⟩, .float .f32 b0), (⟨b, 1, none⟩, .float .f32 b1), (⟨b, 2, none⟩, .float .f32 b2), (⟨b, 3, none⟩, .float .f32 a1), (⟨b, 4, none⟩, .float .f32 a2), (⟨w.heap.size, 0, none⟩, .float .f32 a), (⟨w.heap.size, 1, none⟩, .float .f32 b'), (⟨w.heap.size, 2, none⟩, .float .f32 c), (⟨w.heap.size, 3, none⟩, .float .f32 d)] _ := ⟨hI.p0, hI.p1, hI.p2, hI.p3, hI.p4, hI.m0, hI.m1, hI.m2, hI.m3, trivial⟩
      refine Loose.regionC [(⟨b, 0, none⟩, .float .f32 b0), (⟨b, 1, none⟩, .float .f32 b1), (⟨b, 2, none⟩, .float .f32 b2), (⟨b, 3, none⟩, .float .f32 a1), (⟨b, 4, none⟩, .float .f32 a2), (⟨w.heap.size, 0, none⟩, .float .f32 a), (⟨w.heap.size, 1, none⟩, .float .f32 b'), (⟨w.heap.size, 2, none⟩, .float .f32 c), (⟨w.heap.size, 3, none⟩, .float .f32 d)] (by kernel_rfl) (by kernel_rfl) h0L ?_
      have HI := Lib.hid hI
      clear hI
      apply Exists.intro
      repeat
        first
          | (apply Loose.walk_skip; exact rfl; simp only [Act.put, List.setIfInBounds_toArray, List.set_cons_zero, List.set_cons_succ])
          | (apply Loose.quiet h0L; exact rfl; exact rfl; intro K hK; go_big_quiet_op; go_big_quiet_on)
          | (apply Loose.quiet h0L; exact rfl; exact rfl; intro K hK; go_big_quiet_op; apply Exists.intro; refine ⟨fun w' hw' => ?_, ?_⟩
             · (first | exact rfl | (have l := hw'.all; simp only [Loose.All] at l; go_simp; rfl))
             go_big_quiet_on)
          | (apply Loose.fl32; exact rfl; (intro w' hw'; apply Exists.intro; apply Exists.intro; refine ⟨?_, ?_⟩; (go_simp; exact ⟨rfl, rfl⟩); exact Fl.fr (by assumption) (by assumption) _ _); intro r_ f_; simp only [Act.put, List.setIfInBounds_toArray, List.set_cons_zero, List.set_cons_succ])
          | (apply Loose.exact_ h0L; exact rfl; (intro w' hw'; first | (go_simp; rfl) | (have l := hw'.all; simp only [Loose.All] at l; go_simp; rfl)); simp only [Act.put, List.setIfInBounds_toArray, List.set_cons_zero, List.set_cons_succ])
      apply Loose.done
      rintro w3 - hb3 -
      have hI := HI.out.next hb3
      clear HI hb3 h0L
      go_wp2_with fail
      have h0L : Loose.All [(⟨b, 0, none⟩, .float .f32 b0), (⟨b, 1, none⟩, .float .f32 b1), (⟨b, 2, none⟩, .float .f32 b2), (⟨b, 3, none⟩, .float .f32 a1), (⟨b, 4, none⟩, .float .f32 a2), (⟨w.heap.size, 0, none⟩, .float .f32 a), (⟨w.heap.size, 1, none⟩, .float .f32 b'), (⟨w.heap.size, 2, none⟩, .float .f32 c), (⟨w.heap.size, 3, none⟩, .float .f32 d)] _ := ⟨hI.p0, hI.p1, hI.p2, hI.p3, hI.p4, hI.m0, hI.m1, hI.m2, hI.m3, trivial⟩
      refine Loose.regionC [(⟨b, 0, none⟩, .float .f32 b0), (⟨b, 1, none⟩, .float .f32 b1), (⟨b, 2, none⟩, .float .f32 b2), (⟨b, 3, none⟩, .float .f32 a1), (⟨b, 4, none⟩, .float .f32 a2), (⟨w.heap.size, 0, none⟩, .float .f32 a), (⟨w.heap.size, 1, none⟩, .float .f32 b'), (⟨w.heap.size, 2, none⟩, .float .f32 c), (⟨w.heap.size, 3, none⟩, .float .f32 d)] (by kernel_rfl) (by kernel_rfl) h0L ?_
      have HI := Lib.hid hI
      clear hI
      apply Exists.intro
      repeat
        first
          | (apply Loose.walk_skip; exact rfl; simp only [Act.put, List.setIfInBounds_toArray, List.set_cons_zero, List.set_cons_succ])
          | (apply Loose.quiet h0L; exact rfl; exact rfl; intro K hK; go_big_quiet_op; go_big_quiet_on)
          | (apply Loose.quiet h0L; exact rfl; exact rfl; intro K hK; go_big_quiet_op; apply Exists.intro; refine ⟨fun w' hw' => ?_, ?_⟩
             · (first | exact rfl | (have l := hw'.all; simp only [Loose.All] at l; go_simp; rfl))
             go_big_quiet_on)
          | (apply Loose.fl32; exact rfl; (intro w' hw'; apply Exists.intro; apply Exists.intro; refine ⟨?_, ?_⟩; (go_simp; exact ⟨rfl, rfl⟩); exact Fl.fr (by assumption) (by assumption) _ _); intro r_ f_; simp only [Act.put, List.setIfInBounds_toArray, List.set_cons_zero, List.set_cons_succ])
          | (apply Loose.exact_ h0L; exact rfl; (intro w' hw'; first | (go_simp; rfl) | (have l := hw'.all; simp only [Loose.All] at l; go_simp; rfl)); simp only [Act.put, List.setIfInBounds_toArray, List.set_cons_zero, List.set_cons_succ])
      apply Loose.done
      rintro w3 - hb3 -
      have hI := HI.out.next hb3
      clear HI hb3 h0L
      go_wp2_with fail
      have h0L : Loose.All [(⟨b, 0, none⟩, .float .f32 b0), (⟨b, 1, none⟩, .float .f32 b1), (⟨b, 2, none⟩, .float .f32 b2), (⟨b, 3, none⟩, .float .f32 a1), (⟨b, 4, none⟩, .float .f32 a2), (⟨w.heap.size, 0, none⟩, .float .f32 a), (⟨w.heap.size, 1, none⟩, .float .f32 b'), (⟨w.heap.size, 2, none⟩, .float .f32 c), (⟨w.heap.size, 3, none⟩, .float .f32 d)] _ := ⟨hI.p0, hI.p1, hI.p2, hI.p3, hI.p4, hI.m0, hI.m1, hI.m2, hI.m3, trivial⟩
      refine Loose.regionC [(⟨b, 0, none⟩, .float .f32 b0), (⟨b, 1, none⟩, .float .f32 b1), (⟨b, 2, none⟩, .float .f32 b2), (⟨b, 3, none⟩, .float .f32 a1), (⟨b, 4, none⟩, .float .f32 a2), (⟨w.heap.size, 0, none⟩, .float .f32 a), (⟨w.heap.size, 1, none⟩, .float .f32 b'), (⟨w.heap.size, 2, none⟩, .float .f32 c), (⟨w.heap.size, 3, none⟩, .float .f32 d)] (by kernel_rfl) (by kernel_rfl) h0L ?_
      have HI := Lib.hid hI
      clear hI
      apply Exists.intro
      repeat
        first
          | (apply Loose.walk_skip; exact rfl; simp only [Act.put, List.setIfInBounds_toArray, List.set_cons_zero, List.set_cons_succ])
          | (apply Loose.quiet h0L; exact rfl; exact rfl; intro K hK; go_big_quiet_op; go_big_quiet_on)
          | (apply Loose.quiet h0L; exact rfl; exact rfl; intro K hK; go_big_quiet_op; apply Exists.intro; refine ⟨fun w' hw' => ?_, ?_⟩
             · (first | exact rfl | (have l := hw'.all; simp only [Loose.All] at l; go_simp; rfl))
             go_big_quiet_on)
          | (apply Loose.fl32; exact rfl; (intro w' hw'; apply Exists.intro; apply Exists.intro; refine ⟨?_, ?_⟩; (go_simp; exact ⟨rfl, rfl⟩); exact Fl.fr (by assumption) (by assumption) _ _); intro r_ f_; simp only [Act.put, List.setIfInBounds_toArray, List.set_cons_zero, List.set_cons_succ])
          | (apply Loose.exact_ h0L; exact rfl; (intro w' hw'; first | (go_simp; rfl) | (have l := hw'.all; simp only [Loose.All] at l; go_simp; rfl)); simp only [Act.put, List.setIfInBounds_toArray, List.set_cons_zero, List.set_cons_succ])
      apply Loose.done
      rintro w3 - hb3 -
      have hI := HI.out.next hb3
      clear HI hb3 h0L
      go_wp2_with fail
      refine (spec_l02Flush f_ _).mono ?_
      rintro e w4 ⟨y, q, rfl, hy, hw4⟩
      replace hI := hI.drewN q
      rw [← hw4] at hI
      clear hw4
      obtain ⟨s0, s1, s2, s3, t0, t1, t2, t3⟩ : _ ∧ _ ∧ _ ∧ _ ∧ _ ∧ _ ∧ _ ∧ _ := ⟨hI.s0, hI.s1, hI.s2, hI.s3, hI.t0, hI.t1, hI.t2, hI.t3⟩
      obtain ⟨m0, m1, m2, m3⟩ : _ ∧ _ ∧ _ ∧ _ := ⟨hI.m0, hI.m1, hI.m2, hI.m3⟩
      have HI := Lib.hid hI
      clear hI
      go_wp2_with fail
      clear s0 s1 s2 s3 t0 t1 t2 t3 m0 m1 m2 m3
      refine Loose.regionT_of (fun W => SpI w W b b0 b1 b2 a1 a2 a b' c d x a y c) 3 (by kernel_rfl) (by kernel_rfl) (by first | exact HI.out.set _ _ _ _ | exact (HI.out.set _ _ _ _).drewN _) ?_
      intro W hI
      have h0L : Loose.All [(⟨w.heap.size + 1 + 1, 0, none⟩, .float .f32 x), (⟨w.heap.size + 1 + 1, 1, none⟩, .float .f32 a), (⟨w.heap.size + 1 + 1, 2, none⟩, .float .f32 y), (⟨w.heap.size + 1 + 1, 3, none⟩, .float .f32 c)] W := ⟨hI.s0, hI.s1, hI.s2, hI.s3, trivial⟩
      refine ⟨_, h0L, ?_⟩
      simp only [List.take_succ_cons, List.take_zero, List.drop_succ_cons, List.drop_zero]
      replace HI := Lib.hid hI
      clear hI
      apply Exists.intro
      repeat
        first
          | (apply Loose.skipT; exact rfl; simp only [Act.put, List.setIfInBounds_toArray, List.set_cons_zero, List.set_cons_succ])
          | (apply Loose.quietT h0L; exact rfl; exact rfl; intro K hK; go_big_quiet_op; go_big_quiet_on)
          | (apply Loose.quietT h0L; exact rfl; exact rfl; intro K hK; go_big_quiet_op; apply Exists.intro; refine ⟨fun w' hw' => ?_, ?_⟩
             · (first | exact rfl | (have l := hw'.all; simp only [Loose.All] at l; go_simp; rfl))
             go_big_quiet_on)
          | (apply Loose.fl32T; exact rfl; (intro w' hw'; apply Exists.intro; apply Exists.intro; refine ⟨?_, ?_⟩; (go_simp; exact ⟨rfl, rfl⟩); exact Fl.fr (by assumption) (by assumption) _ _); intro r_ f_; simp only [Act.put, List.setIfInBounds_toArray, List.set_cons_zero, List.set_cons_succ])
          | (apply Loose.exactT h0L; exact rfl; (intro w' hw'; first | (go_simp; rfl) | (have l := hw'.all; simp only [Loose.All] at l; go_simp; rfl)); simp only [Act.put, List.setIfInBounds_toArray, List.set_cons_zero, List.set_cons_succ])
      apply Loose.doneT
      rintro w3 - hb3 -
      have hI := HI.out.next hb3
      clear HI hb3 h0L
      obtain ⟨r0, r1, r2, r3, g0, g1, g2, g3, hbel⟩ : _ ∧ _ ∧ _ ∧ _ ∧ _ ∧ _ ∧ _ ∧ _ ∧ _ := ⟨hI.r0, hI.r1, hI.r2, hI.r3, hI.g0, hI.g1, hI.g2, hI.g3, hI.bel⟩
      clear hI
      go_wp2
      refine bodyPost_ret (v := .tuple #[.float .f32 y, .agg #[.float .f32 x, .float .f32 a, .float .f32 y, .float .f32 c]]) ?_ rfl ⟨_, _, _, _, _, rfl, hy, hx, ha, hy, hc, (((hbel.setCell (by simp) _).setCell (by simp) _).setCell (by simp) _).setCell (by simp) _⟩
      simp [results, Try.results55, go_sem, r0, r1, r2, r3]
    · go_enter Try.func55, Try.ntmps55
      go_wp2_with fail
      refine Loose.regionC_of (fun W => SpI w W b b0 b1 b2 a1 a2 a b' c d 0 0 0 0) (by kernel_rfl) (by kernel_rfl) (SpI.start p0 p1 p2 p3 p4 ..) ?_
      intro W hI
      have h0L : Loose.All [(⟨b, 0, none⟩, .float .f32 b0), (⟨b, 1, none⟩, .float .f32 b1), (⟨b, 2, none⟩, .float .f32 b2), (⟨b, 3, none⟩, .float .f32 a1), (⟨b, 4, none⟩, .float .f32 a2), (⟨w.heap.size, 0, none⟩, .float .f32 a), (⟨w.heap.size, 1, none⟩, .float .f32 b'), (⟨w.heap.size, 2, none⟩, .float .f32 c), (⟨w.heap.size, 3, none⟩, .float .f32 d)] W := ⟨hI.p0, hI.p1, hI.p2, hI.p3, hI.p4, hI.m0, hI.m1, hI.m2, hI.m3, trivial⟩
      refine ⟨_, h0L, ?_⟩
      have HI := Lib.hid hI
      clear hI
      apply Exists.intro
      repeat
        first
          | (apply Loose.walk_skip; exact rfl; simp only [Act.put, List.setIfInBounds_toArray, List.set_cons_zero, List.set_cons_succ])
          | (apply Loose.quiet h0L; exact rfl; exact rfl; intro K hK; go_big_quiet_op; go_big_quiet_on)
          | (apply Loose.quiet h0L; exact rfl; exact rfl; intro K hK; go_big_quiet_op; apply Exists.intro; refine ⟨fun w' hw' => ?_, ?_⟩
             · (first | exact rfl | (have l := hw'.all; simp only [Loose.All] at l; go_simp; rfl))
             go_big_quiet_on)
          | (apply Loose.fl32; exact rfl; (intro w' hw'; apply Exists.intro; apply Exists.intro; refine ⟨?_, ?_⟩; (go_simp; exact ⟨rfl, rfl⟩); exact Fl.fr (by assumption) (by assumption) _ _); intro r_ f_; simp only [Act.put, List.setIfInBounds_toArray, List.set_cons_zero, List.set_cons_succ])
          | (apply Loose.exact_ h0L; exact rfl; (intro w' hw'; first | (go_simp; rfl) | (have l := hw'.all; simp only [Loose.All] at l; go_simp; rfl)); simp only [Act.put, List.setIfInBounds_toArray, List.set_cons_zero, List.set_cons_succ])
      apply Loose.done
      rintro w3 - hb3 -
      have hI := HI.out.next hb3
      clear HI hb3 h0L
      go_wp2_with fail
      have h0L : Loose.All [(⟨b, 0, none⟩, .float .f32 b0), (⟨b, 1, none⟩, .float .f32 b1), (⟨b, 2, none⟩, .float .f32 b2), (⟨b, 3, none⟩, .float .f32 a1), (⟨b, 4, none⟩, .float .f32 a2), (⟨w.heap.size, 0, none⟩, .float .f32 a), (⟨w.heap.size, 1, none⟩, .float .f32 b'), (⟨w.heap.size, 2, none⟩, .float .f32 c), (⟨w.heap.size, 3, none⟩, .float .f32 d)] _ := ⟨hI.p0, hI.p1, hI.p2, hI.p3, hI.p4, hI.m0, hI.m1, hI.m2, hI.m3, trivial⟩
      refine Loose.regionC [(⟨b, 0, none⟩, .float .f32 b0), (⟨b, 1, none⟩, .float .f32 b1), (⟨b, 2, none⟩, .float .f32 b2), (⟨b, 3, none⟩, .float .f32 a1), (⟨b, 4, none⟩, .float .f32 a2), (⟨w.heap.size, 0, none⟩, .float .f32 a), (⟨w.heap.size, 1, none⟩, .float .f32 b'), (⟨w.heap.size, 2, none⟩, .float .f32 c), (⟨w.heap.size, 3, none⟩, .float .f32 d)] (by kernel_rfl) (by kernel_rfl) h0L ?_
      have HI := Lib.hid hI
      clear hI
      apply Exists.intro
      repeat
        first
          | (apply Loose.walk_skip; exact rfl; simp only [Act.put, List.setIfInBounds_toArray, List.set_cons_zero, List.set_cons_succ])
          | (apply Loose.quiet h0L; exact rfl; exact rfl; intro K hK; go_big_quiet_op; go_big_quiet_on)
          | (apply Loose.quiet h0L; exact rfl; exact rfl; intro K hK; go_big_quiet_op; apply Exists.intro; refine ⟨fun w' hw' => ?_, ?_⟩
             · (first | exact rfl | (have l := hw'.all; simp only [Loose.All] at l; go_simp; rfl))
             go_big_quiet_on)
          | (apply Loose.fl32; exact rfl; (intro w' hw'; apply Exists.intro; apply Exists.intro; refine ⟨?_, ?_⟩; (go_simp; exact ⟨rfl, rfl⟩); exact Fl.fr (by assumption) (by assumption) _ _); intro r_ f_; simp only [Act.put, List.setIfInBounds_toArray, List.set_cons_zero, List.set_cons_succ])
          | (apply Loose.exact_ h0L; exact rfl; (intro w' hw'; first | (go_simp; rfl) | (have l := hw'.all; simp only [Loose.All] at l; go_simp; rfl)); simp only [Act.put, List.setIfInBounds_toArray, List.set_cons_zero, List.set_cons_succ])
      apply Loose.done
      rintro w3 - hb3 -
      have hI := HI.out.next hb3
      clear HI hb3 h0L
      go_wp2_with fail
      have h0L : Loose.All [(⟨b, 0, none⟩, .float .f32 b0), (⟨b, 1, none⟩, .float .f32 b1), (⟨b, 2, none⟩, .float .f32 b2), (⟨b, 3, none⟩, .float .f32 a1), (⟨b, 4, none⟩, .float .f32 a2), (⟨w.heap.size, 0, none⟩, .float .f32 a), (⟨w.heap.size, 1, none⟩, .float .f32 b'), (⟨w.heap.size, 2, none⟩, .float .f32 c), (⟨w.heap.size, 3, none⟩, .float .f32 d)] _ := ⟨hI.p0, hI.p1, hI.p2, hI.p3, hI.p4, hI.m0, hI.m1, hI.m2, hI.m3, trivial⟩
      refine Loose.regionC [(⟨b, 0, none⟩, .float .f32 b0), (⟨b, 1, none⟩, .float .f32 b1), (⟨b, 2, none⟩, .float .f32 b2), (⟨b, 3, none⟩, .float .f32 a1), (⟨b, 4, none⟩, .float .f32 a2), (⟨w.heap.size, 0, none⟩, .float .f32 a), (⟨w.heap.size, 1, none⟩, .float .f32 b'), (⟨w.heap.size, 2, none⟩, .float .f32 c), (⟨w.heap.size, 3, none⟩, .float .f32 d)] (by kernel_rfl) (by kernel_rfl) h0L ?_
      have HI := Lib.hid hI
      clear hI
      apply Exists.intro
      repeat
        first
          | (apply Loose.walk_skip; exact rfl; simp only [Act.put, List.setIfInBounds_toArray, List.set_cons_zero, List.set_cons_succ])
          | (apply Loose.quiet h0L; exact rfl; exact rfl; intro K hK; go_big_quiet_op; go_big_quiet_on)
          | (apply Loose.quiet h0L; exact rfl; exact rfl; intro K hK; go_big_quiet_op; apply Exists.intro; refine ⟨fun w' hw' => ?_, ?_⟩
             · (first | exact rfl | (have l := hw'.all; simp only [Loose.All] at l; go_simp; rfl))
             go_big_quiet_on)
          | (apply Loose.fl32; exact rfl; (intro w' hw'; apply Exists.intro; apply Exists.intro; refine ⟨?_, ?_⟩; (go_simp; exact ⟨rfl, rfl⟩); exact Fl.fr (by assumption) (by assumption) _ _); intro r_ f_; simp only [Act.put, List.setIfInBounds_toArray, List.set_cons_zero, List.set_cons_succ])
          | (apply Loose.exact_ h0L; exact rfl; (intro w' hw'; first | (go_simp; rfl) | (have l := hw'.all; simp only [Loose.All] at l; go_simp; rfl)); simp only [Act.put, List.setIfInBounds_toArray, List.set_cons_zero, List.set_cons_succ])
      apply Loose.done
      rintro w3 - hb3 -
      have hI := HI.out.next hb3
      clear HI hb3 h0L
      go_wp2_with fail
      have h0L : Loose.All [(⟨b, 0, none⟩, .float .f32 b0), (⟨b, 1, none⟩, .float .f32 b1), (⟨b, 2, none⟩, .float .f32 b2), (⟨b, 3, none⟩, .float .f32 a1), (⟨b, 4, none⟩, .float .f32 a2), (⟨w.heap.size, 0, none⟩, .float .f32 a), (⟨w.heap.size, 1, none⟩, .float .f32 b'), (⟨w.heap.size, 2, none⟩, .float .f32 c), (⟨w.heap.size, 3, none⟩, .float .f32 d)] _ := ⟨hI.p0, hI.p1, hI.p2, hI.p3, hI.p4, hI.m0, hI.m1, hI.m2, hI.m3, trivial⟩
      refine Loose.regionC [(⟨b, 0, none⟩, .float .f32 b0), (⟨b, 1, none⟩, .float .f32 b1), (⟨b, 2, none⟩, .float .f32 b2), (⟨b, 3, none⟩, .float .f32 a1), (⟨b, 4, none⟩, .float .f32 a2), (⟨w.heap.size, 0, none⟩, .float .f32 a), (⟨w.heap.size, 1, none⟩, .float .f32 b'), (⟨w.heap.size, 2, none⟩, .float .f32 c), (⟨w.heap.size, 3, none⟩, .float .f32 d)] (by kernel_rfl) (by kernel_rfl) h0L ?_
      have HI := Lib.hid hI
      clear hI
      apply Exists.intro
      repeat
        first
          | (apply Loose.walk_skip; exact rfl; simp only [Act.put, List.setIfInBounds_toArray, List.set_cons_zero, List.set_cons_succ])
          | (apply Loose.quiet h0L; exact rfl; exact rfl; intro K hK; go_big_quiet_op; go_big_quiet_on)
          | (apply Loose.quiet h0L; exact rfl; exact rfl; intro K hK; go_big_quiet_op; apply Exists.intro; refine ⟨fun w' hw' => ?_, ?_⟩
             · (first | exact rfl | (have l := hw'.all; simp only [Loose.All] at l; go_simp; rfl))
             go_big_quiet_on)
          | (apply Loose.fl32; exact rfl; (intro w' hw'; apply Exists.intro; apply Exists.intro; refine ⟨?_, ?_⟩; (go_simp; exact ⟨rfl, rfl⟩); exact Fl.fr (by assumption) (by assumption) _ _); intro r_ f_; simp only [Act.put, List.setIfInBounds_toArray, List.set_cons_zero, List.set_cons_succ])
          | (apply Loose.exact_ h0L; exact rfl; (intro w' hw'; first | (go_simp; rfl) | (have l := hw'.all; simp only [Loose.All] at l; go_simp; rfl)); simp only [Act.put, List.setIfInBounds_toArray, List.set_cons_zero, List.set_cons_succ])
      apply Loose.done
      rintro w3 - hb3 -
      have hI := HI.out.next hb3
      clear HI hb3 h0L
      go_wp2_with fail
      refine (spec_l02Flush f_ _).mono ?_
      rintro e w4 ⟨y, q, rfl, hy, hw4⟩
      replace hI := hI.drewN q
      rw [← hw4] at hI
      clear hw4
      obtain ⟨s0, s1, s2, s3, t0, t1, t2, t3⟩ : _ ∧ _ ∧ _ ∧ _ ∧ _ ∧ _ ∧ _ ∧ _ := ⟨hI.s0, hI.s1, hI.s2, hI.s3, hI.t0, hI.t1, hI.t2, hI.t3⟩
      obtain ⟨m0, m1, m2, m3⟩ : _ ∧ _ ∧ _ ∧ _ := ⟨hI.m0, hI.m1, hI.m2, hI.m3⟩
      have HI := Lib.hid hI
      clear hI
      go_wp2_with fail
      clear s0 s1 s2 s3 t0 t1 t2 t3 m0 m1 m2 m3
      refine Loose.regionT_of (fun W => SpI w W b b0 b1 b2 a1 a2 a b' c d x a y c) 13 (by kernel_rfl) (by kernel_rfl) (by first | exact HI.out.set _ _ _ _ | exact (HI.out.set _ _ _ _).drewN _) ?_
      intro W hI
      have h0L : Loose.All [(⟨w.heap.size + 1 + 1, 0, none⟩, .float .f32 x), (⟨w.heap.size + 1 + 1, 1, none⟩, .float .f32 a), (⟨w.heap.size + 1 + 1, 2, none⟩, .float .f32 y), (⟨w.heap.size + 1 + 1, 3, none⟩, .float .f32 c)] W := ⟨hI.s0, hI.s1, hI.s2, hI.s3, trivial⟩
      refine ⟨_, h0L, ?_⟩
      simp only [List.take_succ_cons, List.take_zero, List.drop_succ_cons, List.drop_zero]
      replace HI := Lib.hid hI
      clear hI
      apply Exists.intro
      repeat
        first
          | (apply Loose.skipT; exact rfl; simp only [Act.put, List.setIfInBounds_toArray, List.set_cons_zero, List.set_cons_succ])
          | (apply Loose.quietT h0L; exact rfl; exact rfl; intro K hK; go_big_quiet_op; go_big_quiet_on)
          | (apply Loose.quietT h0L; exact rfl; exact rfl; intro K hK; go_big_quiet_op; apply Exists.intro; refine ⟨fun w' hw' => ?_, ?_⟩
             · (first | exact rfl | (have l := hw'.all; simp only [Loose.All] at l; go_simp; rfl))
             go_big_quiet_on)
          | (apply Loose.fl32T; exact rfl; (intro w' hw'; apply Exists.intro; apply Exists.intro; refine ⟨?_, ?_⟩; (go_simp; exact ⟨rfl, rfl⟩); exact Fl.fr (by assumption) (by assumption) _ _); intro r_ f_; simp only [Act.put, List.setIfInBounds_toArray, List.set_cons_zero, List.set_cons_succ])
          | (apply Loose.exactT h0L; exact rfl; (intro w' hw'; first | (go_simp; rfl) | (have l := hw'.all; simp only [Loose.All] at l; go_simp; rfl)); simp only [Act.put, List.setIfInBounds_toArray, List.set_cons_zero, List.set_cons_succ])
      apply Loose.flcallT
      · exact rfl
      · intro w' hw'; go_simp; exact ⟨rfl, rfl⟩
      · intro w' hw'; exact (fun W => spec_l01Flush hx W) _
      intro r_0 f_0
      simp only [Act.put, List.setIfInBounds_toArray, List.set_cons_zero, List.set_cons_succ]
      repeat
        first
          | (apply Loose.skipT; exact rfl; simp only [Act.put, List.setIfInBounds_toArray, List.set_cons_zero, List.set_cons_succ])
          | (apply Loose.quietT h0L; exact rfl; exact rfl; intro K hK; go_big_quiet_op; go_big_quiet_on)
          | (apply Loose.quietT h0L; exact rfl; exact rfl; intro K hK; go_big_quiet_op; apply Exists.intro; refine ⟨fun w' hw' => ?_, ?_⟩
             · (first | exact rfl | (have l := hw'.all; simp only [Loose.All] at l; go_simp; rfl))
             go_big_quiet_on)
          | (apply Loose.fl32T; exact rfl; (intro w' hw'; apply Exists.intro; apply Exists.intro; refine ⟨?_, ?_⟩; (go_simp; exact ⟨rfl, rfl⟩); exact Fl.fr (by assumption) (by assumption) _ _); intro r_ f_; simp only [Act.put, List.setIfInBounds_toArray, List.set_cons_zero, List.set_cons_succ])
          | (apply Loose.exactT h0L; exact rfl; (intro w' hw'; first | (go_simp; rfl) | (have l := hw'.all; simp only [Loose.All] at l; go_simp; rfl)); simp only [Act.put, List.setIfInBounds_toArray, List.set_cons_zero, List.set_cons_succ])
      apply Loose.flcallT
      · exact rfl
      · intro w' hw'; go_simp; exact ⟨rfl, rfl⟩
      · intro w' hw'; exact (fun W => spec_l01Flush ha W) _
      intro r_1 f_1
      simp only [Act.put, List.setIfInBounds_toArray, List.set_cons_zero, List.set_cons_succ]
      repeat
        first
          | (apply Loose.skipT; exact rfl; simp only [Act.put, List.setIfInBounds_toArray, List.set_cons_zero, List.set_cons_succ])
          | (apply Loose.quietT h0L; exact rfl; exact rfl; intro K hK; go_big_quiet_op; go_big_quiet_on)
          | (apply Loose.quietT h0L; exact rfl; exact rfl; intro K hK; go_big_quiet_op; apply Exists.intro; refine ⟨fun w' hw' => ?_, ?_⟩
             · (first | exact rfl | (have l := hw'.all; simp only [Loose.All] at l; go_simp; rfl))
             go_big_quiet_on)
          | (apply Loose.fl32T; exact rfl; (intro w' hw'; apply Exists.intro; apply Exists.intro; refine ⟨?_, ?_⟩; (go_simp; exact ⟨rfl, rfl⟩); exact Fl.fr (by assumption) (by assumption) _ _); intro r_ f_; simp only [Act.put, List.setIfInBounds_toArray, List.set_cons_zero, List.set_cons_succ])
          | (apply Loose.exactT h0L; exact rfl; (intro w' hw'; first | (go_simp; rfl) | (have l := hw'.all; simp only [Loose.All] at l; go_simp; rfl)); simp only [Act.put, List.setIfInBounds_toArray, List.set_cons_zero, List.set_cons_succ])
      apply Loose.flcallT
      · exact rfl
      · intro w' hw'; go_simp; exact ⟨rfl, rfl⟩
      · intro w' hw'; exact (fun W => spec_l01Flush hy W) _
      intro r_2 f_2
      simp only [Act.put, List.setIfInBounds_toArray, List.set_cons_zero, List.set_cons_succ]
      repeat
        first
          | (apply Loose.skipT; exact rfl; simp only [Act.put, List.setIfInBounds_toArray, List.set_cons_zero, List.set_cons_succ])
          | (apply Loose.quietT h0L; exact rfl; exact rfl; intro K hK; go_big_quiet_op; go_big_quiet_on)
          | (apply Loose.quietT h0L; exact rfl; exact rfl; intro K hK; go_big_quiet_op; apply Exists.intro; refine ⟨fun w' hw' => ?_, ?_⟩
             · (first | exact rfl | (have l := hw'.all; simp only [Loose.All] at l; go_simp; rfl))
             go_big_quiet_on)
          | (apply Loose.fl32T; exact rfl; (intro w' hw'; apply Exists.intro; apply Exists.intro; refine ⟨?_, ?_⟩; (go_simp; exact ⟨rfl, rfl⟩); exact Fl.fr (by assumption) (by assumption) _ _); intro r_ f_; simp only [Act.put, List.setIfInBounds_toArray, List.set_cons_zero, List.set_cons_succ])
          | (apply Loose.exactT h0L; exact rfl; (intro w' hw'; first | (go_simp; rfl) | (have l := hw'.all; simp only [Loose.All] at l; go_simp; rfl)); simp only [Act.put, List.setIfInBounds_toArray, List.set_cons_zero, List.set_cons_succ])
      apply Loose.flcallT
      · exact rfl
      · intro w' hw'; go_simp; exact ⟨rfl, rfl⟩
      · intro w' hw'; exact (fun W => spec_l01Flush hc W) _
      intro r_3 f_3
      simp only [Act.put, List.setIfInBounds_toArray, List.set_cons_zero, List.set_cons_succ]
      repeat
        first
          | (apply Loose.skipT; exact rfl; simp only [Act.put, List.setIfInBounds_toArray, List.set_cons_zero, List.set_cons_succ])
          | (apply Loose.quietT h0L; exact rfl; exact rfl; intro K hK; go_big_quiet_op; go_big_quiet_on)
          | (apply Loose.quietT h0L; exact rfl; exact rfl; intro K hK; go_big_quiet_op; apply Exists.intro; refine ⟨fun w' hw' => ?_, ?_⟩
             · (first | exact rfl | (have l := hw'.all; simp only [Loose.All] at l; go_simp; rfl))
             go_big_quiet_on)
          | (apply Loose.fl32T; exact rfl; (intro w' hw'; apply Exists.intro; apply Exists.intro; refine ⟨?_, ?_⟩; (go_simp; exact ⟨rfl, rfl⟩); exact Fl.fr (by assumption) (by assumption) _ _); intro r_ f_; simp only [Act.put, List.setIfInBounds_toArray, List.set_cons_zero, List.set_cons_succ])
          | (apply Loose.exactT h0L; exact rfl; (intro w' hw'; first | (go_simp; rfl) | (have l := hw'.all; simp only [Loose.All] at l; go_simp; rfl)); simp only [Act.put, List.setIfInBounds_toArray, List.set_cons_zero, List.set_cons_succ])
      apply Loose.doneT
      rintro w3 - hb3 -
      have hI := HI.out.next hb3
      clear HI hb3 h0L
      obtain ⟨s0, s1, s2, s3, t0, t1, t2, t3⟩ : _ ∧ _ ∧ _ ∧ _ ∧ _ ∧ _ ∧ _ ∧ _ := ⟨hI.s0, hI.s1, hI.s2, hI.s3, hI.t0, hI.t1, hI.t2, hI.t3⟩
      have HI := Lib.hid hI
      clear hI
      go_wp2_with fail
      clear s0 s1 s2 s3 t0 t1 t2 t3
      refine Loose.regionT_of (fun W => SpI w W b b0 b1 b2 a1 a2 a b' c d r_0 r_1 r_2 r_3) 3 (by kernel_rfl) (by kernel_rfl) (by first | exact HI.out.set _ _ _ _ | exact (HI.out.set _ _ _ _).drewN _) ?_
      intro W hI
      have h0L : Loose.All [(⟨w.heap.size + 1 + 1, 0, none⟩, .float .f32 r_0), (⟨w.heap.size + 1 + 1, 1, none⟩, .float .f32 r_1), (⟨w.heap.size + 1 + 1, 2, none⟩, .float .f32 r_2), (⟨w.heap.size + 1 + 1, 3, none⟩, .float .f32 r_3)] W := ⟨hI.s0, hI.s1, hI.s2, hI.s3, trivial⟩
      refine ⟨_, h0L, ?_⟩
      simp only [List.take_succ_cons, List.take_zero, List.drop_succ_cons, List.drop_zero]
      replace HI := Lib.hid hI
      clear hI
      apply Exists.intro
      repeat
        first
          | (apply Loose.skipT; exact rfl; simp only [Act.put, List.setIfInBounds_toArray, List.set_cons_zero, List.set_cons_succ])
          | (apply Loose.quietT h0L; exact rfl; exact rfl; intro K hK; go_big_quiet_op; go_big_quiet_on)
          | (apply Loose.quietT h0L; exact rfl; exact rfl; intro K hK; go_big_quiet_op; apply Exists.intro; refine ⟨fun w' hw' => ?_, ?_⟩
             · (first | exact rfl | (have l := hw'.all; simp only [Loose.All] at l; go_simp; rfl))
             go_big_quiet_on)
          | (apply Loose.fl32T; exact rfl; (intro w' hw'; apply Exists.intro; apply Exists.intro; refine ⟨?_, ?_⟩; (go_simp; exact ⟨rfl, rfl⟩); exact Fl.fr (by assumption) (by assumption) _ _); intro r_ f_; simp only [Act.put, List.setIfInBounds_toArray, List.set_cons_zero, List.set_cons_succ])
          | (apply Loose.exactT h0L; exact rfl; (intro w' hw'; first | (go_simp; rfl) | (have l := hw'.all; simp only [Loose.All] at l; go_simp; rfl)); simp only [Act.put, List.setIfInBounds_toArray, List.set_cons_zero, List.set_cons_succ])
      apply Loose.doneT
      rintro w3 - hb3 -
      have hI := HI.out.next hb3
      clear HI hb3 h0L
      obtain ⟨r0, r1, r2, r3, g0, g1, g2, g3, hbel⟩ : _ ∧ _ ∧ _ ∧ _ ∧ _ ∧ _ ∧ _ ∧ _ ∧ _ := ⟨hI.r0, hI.r1, hI.r2, hI.r3, hI.g0, hI.g1, hI.g2, hI.g3, hI.bel⟩
      clear hI
      go_wp2
      refine bodyPost_ret (v := .tuple #[.float .f32 y, .agg #[.float .f32 r_0, .float .f32 r_1, .float .f32 r_2, .float .f32 r_3]]) ?_ rfl ⟨_, _, _, _, _, rfl, hy, f_0, f_1, f_2, f_3, (((hbel.setCell (by simp) _).setCell (by simp) _).setCell (by simp) _).setCell (by simp) _⟩
      simp [results, Try.results55, go_sem, r0, r1, r2, r3]
  by_cases e1 : form = 1
  · subst e1
    simp only [stY, stA, stB, stC, stD, if_true, if_false, Int.reduceEq]
    cases fl
    · go_enter Try.func55, Try.ntmps55
      go_wp2_with fail
      refine Loose.regionC_of (fun W => SpI w W b b0 b1 b2 a1 a2 a b' c d 0 0 0 0) (by kernel_rfl) (by kernel_rfl) (SpI.start p0 p1 p2 p3 p4 ..) ?_
      intro W hI
      have h0L : Loose.All [(⟨b, 0, none⟩, .float .f32 b0), (⟨b, 1, none⟩, .float .f32 b1), (⟨b, 2, none⟩, .float .f32 b2), (⟨b, 3, none⟩, .float .f32 a1), (⟨b, 4, none⟩, .float .f32 a2), (⟨w.heap.size, 0, none⟩, .float .f32 a), (⟨w.heap.size, 1, none⟩, .float .f32 b'), (⟨w.heap.size, 2, none⟩, .float .f32 c), (⟨w.heap.size, 3, none⟩, .float .f32 d)] W := ⟨hI.p0, hI.p1, hI.p2, hI.p3, hI.p4, hI.m0, hI.m1, hI.m2, hI.m3, trivial⟩
      refine ⟨_, h0L, ?_⟩
      have HI := Lib.hid hI
      clear hI
      apply Exists.intro
      repeat
        first
          | (apply Loose.walk_skip; exact rfl; simp only [Act.put, List.setIfInBounds_toArray, List.set_cons_zero, List.set_cons_succ])
          | (apply Loose.quiet h0L; exact rfl; exact rfl; intro K hK; go_big_quiet_op; go_big_quiet_on)
          | (apply Loose.quiet h0L; exact rfl; exact rfl; intro K hK; go_big_quiet_op; apply Exists.intro; refine ⟨fun w' hw' => ?_, ?_⟩
             · (first | exact rfl | (have l := hw'.all; simp only [Loose.All] at l; go_simp; rfl))
             go_big_quiet_on)
          | (apply Loose.fl32; exact rfl; (intro w' hw'; apply Exists.intro; apply Exists.intro; refine ⟨?_, ?_⟩; (go_simp; exact ⟨rfl, rfl⟩); exact Fl.fr (by assumption) (by assumption) _ _); intro r_ f_; simp only [Act.put, List.setIfInBounds_toArray, List.set_cons_zero, List.set_cons_succ])
          | (apply Loose.exact_ h0L; exact rfl; (intro w' hw'; first | (go_simp; rfl) | (have l := hw'.all; simp only [Loose.All] at l; go_simp; rfl)); simp only [Act.put, List.setIfInBounds_toArray, List.set_cons_zero, List.set_cons_succ])
      apply Loose.flcall
      · exact rfl
      · intro w' hw'; go_simp; exact ⟨rfl, rfl⟩
      · intro w' hw'; exact (fun W => spec_l02Flush f_ W) _
      intro r_y f_y
      simp only [Act.put, List.setIfInBounds_toArray, List.set_cons_zero, List.set_cons_succ]
      repeat
        first
          | (apply Loose.walk_skip; exact rfl; simp only [Act.put, List.setIfInBounds_toArray, List.set_cons_zero, List.set_cons_succ])
          | (apply Loose.quiet h0L; exact rfl; exact rfl; intro K hK; go_big_quiet_op; go_big_quiet_on)
          | (apply Loose.quiet h0L; exact rfl; exact rfl; intro K hK; go_big_quiet_op; apply Exists.intro; refine ⟨fun w' hw' => ?_, ?_⟩
             · (first | exact rfl | (have l := hw'.all; simp only [Loose.All] at l; go_simp; rfl))
             go_big_quiet_on)
          | (apply Loose.fl32; exact rfl; (intro w' hw'; apply Exists.intro; apply Exists.intro; refine ⟨?_, ?_⟩; (go_simp; exact ⟨rfl, rfl⟩); exact Fl.fr (by assumption) (by assumption) _ _); intro r_ f_; simp only [Act.put, List.setIfInBounds_toArray, List.set_cons_zero, List.set_cons_succ])
          | (apply Loose.exact_ h0L; exact rfl; (intro w' hw'; first | (go_simp; rfl) | (have l := hw'.all; simp only [Loose.All] at l; go_simp; rfl)); simp only [Act.put, List.setIfInBounds_toArray, List.set_cons_zero, List.set_cons_succ])
      apply Loose.done
      rintro w3 - hb3 -
      have hI := HI.out.next hb3
      clear HI hb3 h0L
      go_wp2_with fail
      have h0L : Loose.All [(⟨b, 0, none⟩, .float .f32 b0), (⟨b, 1, none⟩, .float .f32 b1), (⟨b, 2, none⟩, .float .f32 b2), (⟨b, 3, none⟩, .float .f32 a1), (⟨b, 4, none⟩, .float .f32 a2), (⟨w.heap.size, 0, none⟩, .float .f32 a), (⟨w.heap.size, 1, none⟩, .float .f32 b'), (⟨w.heap.size, 2, none⟩, .float .f32 c), (⟨w.heap.size, 3, none⟩, .float .f32 d)] _ := ⟨hI.p0, hI.p1, hI.p2, hI.p3, hI.p4, hI.m0, hI.m1, hI.m2, hI.m3, trivial⟩
      refine Loose.regionC [(⟨b, 0, none⟩, .float .f32 b0), (⟨b, 1, none⟩, .float .f32 b1), (⟨b, 2, none⟩, .float .f32 b2), (⟨b, 3, none⟩, .float .f32 a1), (⟨b, 4, none⟩, .float .f32 a2), (⟨w.heap.size, 0, none⟩, .float .f32 a), (⟨w.heap.size, 1, none⟩, .float .f32 b'), (⟨w.heap.size, 2, none⟩, .float .f32 c), (⟨w.heap.size, 3, none⟩, .float .f32 d)] (by kernel_rfl) (by kernel_rfl) h0L ?_
      have HI := Lib.hid hI
      clear hI
      apply Exists.intro
      repeat
        first
          | (apply Loose.walk_skip; exact rfl; simp only [Act.put, List.setIfInBounds_toArray, List.set_cons_zero, List.set_cons_succ])
          | (apply Loose.quiet h0L; exact rfl; exact rfl; intro K hK; go_big_quiet_op; go_big_quiet_on)
          | (apply Loose.quiet h0L; exact rfl; exact rfl; intro K hK; go_big_quiet_op; apply Exists.intro; refine ⟨fun w' hw' => ?_, ?_⟩
             · (first | exact rfl | (have l := hw'.all; simp only [Loose.All] at l; go_simp; rfl))
             go_big_quiet_on)
          | (apply Loose.fl32; exact rfl; (intro w' hw'; apply Exists.intro; apply Exists.intro; refine ⟨?_, ?_⟩; (go_simp; exact ⟨rfl, rfl⟩); exact Fl.fr (by assumption) (by assumption) _ _); intro r_ f_; simp only [Act.put, List.setIfInBounds_toArray, List.set_cons_zero, List.set_cons_succ])
          | (apply Loose.exact_ h0L; exact rfl; (intro w' hw'; first | (go_simp; rfl) | (have l := hw'.all; simp only [Loose.All] at l; go_simp; rfl)); simp only [Act.put, List.setIfInBounds_toArray, List.set_cons_zero, List.set_cons_succ])
      apply Loose.done
      rintro w3 - hb3 -
      have hI := HI.out.next hb3
      clear HI hb3 h0L
      go_wp2_with fail
      have h0L : Loose.All [(⟨b, 0, none⟩, .float .f32 b0), (⟨b, 1, none⟩, .float .f32 b1), (⟨b, 2, none⟩, .float .f32 b2), (⟨b, 3, none⟩, .float .f32 a1), (⟨b, 4, none⟩, .float .f32 a2), (⟨w.heap.size, 0, none⟩, .float .f32 a), (⟨w.heap.size, 1, none⟩, .float .f32 b'), (⟨w.heap.size, 2, none⟩, .float .f32 c), (⟨w.heap.size, 3, none⟩, .float .f32 d)] _ := ⟨hI.p0, hI.p1, hI.p2, hI.p3, hI.p4, hI.m0, hI.m1, hI.m2, hI.m3, trivial⟩
      refine Loose.regionT 18 [(⟨b, 0, none⟩, .float .f32 b0), (⟨b, 1, none⟩, .float .f32 b1), (⟨b, 2, none⟩, .float .f32 b2), (⟨b, 3, none⟩, .float .f32 a1), (⟨b, 4, none⟩, .float .f32 a2), (⟨w.heap.size, 0, none⟩, .float .f32 a), (⟨w.heap.size, 1, none⟩, .float .f32 b'), (⟨w.heap.size, 2, none⟩, .float .f32 c), (⟨w.heap.size, 3, none⟩, .float .f32 d)] (by kernel_rfl) (by kernel_rfl) h0L ?_
      simp only [List.take_succ_cons, List.take_zero, List.drop_succ_cons, List.drop_zero]
      have HI := Lib.hid hI
      clear hI
      apply Exists.intro
      repeat
        first
          | (apply Loose.skipT; exact rfl; simp only [Act.put, List.setIfInBounds_toArray, List.set_cons_zero, List.set_cons_succ])
          | (apply Loose.quietT h0L; exact rfl; exact rfl; intro K hK; go_big_quiet_op; go_big_quiet_on)
          | (apply Loose.quietT h0L; exact rfl; exact rfl; intro K hK; go_big_quiet_op; apply Exists.intro; refine ⟨fun w' hw' => ?_, ?_⟩
             · (first | exact rfl | (have l := hw'.all; simp only [Loose.All] at l; go_simp; rfl))
             go_big_quiet_on)
      apply Loose.fl32T
      · exact rfl
      · intro w' hw'; apply Exists.intro; apply Exists.intro; refine ⟨?_, ?_⟩
        · go_simp; exact ⟨rfl, rfl⟩
        · exact Fl.fr (by assumption) (by assumption) _ _
      intro r_n0 f_n0
      simp only [Act.put, List.setIfInBounds_toArray, List.set_cons_zero, List.set_cons_succ]
      repeat
        first
          | (apply Loose.skipT; exact rfl; simp only [Act.put, List.setIfInBounds_toArray, List.set_cons_zero, List.set_cons_succ])
          | (apply Loose.quietT h0L; exact rfl; exact rfl; intro K hK; go_big_quiet_op; go_big_quiet_on)
          | (apply Loose.quietT h0L; exact rfl; exact rfl; intro K hK; go_big_quiet_op; apply Exists.intro; refine ⟨fun w' hw' => ?_, ?_⟩
             · (first | exact rfl | (have l := hw'.all; simp only [Loose.All] at l; go_simp; rfl))
             go_big_quiet_on)
          | (apply Loose.fl32T; exact rfl; (intro w' hw'; apply Exists.intro; apply Exists.intro; refine ⟨?_, ?_⟩; (go_simp; exact ⟨rfl, rfl⟩); exact Fl.fr (by assumption) (by assumption) _ _); intro r_ f_; simp only [Act.put, List.setIfInBounds_toArray, List.set_cons_zero, List.set_cons_succ])
          | (apply Loose.exactT h0L; exact rfl; (intro w' hw'; first | (go_simp; rfl) | (have l := hw'.all; simp only [Loose.All] at l; go_simp; rfl)); simp only [Act.put, List.setIfInBounds_toArray, List.set_cons_zero, List.set_cons_succ])
      apply Loose.doneT
      rintro w3 - hb3 -
      have hI := HI.out.next hb3
      clear HI hb3 h0L
      obtain ⟨s0, s1, s2, s3, t0, t1, t2, t3⟩ : _ ∧ _ ∧ _ ∧ _ ∧ _ ∧ _ ∧ _ ∧ _ := ⟨hI.s0, hI.s1, hI.s2, hI.s3, hI.t0, hI.t1, hI.t2, hI.t3⟩
      obtain ⟨m0, m1, m2, m3⟩ : _ ∧ _ ∧ _ ∧ _ := ⟨hI.m0, hI.m1, hI.m2, hI.m3⟩
      have HI := Lib.hid hI
      clear hI
      go_wp2_with fail
      clear s0 s1 s2 s3 t0 t1 t2 t3 m0 m1 m2 m3
      refine Loose.regionT_of (fun W => SpI w W b b0 b1 b2 a1 a2 a b' c d r_n0 r_ 0 0) 3 (by kernel_rfl) (by kernel_rfl) (by first | exact HI.out.set _ _ _ _ | exact (HI.out.set _ _ _ _).drewN _) ?_
      intro W hI
      have h0L : Loose.All [(⟨w.heap.size + 1 + 1, 0, none⟩, .float .f32 r_n0), (⟨w.heap.size + 1 + 1, 1, none⟩, .float .f32 r_), (⟨w.heap.size + 1 + 1, 2, none⟩, .float .f32 0), (⟨w.heap.size + 1 + 1, 3, none⟩, .float .f32 0)] W := ⟨hI.s0, hI.s1, hI.s2, hI.s3, trivial⟩
      refine ⟨_, h0L, ?_⟩
      simp only [List.take_succ_cons, List.take_zero, List.drop_succ_cons, List.drop_zero]
      replace HI := Lib.hid hI
      clear hI
      apply Exists.intro
      repeat
        first
          | (apply Loose.skipT; exact rfl; simp only [Act.put, List.setIfInBounds_toArray, List.set_cons_zero, List.set_cons_succ])
          | (apply Loose.quietT h0L; exact rfl; exact rfl; intro K hK; go_big_quiet_op; go_big_quiet_on)
          | (apply Loose.quietT h0L; exact rfl; exact rfl; intro K hK; go_big_quiet_op; apply Exists.intro; refine ⟨fun w' hw' => ?_, ?_⟩
             · (first | exact rfl | (have l := hw'.all; simp only [Loose.All] at l; go_simp; rfl))
             go_big_quiet_on)
          | (apply Loose.fl32T; exact rfl; (intro w' hw'; apply Exists.intro; apply Exists.intro; refine ⟨?_, ?_⟩; (go_simp; exact ⟨rfl, rfl⟩); exact Fl.fr (by assumption) (by assumption) _ _); intro r_ f_; simp only [Act.put, List.setIfInBounds_toArray, List.set_cons_zero, List.set_cons_succ])
          | (apply Loose.exactT h0L; exact rfl; (intro w' hw'; first | (go_simp; rfl) | (have l := hw'.all; simp only [Loose.All] at l; go_simp; rfl)); simp only [Act.put, List.setIfInBounds_toArray, List.set_cons_zero, List.set_cons_succ])
      apply Loose.doneT
      rintro w3 - hb3 -
      have hI := HI.out.next hb3
      clear HI hb3 h0L
      obtain ⟨r0, r1, r2, r3, g0, g1, g2, g3, hbel⟩ : _ ∧ _ ∧ _ ∧ _ ∧ _ ∧ _ ∧ _ ∧ _ ∧ _ := ⟨hI.r0, hI.r1, hI.r2, hI.r3, hI.g0, hI.g1, hI.g2, hI.g3, hI.bel⟩
      clear hI
      go_wp2
      refine bodyPost_ret (v := .tuple #[.float .f32 r_y, .agg #[.float .f32 r_n0, .float .f32 r_, .float .f32 0, .float .f32 0]]) ?_ rfl ⟨_, _, _, _, _, rfl, f_y, f_n0, f_, zero32, zero32, (((hbel.setCell (by simp) _).setCell (by simp) _).setCell (by simp) _).setCell (by simp) _⟩
      simp [results, Try.results55, go_sem, r0, r1, r2, r3]
    · go_enter Try.func55, Try.ntmps55
      go_wp2_with fail
      refine Loose.regionC_of (fun W => SpI w W b b0 b1 b2 a1 a2 a b' c d 0 0 0 0) (by kernel_rfl) (by kernel_rfl) (SpI.start p0 p1 p2 p3 p4 ..) ?_
      intro W hI
      have h0L : Loose.All [(⟨b, 0, none⟩, .float .f32 b0), (⟨b, 1, none⟩, .float .f32 b1), (⟨b, 2, none⟩, .float .f32 b2), (⟨b, 3, none⟩, .float .f32 a1), (⟨b, 4, none⟩, .float .f32 a2), (⟨w.heap.size, 0, none⟩, .float .f32 a), (⟨w.heap.size, 1, none⟩, .float .f32 b'), (⟨w.heap.size, 2, none⟩, .float .f32 c), (⟨w.heap.size, 3, none⟩, .float .f32 d)] W := ⟨hI.p0, hI.p1, hI.p2, hI.p3, hI.p4, hI.m0, hI.m1, hI.m2, hI.m3, trivial⟩
      refine ⟨_, h0L, ?_⟩
      have HI := Lib.hid hI
      clear hI
      apply Exists.intro
      repeat
        first
          | (apply Loose.walk_skip; exact rfl; simp only [Act.put, List.setIfInBounds_toArray, List.set_cons_zero, List.set_cons_succ])
          | (apply Loose.quiet h0L; exact rfl; exact rfl; intro K hK; go_big_quiet_op; go_big_quiet_on)
          | (apply Loose.quiet h0L; exact rfl; exact rfl; intro K hK; go_big_quiet_op; apply Exists.intro; refine ⟨fun w' hw' => ?_, ?_⟩
             · (first | exact rfl | (have l := hw'.all; simp only [Loose.All] at l; go_simp; rfl))
             go_big_quiet_on)
          | (apply Loose.fl32; exact rfl; (intro w' hw'; apply Exists.intro; apply Exists.intro; refine ⟨?_, ?_⟩; (go_simp; exact ⟨rfl, rfl⟩); exact Fl.fr (by assumption) (by assumption) _ _); intro r_ f_; simp only [Act.put, List.setIfInBounds_toArray, List.set_cons_zero, List.set_cons_succ])
          | (apply Loose.exact_ h0L; exact rfl; (intro w' hw'; first | (go_simp; rfl) | (have l := hw'.all; simp only [Loose.All] at l; go_simp; rfl)); simp only [Act.put, List.setIfInBounds_toArray, List.set_cons_zero, List.set_cons_succ])
      apply Loose.flcall
      · exact rfl
      · intro w' hw'; go_simp; exact ⟨rfl, rfl⟩
      · intro w' hw'; exact (fun W => spec_l02Flush f_ W) _
      intro r_y f_y
      simp only [Act.put, List.setIfInBounds_toArray, List.set_cons_zero, List.set_cons_succ]
      repeat
        first
          | (apply Loose.walk_skip; exact rfl; simp only [Act.put, List.setIfInBounds_toArray, List.set_cons_zero, List.set_cons_succ])
          | (apply Loose.quiet h0L; exact rfl; exact rfl; intro K hK; go_big_quiet_op; go_big_quiet_on)
          | (apply Loose.quiet h0L; exact rfl; exact rfl; intro K hK; go_big_quiet_op; apply Exists.intro; refine ⟨fun w' hw' => ?_, ?_⟩
             · (first | exact rfl | (have l := hw'.all; simp only [Loose.All] at l; go_simp; rfl))
             go_big_quiet_on)
          | (apply Loose.fl32; exact rfl; (intro w' hw'; apply Exists.intro; apply Exists.intro; refine ⟨?_, ?_⟩; (go_simp; exact ⟨rfl, rfl⟩); exact Fl.fr (by assumption) (by assumption) _ _); intro r_ f_; simp only [Act.put, List.setIfInBounds_toArray, List.set_cons_zero, List.set_cons_succ])
          | (apply Loose.exact_ h0L; exact rfl; (intro w' hw'; first | (go_simp; rfl) | (have l := hw'.all; simp only [Loose.All] at l; go_simp; rfl)); simp only [Act.put, List.setIfInBounds_toArray, List.set_cons_zero, List.set_cons_succ])
      apply Loose.done
      rintro w3 - hb3 -
      have hI := HI.out.next hb3
      clear HI hb3 h0L
      go_wp2_with fail
      have h0L : Loose.All [(⟨b, 0, none⟩, .float .f32 b0), (⟨b, 1, none⟩, .float .f32 b1), (⟨b, 2, none⟩, .float .f32 b2), (⟨b, 3, none⟩, .float .f32 a1), (⟨b, 4, none⟩, .float .f32 a2), (⟨w.heap.size, 0, none⟩, .float .f32 a), (⟨w.heap.size, 1, none⟩, .float .f32 b'), (⟨w.heap.size, 2, none⟩, .float .f32 c), (⟨w.heap.size, 3, none⟩, .float .f32 d)] _ := ⟨hI.p0, hI.p1, hI.p2, hI.p3, hI.p4, hI.m0, hI.m1, hI.m2, hI.m3, trivial⟩
      refine Loose.regionC [(⟨b, 0, none⟩, .float .f32 b0), (⟨b, 1, none⟩, .float .f32 b1), (⟨b, 2, none⟩, .float .f32 b2), (⟨b, 3, none⟩, .float .f32 a1), (⟨b, 4, none⟩, .float .f32 a2), (⟨w.heap.size, 0, none⟩, .float .f32 a), (⟨w.heap.size, 1, none⟩, .float .f32 b'), (⟨w.heap.size, 2, none⟩, .float .f32 c), (⟨w.heap.size, 3, none⟩, .float .f32 d)] (by kernel_rfl) (by kernel_rfl) h0L ?_
      have HI := Lib.hid hI
      clear hI
      apply Exists.intro
      repeat
        first
          | (apply Loose.walk_skip; exact rfl; simp only [Act.put, List.setIfInBounds_toArray, List.set_cons_zero, List.set_cons_succ])
          | (apply Loose.quiet h0L; exact rfl; exact rfl; intro K hK; go_big_quiet_op; go_big_quiet_on)
          | (apply Loose.quiet h0L; exact rfl; exact rfl; intro K hK; go_big_quiet_op; apply Exists.intro; refine ⟨fun w' hw' => ?_, ?_⟩
             · (first | exact rfl | (have l := hw'.all; simp only [Loose.All] at l; go_simp; rfl))
             go_big_quiet_on)
          | (apply Loose.fl32; exact rfl; (intro w' hw'; apply Exists.intro; apply Exists.intro; refine ⟨?_, ?_⟩; (go_simp; exact ⟨rfl, rfl⟩); exact Fl.fr (by assumption) (by assumption) _ _); intro r_ f_; simp only [Act.put, List.setIfInBounds_toArray, List.set_cons_zero, List.set_cons_succ])
          | (apply Loose.exact_ h0L; exact rfl; (intro w' hw'; first | (go_simp; rfl) | (have l := hw'.all; simp only [Loose.All] at l; go_simp; rfl)); simp only [Act.put, List.setIfInBounds_toArray, List.set_cons_zero, List.set_cons_succ])
      apply Loose.done
      rintro w3 - hb3 -
      have hI := HI.out.next hb3
      clear HI hb3 h0L
      go_wp2_with fail
      have h0L : Loose.All [(⟨b, 0, none⟩, .float .f32 b0), (⟨b, 1, none⟩, .float .f32 b1), (⟨b, 2, none⟩, .float .f32 b2), (⟨b, 3, none⟩, .float .f32 a1), (⟨b, 4, none⟩, .float .f32 a2), (⟨w.heap.size, 0, none⟩, .float .f32 a), (⟨w.heap.size, 1, none⟩, .float .f32 b'), (⟨w.heap.size, 2, none⟩, .float .f32 c), (⟨w.heap.size, 3, none⟩, .float .f32 d)] _ := ⟨hI.p0, hI.p1, hI.p2, hI.p3, hI.p4, hI.m0, hI.m1, hI.m2, hI.m3, trivial⟩
      refine Loose.regionT 18 [(⟨b, 0, none⟩, .float .f32 b0), (⟨b, 1, none⟩, .float .f32 b1), (⟨b, 2, none⟩, .float .f32 b2), (⟨b, 3, none⟩, .float .f32 a1), (⟨b, 4, none⟩, .float .f32 a2), (⟨w.heap.size, 0, none⟩, .float .f32 a), (⟨w.heap.size, 1, none⟩, .float .f32 b'), (⟨w.heap.size, 2, none⟩, .float .f32 c), (⟨w.heap.size, 3, none⟩, .float .f32 d)] (by kernel_rfl) (by kernel_rfl) h0L ?_
      simp only [List.take_succ_cons, List.take_zero, List.drop_succ_cons, List.drop_zero]
      have HI := Lib.hid hI
      clear hI
      apply Exists.intro
      repeat
        first
          | (apply Loose.skipT; exact rfl; simp only [Act.put, List.setIfInBounds_toArray, List.set_cons_zero, List.set_cons_succ])
          | (apply Loose.quietT h0L; exact rfl; exact rfl; intro K hK; go_big_quiet_op; go_big_quiet_on)
          | (apply Loose.quietT h0L; exact rfl; exact rfl; intro K hK; go_big_quiet_op; apply Exists.intro; refine ⟨fun w' hw' => ?_, ?_⟩
             · (first | exact rfl | (have l := hw'.all; simp only [Loose.All] at l; go_simp; rfl))
             go_big_quiet_on)
      apply Loose.fl32T
      · exact rfl
      · intro w' hw'; apply Exists.intro; apply Exists.intro; refine ⟨?_, ?_⟩
        · go_simp; exact ⟨rfl, rfl⟩
        · exact Fl.fr (by assumption) (by assumption) _ _
      intro r_n0 f_n0
      simp only [Act.put, List.setIfInBounds_toArray, List.set_cons_zero, List.set_cons_succ]
      repeat
        first
          | (apply Loose.skipT; exact rfl; simp only [Act.put, List.setIfInBounds_toArray, List.set_cons_zero, List.set_cons_succ])
          | (apply Loose.quietT h0L; exact rfl; exact rfl; intro K hK; go_big_quiet_op; go_big_quiet_on)
          | (apply Loose.quietT h0L; exact rfl; exact rfl; intro K hK; go_big_quiet_op; apply Exists.intro; refine ⟨fun w' hw' => ?_, ?_⟩
             · (first | exact rfl | (have l := hw'.all; simp only [Loose.All] at l; go_simp; rfl))
             go_big_quiet_on)
          | (apply Loose.fl32T; exact rfl; (intro w' hw'; apply Exists.intro; apply Exists.intro; refine ⟨?_, ?_⟩; (go_simp; exact ⟨rfl, rfl⟩); exact Fl.fr (by assumption) (by assumption) _ _); intro r_ f_; simp only [Act.put, List.setIfInBounds_toArray, List.set_cons_zero, List.set_cons_succ])
          | (apply Loose.exactT h0L; exact rfl; (intro w' hw'; first | (go_simp; rfl) | (have l := hw'.all; simp only [Loose.All] at l; go_simp; rfl)); simp only [Act.put, List.setIfInBounds_toArray, List.set_cons_zero, List.set_cons_succ])
      apply Loose.doneT
      rintro w3 - hb3 -
      have hI := HI.out.next hb3
      clear HI hb3 h0L
      obtain ⟨s0, s1, s2, s3, t0, t1, t2, t3⟩ : _ ∧ _ ∧ _ ∧ _ ∧ _ ∧ _ ∧ _ ∧ _ := ⟨hI.s0, hI.s1, hI.s2, hI.s3, hI.t0, hI.t1, hI.t2, hI.t3⟩
      obtain ⟨m0, m1, m2, m3⟩ : _ ∧ _ ∧ _ ∧ _ := ⟨hI.m0, hI.m1, hI.m2, hI.m3⟩
      have HI := Lib.hid hI
      clear hI
      go_wp2_with fail
      clear s0 s1 s2 s3 t0 t1 t2 t3 m0 m1 m2 m3
      refine Loose.regionT_of (fun W => SpI w W b b0 b1 b2 a1 a2 a b' c d r_n0 r_ 0 0) 13 (by kernel_rfl) (by kernel_rfl) (by first | exact HI.out.set _ _ _ _ | exact (HI.out.set _ _ _ _).drewN _) ?_
      intro W hI
      have h0L : Loose.All [(⟨w.heap.size + 1 + 1, 0, none⟩, .float .f32 r_n0), (⟨w.heap.size + 1 + 1, 1, none⟩, .float .f32 r_), (⟨w.heap.size + 1 + 1, 2, none⟩, .float .f32 0), (⟨w.heap.size + 1 + 1, 3, none⟩, .float .f32 0)] W := ⟨hI.s0, hI.s1, hI.s2, hI.s3, trivial⟩
      refine ⟨_, h0L, ?_⟩
      simp only [List.take_succ_cons, List.take_zero, List.drop_succ_cons, List.drop_zero]
      replace HI := Lib.hid hI
      clear hI
      apply Exists.intro
      repeat
        first
          | (apply Loose.skipT; exact rfl; simp only [Act.put, List.setIfInBounds_toArray, List.set_cons_zero, List.set_cons_succ])
          | (apply Loose.quietT h0L; exact rfl; exact rfl; intro K hK; go_big_quiet_op; go_big_quiet_on)
          | (apply Loose.quietT h0L; exact rfl; exact rfl; intro K hK; go_big_quiet_op; apply Exists.intro; refine ⟨fun w' hw' => ?_, ?_⟩
             · (first | exact rfl | (have l := hw'.all; simp only [Loose.All] at l; go_simp; rfl))
             go_big_quiet_on)
          | (apply Loose.fl32T; exact rfl; (intro w' hw'; apply Exists.intro; apply Exists.intro; refine ⟨?_, ?_⟩; (go_simp; exact ⟨rfl, rfl⟩); exact Fl.fr (by assumption) (by assumption) _ _); intro r_ f_; simp only [Act.put, List.setIfInBounds_toArray, List.set_cons_zero, List.set_cons_succ])
          | (apply Loose.exactT h0L; exact rfl; (intro w' hw'; first | (go_simp; rfl) | (have l := hw'.all; simp only [Loose.All] at l; go_simp; rfl)); simp only [Act.put, List.setIfInBounds_toArray, List.set_cons_zero, List.set_cons_succ])
      apply Loose.flcallT
      · exact rfl
      · intro w' hw'; go_simp; exact ⟨rfl, rfl⟩
      · intro w' hw'; exact (fun W => spec_l01Flush f_n0 W) _
      intro r_0 f_0
      simp only [Act.put, List.setIfInBounds_toArray, List.set_cons_zero, List.set_cons_succ]
      repeat
        first
          | (apply Loose.skipT; exact rfl; simp only [Act.put, List.setIfInBounds_toArray, List.set_cons_zero, List.set_cons_succ])
          | (apply Loose.quietT h0L; exact rfl; exact rfl; intro K hK; go_big_quiet_op; go_big_quiet_on)
          | (apply Loose.quietT h0L; exact rfl; exact rfl; intro K hK; go_big_quiet_op; apply Exists.intro; refine ⟨fun w' hw' => ?_, ?_⟩
             · (first | exact rfl | (have l := hw'.all; simp only [Loose.All] at l; go_simp; rfl))
             go_big_quiet_on)
          | (apply Loose.fl32T; exact rfl; (intro w' hw'; apply Exists.intro; apply Exists.intro; refine ⟨?_, ?_⟩; (go_simp; exact ⟨rfl, rfl⟩); exact Fl.fr (by assumption) (by assumption) _ _); intro r_ f_; simp only [Act.put, List.setIfInBounds_toArray, List.set_cons_zero, List.set_cons_succ])
          | (apply Loose.exactT h0L; exact rfl; (intro w' hw'; first | (go_simp; rfl) | (have l := hw'.all; simp only [Loose.All] at l; go_simp; rfl)); simp only [Act.put, List.setIfInBounds_toArray, List.set_cons_zero, List.set_cons_succ])
      apply Loose.flcallT
      · exact rfl
      · intro w' hw'; go_simp; exact ⟨rfl, rfl⟩
      · intro w' hw'; exact (fun W => spec_l01Flush f_ W) _
      intro r_1 f_1
      simp only [Act.put, List.setIfInBounds_toArray, List.set_cons_zero, List.set_cons_succ]
      repeat
        first
          | (apply Loose.skipT; exact rfl; simp only [Act.put, List.setIfInBounds_toArray, List.set_cons_zero, List.set_cons_succ])
          | (apply Loose.quietT h0L; exact rfl; exact rfl; intro K hK; go_big_quiet_op; go_big_quiet_on)
          | (apply Loose.quietT h0L; exact rfl; exact rfl; intro K hK; go_big_quiet_op; apply Exists.intro; refine ⟨fun w' hw' => ?_, ?_⟩
             · (first | exact rfl | (have l := hw'.all; simp only [Loose.All] at l; go_simp; rfl))
             go_big_quiet_on)
          | (apply Loose.fl32T; exact rfl; (intro w' hw'; apply Exists.intro; apply Exists.intro; refine ⟨?_, ?_⟩; (go_simp; exact ⟨rfl, rfl⟩); exact Fl.fr (by assumption) (by assumption) _ _); intro r_ f_; simp only [Act.put, List.setIfInBounds_toArray, List.set_cons_zero, List.set_cons_succ])
          | (apply Loose.exactT h0L; exact rfl; (intro w' hw'; first | (go_simp; rfl) | (have l := hw'.all; simp only [Loose.All] at l; go_simp; rfl)); simp only [Act.put, List.setIfInBounds_toArray, List.set_cons_zero, List.set_cons_succ])
      apply Loose.flcallT
      · exact rfl
      · intro w' hw'; go_simp; exact ⟨rfl, rfl⟩
      · intro w' hw'; exact (fun W => spec_l01Flush zero32 W) _
      intro r_2 f_2
      simp only [Act.put, List.setIfInBounds_toArray, List.set_cons_zero, List.set_cons_succ]
      repeat
        first
          | (apply Loose.skipT; exact rfl; simp only [Act.put, List.setIfInBounds_toArray, List.set_cons_zero, List.set_cons_succ])
          | (apply Loose.quietT h0L; exact rfl; exact rfl; intro K hK; go_big_quiet_op; go_big_quiet_on)
          | (apply Loose.quietT h0L; exact rfl; exact rfl; intro K hK; go_big_quiet_op; apply Exists.intro; refine ⟨fun w' hw' => ?_, ?_⟩
             · (first | exact rfl | (have l := hw'.all; simp only [Loose.All] at l; go_simp; rfl))
             go_big_quiet_on)
          | (apply Loose.fl32T; exact rfl; (intro w' hw'; apply Exists.intro; apply Exists.intro; refine ⟨?_, ?_⟩; (go_simp; exact ⟨rfl, rfl⟩); exact Fl.fr (by assumption) (by assumption) _ _); intro r_ f_; simp only [Act.put, List.setIfInBounds_toArray, List.set_cons_zero, List.set_cons_succ])
          | (apply Loose.exactT h0L; exact rfl; (intro w' hw'; first | (go_simp; rfl) | (have l := hw'.all; simp only [Loose.All] at l; go_simp; rfl)); simp only [Act.put, List.setIfInBounds_toArray, List.set_cons_zero, List.set_cons_succ])
      apply Loose.flcallT
      · exact rfl
      · intro w' hw'; go_simp; exact ⟨rfl, rfl⟩
      · intro w' hw'; exact (fun W => spec_l01Flush zero32 W) _
      intro r_3 f_3
      simp only [Act.put, List.setIfInBounds_toArray, List.set_cons_zero, List.set_cons_succ]
      repeat
        first
          | (apply Loose.skipT; exact rfl; simp only [Act.put, List.setIfInBounds_toArray, List.set_cons_zero, List.set_cons_succ])
          | (apply Loose.quietT h0L; exact rfl; exact rfl; intro K hK; go_big_quiet_op; go_big_quiet_on)
          | (apply Loose.quietT h0L; exact rfl; exact rfl; intro K hK; go_big_quiet_op; apply Exists.intro; refine ⟨fun w' hw' => ?_, ?_⟩
             · (first | exact rfl | (have l := hw'.all; simp only [Loose.All] at l; go_simp; rfl))
             go_big_quiet_on)
          | (apply Loose.fl32T; exact rfl; (intro w' hw'; apply Exists.intro; apply Exists.intro; refine ⟨?_, ?_⟩; (go_simp; exact ⟨rfl, rfl⟩); exact Fl.fr (by assumption) (by assumption) _ _); intro r_ f_; simp only [Act.put, List.setIfInBounds_toArray, List.set_cons_zero, List.set_cons_succ])
          | (apply Loose.exactT h0L; exact rfl; (intro w' hw'; first | (go_simp; rfl) | (have l := hw'.all; simp only [Loose.All] at l; go_simp; rfl)); simp only [Act.put, List.setIfInBounds_toArray, List.set_cons_zero, List.set_cons_succ])
      apply Loose.doneT
      rintro w3 - hb3 -
      have hI := HI.out.next hb3
      clear HI hb3 h0L
      obtain ⟨s0, s1, s2, s3, t0, t1, t2, t3⟩ : _ ∧ _ ∧ _ ∧ _ ∧ _ ∧ _ ∧ _ ∧ _ := ⟨hI.s0, hI.s1, hI.s2, hI.s3, hI.t0, hI.t1, hI.t2, hI.t3⟩
      have HI := Lib.hid hI
      clear hI
      go_wp2_with fail
      clear s0 s1 s2 s3 t0 t1 t2 t3
      refine Loose.regionT_of (fun W => SpI w W b b0 b1 b2 a1 a2 a b' c d r_0 r_1 r_2 r_3) 3 (by kernel_rfl) (by kernel_rfl) (by first | exact HI.out.set _ _ _ _ | exact (HI.out.set _ _ _ _).drewN _) ?_
      intro W hI
      have h0L : Loose.All [(⟨w.heap.size + 1 + 1, 0, none⟩, .float .f32 r_0), (⟨w.heap.size + 1 + 1, 1, none⟩, .float .f32 r_1), (⟨w.heap.size + 1 + 1, 2, none⟩, .float .f32 r_2), (⟨w.heap.size + 1 + 1, 3, none⟩, .float .f32 r_3)] W := ⟨hI.s0, hI.s1, hI.s2, hI.s3, trivial⟩
      refine ⟨_, h0L, ?_⟩
      simp only [List.take_succ_cons, List.take_zero, List.drop_succ_cons, List.drop_zero]
      replace HI := Lib.hid hI
      clear hI
      apply Exists.intro
      repeat
        first
          | (apply Loose.skipT; exact rfl; simp only [Act.put, List.setIfInBounds_toArray, List.set_cons_zero, List.set_cons_succ])
          | (apply Loose.quietT h0L; exact rfl; exact rfl; intro K hK; go_big_quiet_op; go_big_quiet_on)
          | (apply Loose.quietT h0L; exact rfl; exact rfl; intro K hK; go_big_quiet_op; apply Exists.intro; refine ⟨fun w' hw' => ?_, ?_⟩
             · (first | exact rfl | (have l := hw'.all; simp only [Loose.All] at l; go_simp; rfl))
             go_big_quiet_on)
          | (apply Loose.fl32T; exact rfl; (intro w' hw'; apply Exists.intro; apply Exists.intro; refine ⟨?_, ?_⟩; (go_simp; exact ⟨rfl, rfl⟩); exact Fl.fr (by assumption) (by assumption) _ _); intro r_ f_; simp only [Act.put, List.setIfInBounds_toArray, List.set_cons_zero, List.set_cons_succ])
          | (apply Loose.exactT h0L; exact rfl; (intro w' hw'; first | (go_simp; rfl) | (have l := hw'.all; simp only [Loose.All] at l; go_simp; rfl)); simp only [Act.put, List.setIfInBounds_toArray, List.set_cons_zero, List.set_cons_succ])
      apply Loose.doneT
      rintro w3 - hb3 -
      have hI := HI.out.next hb3
      clear HI hb3 h0L
      obtain ⟨r0, r1, r2, r3, g0, g1, g2, g3, hbel⟩ : _ ∧ _ ∧ _ ∧ _ ∧ _ ∧ _ ∧ _ ∧ _ ∧ _ := ⟨hI.r0, hI.r1, hI.r2, hI.r3, hI.g0, hI.g1, hI.g2, hI.g3, hI.bel⟩
      clear hI
      go_wp2
      refine bodyPost_ret (v := .tuple #[.float .f32 r_y, .agg #[.float .f32 r_0, .float .f32 r_1, .float .f32 r_2, .float .f32 r_3]]) ?_ rfl ⟨_, _, _, _, _, rfl, f_y, f_0, f_1, f_2, f_3, (((hbel.setCell (by simp) _).setCell (by simp) _).setCell (by simp) _).setCell (by simp) _⟩
      simp [results, Try.results55, go_sem, r0, r1, r2, r3]
  · have E0 : (form == 0) = false := by simpa using e0
    have E1 : (form == 1) = false := by simpa using e1
    simp only [stY, stA, stB, stC, stD, if_neg e0, if_neg e1]
    clear e0 e1
    cases fl
    · go_enter Try.func55, Try.ntmps55
      go_wp2_with fail
      refine Loose.regionC_of (fun W => SpI w W b b0 b1 b2 a1 a2 a b' c d 0 0 0 0) (by kernel_rfl) (by kernel_rfl) (SpI.start p0 p1 p2 p3 p4 ..) ?_
      intro W hI
      have h0L : Loose.All [(⟨b, 0, none⟩, .float .f32 b0), (⟨b, 1, none⟩, .float .f32 b1), (⟨b, 2, none⟩, .float .f32 b2), (⟨b, 3, none⟩, .float .f32 a1), (⟨b, 4, none⟩, .float .f32 a2), (⟨w.heap.size, 0, none⟩, .float .f32 a), (⟨w.heap.size, 1, none⟩, .float .f32 b'), (⟨w.heap.size, 2, none⟩, .float .f32 c), (⟨w.heap.size, 3, none⟩, .float .f32 d)] W := ⟨hI.p0, hI.p1, hI.p2, hI.p3, hI.p4, hI.m0, hI.m1, hI.m2, hI.m3, trivial⟩
      refine ⟨_, h0L, ?_⟩
      have HI := Lib.hid hI
      clear hI
      apply Exists.intro
      repeat
        first
          | (apply Loose.walk_skip; exact rfl; simp only [Act.put, List.setIfInBounds_toArray, List.set_cons_zero, List.set_cons_succ])
          | (apply Loose.quiet h0L; exact rfl; exact rfl; intro K hK; go_big_quiet_op; go_big_quiet_on)
          | (apply Loose.quiet h0L; exact rfl; exact rfl; intro K hK; go_big_quiet_op; apply Exists.intro; refine ⟨fun w' hw' => ?_, ?_⟩
             · (first | exact rfl | (have l := hw'.all; simp only [Loose.All] at l; go_simp; rfl))
             go_big_quiet_on)
          | (apply Loose.fl32; exact rfl; (intro w' hw'; apply Exists.intro; apply Exists.intro; refine ⟨?_, ?_⟩; (go_simp; exact ⟨rfl, rfl⟩); exact Fl.fr (by assumption) (by assumption) _ _); intro r_ f_; simp only [Act.put, List.setIfInBounds_toArray, List.set_cons_zero, List.set_cons_succ])
          | (apply Loose.exact_ h0L; exact rfl; (intro w' hw'; first | (go_simp; rfl) | (have l := hw'.all; simp only [Loose.All] at l; go_simp; rfl)); simp only [Act.put, List.setIfInBounds_toArray, List.set_cons_zero, List.set_cons_succ])
      apply Loose.done
      rintro w3 - hb3 -
      have hI := HI.out.next hb3
      clear HI hb3 h0L
      go_wp2_with fail
      have h0L : Loose.All [(⟨b, 0, none⟩, .float .f32 b0), (⟨b, 1, none⟩, .float .f32 b1), (⟨b, 2, none⟩, .float .f32 b2), (⟨b, 3, none⟩, .float .f32 a1), (⟨b, 4, none⟩, .float .f32 a2), (⟨w.heap.size, 0, none⟩, .float .f32 a), (⟨w.heap.size, 1, none⟩, .float .f32 b'), (⟨w.heap.size, 2, none⟩, .float .f32 c), (⟨w.heap.size, 3, none⟩, .float .f32 d)] _ := ⟨hI.p0, hI.p1, hI.p2, hI.p3, hI.p4, hI.m0, hI.m1, hI.m2, hI.m3, trivial⟩
      refine Loose.regionC [(⟨b, 0, none⟩, .float .f32 b0), (⟨b, 1, none⟩, .float .f32 b1), (⟨b, 2, none⟩, .float .f32 b2), (⟨b, 3, none⟩, .float .f32 a1), (⟨b, 4, none⟩, .float .f32 a2), (⟨w.heap.size, 0, none⟩, .float .f32 a), (⟨w.heap.size, 1, none⟩, .float .f32 b'), (⟨w.heap.size, 2, none⟩, .float .f32 c), (⟨w.heap.size, 3, none⟩, .float .f32 d)] (by kernel_rfl) (by kernel_rfl) h0L ?_
      have HI := Lib.hid hI
      clear hI
      apply Exists.intro
      repeat
        first
          | (apply Loose.walk_skip; exact rfl; simp only [Act.put, List.setIfInBounds_toArray, List.set_cons_zero, List.set_cons_succ])
          | (apply Loose.quiet h0L; exact rfl; exact rfl; intro K hK; go_big_quiet_op; go_big_quiet_on)
          | (apply Loose.quiet h0L; exact rfl; exact rfl; intro K hK; go_big_quiet_op; apply Exists.intro; refine ⟨fun w' hw' => ?_, ?_⟩
             · (first | exact rfl | (have l := hw'.all; simp only [Loose.All] at l; go_simp; rfl))
             go_big_quiet_on)
          | (apply Loose.fl32; exact rfl; (intro w' hw'; apply Exists.intro; apply Exists.intro; refine ⟨?_, ?_⟩; (go_simp; exact ⟨rfl, rfl⟩); exact Fl.fr (by assumption) (by assumption) _ _); intro r_ f_; simp only [Act.put, List.setIfInBounds_toArray, List.set_cons_zero, List.set_cons_succ])
          | (apply Loose.exact_ h0L; exact rfl; (intro w' hw'; first | (go_simp; rfl) | (have l := hw'.all; simp only [Loose.All] at l; go_simp; rfl)); simp only [Act.put, List.setIfInBounds_toArray, List.set_cons_zero, List.set_cons_succ])
      apply Loose.flcall
      · exact rfl
      · intro w' hw'; go_simp; exact ⟨rfl, rfl⟩
      · intro w' hw'; exact (fun W => spec_l02Flush f_ W) _
      intro r_u f_u
      simp only [Act.put, List.setIfInBounds_toArray, List.set_cons_zero, List.set_cons_succ]
      repeat
        first
          | (apply Loose.walk_skip; exact rfl; simp only [Act.put, List.setIfInBounds_toArray, List.set_cons_zero, List.set_cons_succ])
          | (apply Loose.quiet h0L; exact rfl; exact rfl; intro K hK; go_big_quiet_op; go_big_quiet_on)
          | (apply Loose.quiet h0L; exact rfl; exact rfl; intro K hK; go_big_quiet_op; apply Exists.intro; refine ⟨fun w' hw' => ?_, ?_⟩
             · (first | exact rfl | (have l := hw'.all; simp only [Loose.All] at l; go_simp; rfl))
             go_big_quiet_on)
          | (apply Loose.fl32; exact rfl; (intro w' hw'; apply Exists.intro; apply Exists.intro; refine ⟨?_, ?_⟩; (go_simp; exact ⟨rfl, rfl⟩); exact Fl.fr (by assumption) (by assumption) _ _); intro r_ f_; simp only [Act.put, List.setIfInBounds_toArray, List.set_cons_zero, List.set_cons_succ])
          | (apply Loose.exact_ h0L; exact rfl; (intro w' hw'; first | (go_simp; rfl) | (have l := hw'.all; simp only [Loose.All] at l; go_simp; rfl)); simp only [Act.put, List.setIfInBounds_toArray, List.set_cons_zero, List.set_cons_succ])
      apply Loose.done
      rintro w3 - hb3 -
      have hI := HI.out.next hb3
      clear HI hb3 h0L
      go_wp2_with fail
      have h0L : Loose.All [(⟨b, 0, none⟩, .float .f32 b0), (⟨b, 1, none⟩, .float .f32 b1), (⟨b, 2, none⟩, .float .f32 b2), (⟨b, 3, none⟩, .float .f32 a1), (⟨b, 4, none⟩, .float .f32 a2), (⟨w.heap.size, 0, none⟩, .float .f32 a), (⟨w.heap.size, 1, none⟩, .float .f32 b'), (⟨w.heap.size, 2, none⟩, .float .f32 c), (⟨w.heap.size, 3, none⟩, .float .f32 d)] _ := ⟨hI.p0, hI.p1, hI.p2, hI.p3, hI.p4, hI.m0, hI.m1, hI.m2, hI.m3, trivial⟩
      refine Loose.regionC [(⟨b, 0, none⟩, .float .f32 b0), (⟨b, 1, none⟩, .float .f32 b1), (⟨b, 2, none⟩, .float .f32 b2), (⟨b, 3, none⟩, .float .f32 a1), (⟨b, 4, none⟩, .float .f32 a2), (⟨w.heap.size, 0, none⟩, .float .f32 a), (⟨w.heap.size, 1, none⟩, .float .f32 b'), (⟨w.heap.size, 2, none⟩, .float .f32 c), (⟨w.heap.size, 3, none⟩, .float .f32 d)] (by kernel_rfl) (by kernel_rfl) h0L ?_
      have HI := Lib.hid hI
      clear hI
      apply Exists.intro
      repeat
        first
          | (apply Loose.walk_skip; exact rfl; simp only [Act.put, List.setIfInBounds_toArray, List.set_cons_zero, List.set_cons_succ])
          | (apply Loose.quiet h0L; exact rfl; exact rfl; intro K hK; go_big_quiet_op; go_big_quiet_on)
          | (apply Loose.quiet h0L; exact rfl; exact rfl; intro K hK; go_big_quiet_op; apply Exists.intro; refine ⟨fun w' hw' => ?_, ?_⟩
             · (first | exact rfl | (have l := hw'.all; simp only [Loose.All] at l; go_simp; rfl))
             go_big_quiet_on)
          | (apply Loose.fl32; exact rfl; (intro w' hw'; apply Exists.intro; apply Exists.intro; refine ⟨?_, ?_⟩; (go_simp; exact ⟨rfl, rfl⟩); exact Fl.fr (by assumption) (by assumption) _ _); intro r_ f_; simp only [Act.put, List.setIfInBounds_toArray, List.set_cons_zero, List.set_cons_succ])
          | (apply Loose.exact_ h0L; exact rfl; (intro w' hw'; first | (go_simp; rfl) | (have l := hw'.all; simp only [Loose.All] at l; go_simp; rfl)); simp only [Act.put, List.setIfInBounds_toArray, List.set_cons_zero, List.set_cons_succ])
      apply Loose.done
      rintro w3 - hb3 -
      have hI := HI.out.next hb3
      clear HI hb3 h0L
      go_wp2_with fail
      have h0L : Loose.All [(⟨b, 0, none⟩, .float .f32 b0), (⟨b, 1, none⟩, .float .f32 b1), (⟨b, 2, none⟩, .float .f32 b2), (⟨b, 3, none⟩, .float .f32 a1), (⟨b, 4, none⟩, .float .f32 a2), (⟨w.heap.size, 0, none⟩, .float .f32 a), (⟨w.heap.size, 1, none⟩, .float .f32 b'), (⟨w.heap.size, 2, none⟩, .float .f32 c), (⟨w.heap.size, 3, none⟩, .float .f32 d)] _ := ⟨hI.p0, hI.p1, hI.p2, hI.p3, hI.p4, hI.m0, hI.m1, hI.m2, hI.m3, trivial⟩
      refine Loose.regionC [(⟨b, 0, none⟩, .float .f32 b0), (⟨b, 1, none⟩, .float .f32 b1), (⟨b, 2, none⟩, .float .f32 b2), (⟨b, 3, none⟩, .float .f32 a1), (⟨b, 4, none⟩, .float .f32 a2), (⟨w.heap.size, 0, none⟩, .float .f32 a), (⟨w.heap.size, 1, none⟩, .float .f32 b'), (⟨w.heap.size, 2, none⟩, .float .f32 c), (⟨w.heap.size, 3, none⟩, .float .f32 d)] (by kernel_rfl) (by kernel_rfl) h0L ?_
      have HI := Lib.hid hI
      clear hI
      apply Exists.intro
      repeat
        first
          | (apply Loose.walk_skip; exact rfl; simp only [Act.put, List.setIfInBounds_toArray, List.set_cons_zero, List.set_cons_succ])
          | (apply Loose.quiet h0L; exact rfl; exact rfl; intro K hK; go_big_quiet_op; go_big_quiet_on)
          | (apply Loose.quiet h0L; exact rfl; exact rfl; intro K hK; go_big_quiet_op; apply Exists.intro; refine ⟨fun w' hw' => ?_, ?_⟩
             · (first | exact rfl | (have l := hw'.all; simp only [Loose.All] at l; go_simp; rfl))
             go_big_quiet_on)
          | (apply Loose.fl32; exact rfl; (intro w' hw'; apply Exists.intro; apply Exists.intro; refine ⟨?_, ?_⟩; (go_simp; exact ⟨rfl, rfl⟩); exact Fl.fr (by assumption) (by assumption) _ _); intro r_ f_; simp only [Act.put, List.setIfInBounds_toArray, List.set_cons_zero, List.set_cons_succ])
          | (apply Loose.exact_ h0L; exact rfl; (intro w' hw'; first | (go_simp; rfl) | (have l := hw'.all; simp only [Loose.All] at l; go_simp; rfl)); simp only [Act.put, List.setIfInBounds_toArray, List.set_cons_zero, List.set_cons_succ])
      apply Loose.flcall
      · exact rfl
      · intro w' hw'; go_simp; exact ⟨rfl, rfl⟩
      · intro w' hw'; exact (fun W => spec_l02Flush f_ W) _
      intro r_y f_y
      simp only [Act.put, List.setIfInBounds_toArray, List.set_cons_zero, List.set_cons_succ]
      repeat
        first
          | (apply Loose.walk_skip; exact rfl; simp only [Act.put, List.setIfInBounds_toArray, List.set_cons_zero, List.set_cons_succ])
          | (apply Loose.quiet h0L; exact rfl; exact rfl; intro K hK; go_big_quiet_op; go_big_quiet_on)
          | (apply Loose.quiet h0L; exact rfl; exact rfl; intro K hK; go_big_quiet_op; apply Exists.intro; refine ⟨fun w' hw' => ?_, ?_⟩
             · (first | exact rfl | (have l := hw'.all; simp only [Loose.All] at l; go_simp; rfl))
             go_big_quiet_on)
          | (apply Loose.fl32; exact rfl; (intro w' hw'; apply Exists.intro; apply Exists.intro; refine ⟨?_, ?_⟩; (go_simp; exact ⟨rfl, rfl⟩); exact Fl.fr (by assumption) (by assumption) _ _); intro r_ f_; simp only [Act.put, List.setIfInBounds_toArray, List.set_cons_zero, List.set_cons_succ])
          | (apply Loose.exact_ h0L; exact rfl; (intro w' hw'; first | (go_simp; rfl) | (have l := hw'.all; simp only [Loose.All] at l; go_simp; rfl)); simp only [Act.put, List.setIfInBounds_toArray, List.set_cons_zero, List.set_cons_succ])
      apply Loose.done
      rintro w3 - hb3 -
      have hI := HI.out.next hb3
      clear HI hb3 h0L
      obtain ⟨s0, s1, s2, s3, t0, t1, t2, t3⟩ : _ ∧ _ ∧ _ ∧ _ ∧ _ ∧ _ ∧ _ ∧ _ := ⟨hI.s0, hI.s1, hI.s2, hI.s3, hI.t0, hI.t1, hI.t2, hI.t3⟩
      obtain ⟨m0, m1, m2, m3⟩ : _ ∧ _ ∧ _ ∧ _ := ⟨hI.m0, hI.m1, hI.m2, hI.m3⟩
      have HI := Lib.hid hI
      clear hI
      go_wp2_with fail
      clear s0 s1 s2 s3 t0 t1 t2 t3 m0 m1 m2 m3
      refine Loose.regionT_of (fun W => SpI w W b b0 b1 b2 a1 a2 a b' c d r_u a 0 0) 3 (by kernel_rfl) (by kernel_rfl) (by first | exact HI.out.set _ _ _ _ | exact (HI.out.set _ _ _ _).drewN _) ?_
      intro W hI
      have h0L : Loose.All [(⟨w.heap.size + 1 + 1, 0, none⟩, .float .f32 r_u), (⟨w.heap.size + 1 + 1, 1, none⟩, .float .f32 a), (⟨w.heap.size + 1 + 1, 2, none⟩, .float .f32 0), (⟨w.heap.size + 1 + 1, 3, none⟩, .float .f32 0)] W := ⟨hI.s0, hI.s1, hI.s2, hI.s3, trivial⟩
      refine ⟨_, h0L, ?_⟩
      simp only [List.take_succ_cons, List.take_zero, List.drop_succ_cons, List.drop_zero]
      replace HI := Lib.hid hI
      clear hI
      apply Exists.intro
      repeat
        first
          | (apply Loose.skipT; exact rfl; simp only [Act.put, List.setIfInBounds_toArray, List.set_cons_zero, List.set_cons_succ])
          | (apply Loose.quietT h0L; exact rfl; exact rfl; intro K hK; go_big_quiet_op; go_big_quiet_on)
          | (apply Loose.quietT h0L; exact rfl; exact rfl; intro K hK; go_big_quiet_op; apply Exists.intro; refine ⟨fun w' hw' => ?_, ?_⟩
             · (first | exact rfl | (have l := hw'.all; simp only [Loose.All] at l; go_simp; rfl))
             go_big_quiet_on)
          | (apply Loose.fl32T; exact rfl; (intro w' hw'; apply Exists.intro; apply Exists.intro; refine ⟨?_, ?_⟩; (go_simp; exact ⟨rfl, rfl⟩); exact Fl.fr (by assumption) (by assumption) _ _); intro r_ f_; simp only [Act.put, List.setIfInBounds_toArray, List.set_cons_zero, List.set_cons_succ])
          | (apply Loose.exactT h0L; exact rfl; (intro w' hw'; first | (go_simp; rfl) | (have l := hw'.all; simp only [Loose.All] at l; go_simp; rfl)); simp only [Act.put, List.setIfInBounds_toArray, List.set_cons_zero, List.set_cons_succ])
      apply Loose.doneT
      rintro w3 - hb3 -
      have hI := HI.out.next hb3
      clear HI hb3 h0L
      obtain ⟨r0, r1, r2, r3, g0, g1, g2, g3, hbel⟩ : _ ∧ _ ∧ _ ∧ _ ∧ _ ∧ _ ∧ _ ∧ _ ∧ _ := ⟨hI.r0, hI.r1, hI.r2, hI.r3, hI.g0, hI.g1, hI.g2, hI.g3, hI.bel⟩
      clear hI
      go_wp2
      refine bodyPost_ret (v := .tuple #[.float .f32 r_y, .agg #[.float .f32 r_u, .float .f32 a, .float .f32 0, .float .f32 0]]) ?_ rfl ⟨_, _, _, _, _, rfl, f_y, f_u, ha, zero32, zero32, (((hbel.setCell (by simp) _).setCell (by simp) _).setCell (by simp) _).setCell (by simp) _⟩
      simp [results, Try.results55, go_sem, r0, r1, r2, r3]
    · go_enter Try.func55, Try.ntmps55
      go_wp2_with fail
      refine Loose.regionC_of (fun W => SpI w W b b0 b1 b2 a1 a2 a b' c d 0 0 0 0) (by kernel_rfl) (by kernel_rfl) (SpI.start p0 p1 p2 p3 p4 ..) ?_
      intro W hI
      have h0L : Loose.All [(⟨b, 0, none⟩, .float .f32 b0), (⟨b, 1, none⟩, .float .f32 b1), (⟨b, 2, none⟩, .float .f32 b2), (⟨b, 3, none⟩, .float .f32 a1), (⟨b, 4, none⟩, .float .f32 a2), (⟨w.heap.size, 0, none⟩, .float .f32 a), (⟨w.heap.size, 1, none⟩, .float .f32 b'), (⟨w.heap.size, 2, none⟩, .float .f32 c), (⟨w.heap.size, 3, none⟩, .float .f32 d)] W := ⟨hI.p0, hI.p1, hI.p2, hI.p3, hI.p4, hI.m0, hI.m1, hI.m2, hI.m3, trivial⟩
      refine ⟨_, h0L, ?_⟩
      have HI := Lib.hid hI
      clear hI
      apply Exists.intro
      repeat
        first
          | (apply Loose.walk_skip; exact rfl; simp only [Act.put, List.setIfInBounds_toArray, List.set_cons_zero, List.set_cons_succ])
          | (apply Loose.quiet h0L; exact rfl; exact rfl; intro K hK; go_big_quiet_op; go_big_quiet_on)
          | (apply Loose.quiet h0L; exact rfl; exact rfl; intro K hK; go_big_quiet_op; apply Exists.intro; refine ⟨fun w' hw' => ?_, ?_⟩
             · (first | exact rfl | (have l := hw'.all; simp only [Loose.All] at l; go_simp; rfl))
             go_big_quiet_on)
          | (apply Loose.fl32; exact rfl; (intro w' hw'; apply Exists.intro; apply Exists.intro; refine ⟨?_, ?_⟩; (go_simp; exact ⟨rfl, rfl⟩); exact Fl.fr (by assumption) (by assumption) _ _); intro r_ f_; simp only [Act.put, List.setIfInBounds_toArray, List.set_cons_zero, List.set_cons_succ])
          | (apply Loose.exact_ h0L; exact rfl; (intro w' hw'; first | (go_simp; rfl) | (have l := hw'.all; simp only [Loose.All] at l; go_simp; rfl)); simp only [Act.put, List.setIfInBounds_toArray, List.set_cons_zero, List.set_cons_succ])
      apply Loose.done
      rintro w3 - hb3 -
      have hI := HI.out.next hb3
      clear HI hb3 h0L
      go_wp2_with fail
      have h0L : Loose.All [(⟨b, 0, none⟩, .float .f32 b0), (⟨b, 1, none⟩, .float .f32 b1), (⟨b, 2, none⟩, .float .f32 b2), (⟨b, 3, none⟩, .float .f32 a1), (⟨b, 4, none⟩, .float .f32 a2), (⟨w.heap.size, 0, none⟩, .float .f32 a), (⟨w.heap.size, 1, none⟩, .float .f32 b'), (⟨w.heap.size, 2, none⟩, .float .f32 c), (⟨w.heap.size, 3, none⟩, .float .f32 d)] _ := ⟨hI.p0, hI.p1, hI.p2, hI.p3, hI.p4, hI.m0, hI.m1, hI.m2, hI.m3, trivial⟩
      refine Loose.regionC [(⟨b, 0, none⟩, .float .f32 b0), (⟨b, 1, none⟩, .float .f32 b1), (⟨b, 2, none⟩, .float .f32 b2), (⟨b, 3, none⟩, .float .f32 a1), (⟨b, 4, none⟩, .float .f32 a2), (⟨w.heap.size, 0, none⟩, .float .f32 a), (⟨w.heap.size, 1, none⟩, .float .f32 b'), (⟨w.heap.size, 2, none⟩, .float .f32 c), (⟨w.heap.size, 3, none⟩, .float .f32 d)] (by kernel_rfl) (by kernel_rfl) h0L ?_
      have HI := Lib.hid hI
      clear hI
      apply Exists.intro
      repeat
        first
          | (apply Loose.walk_skip; exact rfl; simp only [Act.put, List.setIfInBounds_toArray, List.set_cons_zero, List.set_cons_succ])
          | (apply Loose.quiet h0L; exact rfl; exact rfl; intro K hK; go_big_quiet_op; go_big_quiet_on)
          | (apply Loose.quiet h0L; exact rfl; exact rfl; intro K hK; go_big_quiet_op; apply Exists.intro; refine ⟨fun w' hw' => ?_, ?_⟩
             · (first | exact rfl | (have l := hw'.all; simp only [Loose.All] at l; go_simp; rfl))
             go_big_quiet_on)
          | (apply Loose.fl32; exact rfl; (intro w' hw'; apply Exists.intro; apply Exists.intro; refine ⟨?_, ?_⟩; (go_simp; exact ⟨rfl, rfl⟩); exact Fl.fr (by assumption) (by assumption) _ _); intro r_ f_; simp only [Act.put, List.setIfInBounds_toArray, List.set_cons_zero, List.set_cons_succ])
          | (apply Loose.exact_ h0L; exact rfl; (intro w' hw'; first | (go_simp; rfl) | (have l := hw'.all; simp only [Loose.All] at l; go_simp; rfl)); simp only [Act.put, List.setIfInBounds_toArray, List.set_cons_zero, List.set_cons_succ])
      apply Loose.flcall
      · exact rfl
      · intro w' hw'; go_simp; exact ⟨rfl, rfl⟩
      · intro w' hw'; exact (fun W => spec_l02Flush f_ W) _
      intro r_u f_u
      simp only [Act.put, List.setIfInBounds_toArray, List.set_cons_zero, List.set_cons_succ]
      repeat
        first
          | (apply Loose.walk_skip; exact rfl; simp only [Act.put, List.setIfInBounds_toArray, List.set_cons_zero, List.set_cons_succ])
          | (apply Loose.quiet h0L; exact rfl; exact rfl; intro K hK; go_big_quiet_op; go_big_quiet_on)
          | (apply Loose.quiet h0L; exact rfl; exact rfl; intro K hK; go_big_quiet_op; apply Exists.intro; refine ⟨fun w' hw' => ?_, ?_⟩
             · (first | exact rfl | (have l := hw'.all; simp only [Loose.All] at l; go_simp; rfl))
             go_big_quiet_on)
          | (apply Loose.fl32; exact rfl; (intro w' hw'; apply Exists.intro; apply Exists.intro; refine ⟨?_, ?_⟩; (go_simp; exact ⟨rfl, rfl⟩); exact Fl.fr (by assumption) (by assumption) _ _); intro r_ f_; simp only [Act.put, List.setIfInBounds_toArray, List.set_cons_zero, List.set_cons_succ])
          | (apply Loose.exact_ h0L; exact rfl; (intro w' hw'; first | (go_simp; rfl) | (have l := hw'.all; simp only [Loose.All] at l; go_simp; rfl)); simp only [Act.put, List.setIfInBounds_toArray, List.set_cons_zero, List.set_cons_succ])
      apply Loose.done
      rintro w3 - hb3 -
      have hI := HI.out.next hb3
      clear HI hb3 h0L
      go_wp2_with fail
      have h0L : Loose.All [(⟨b, 0, none⟩, .float .f32 b0), (⟨b, 1, none⟩, .float .f32 b1), (⟨b, 2, none⟩, .float .f32 b2), (⟨b, 3, none⟩, .float .f32 a1), (⟨b, 4, none⟩, .float .f32 a2), (⟨w.heap.size, 0, none⟩, .float .f32 a), (⟨w.heap.size, 1, none⟩, .float .f32 b'), (⟨w.heap.size, 2, none⟩, .float .f32 c), (⟨w.heap.size, 3, none⟩, .float .f32 d)] _ := ⟨hI.p0, hI.p1, hI.p2, hI.p3, hI.p4, hI.m0, hI.m1, hI.m2, hI.m3, trivial⟩
      refine Loose.regionC [(⟨b, 0, none⟩, .float .f32 b0), (⟨b, 1, none⟩, .float .f32 b1), (⟨b, 2, none⟩, .float .f32 b2), (⟨b, 3, none⟩, .float .f32 a1), (⟨b, 4, none⟩, .float .f32 a2), (⟨w.heap.size, 0, none⟩, .float .f32 a), (⟨w.heap.size, 1, none⟩, .float .f32 b'), (⟨w.heap.size, 2, none⟩, .float .f32 c), (⟨w.heap.size, 3, none⟩, .float .f32 d)] (by kernel_rfl) (by kernel_rfl) h0L ?_
      have HI := Lib.hid hI
      clear hI
      apply Exists.intro
      repeat
        first
          | (apply Loose.walk_skip; exact rfl; simp only [Act.put, List.setIfInBounds_toArray, List.set_cons_zero, List.set_cons_succ])
          | (apply Loose.quiet h0L; exact rfl; exact rfl; intro K hK; go_big_quiet_op; go_big_quiet_on)
          | (apply Loose.quiet h0L; exact rfl; exact rfl; intro K hK; go_big_quiet_op; apply Exists.intro; refine ⟨fun w' hw' => ?_, ?_⟩
             · (first | exact rfl | (have l := hw'.all; simp only [Loose.All] at l; go_simp; rfl))
             go_big_quiet_on)
          | (apply Loose.fl32; exact rfl; (intro w' hw'; apply Exists.intro; apply Exists.intro; refine ⟨?_, ?_⟩; (go_simp; exact ⟨rfl, rfl⟩); exact Fl.fr (by assumption) (by assumption) _ _); intro r_ f_; simp only [Act.put, List.setIfInBounds_toArray, List.set_cons_zero, List.set_cons_succ])
          | (apply Loose.exact_ h0L; exact rfl; (intro w' hw'; first | (go_simp; rfl) | (have l := hw'.all; simp only [Loose.All] at l; go_simp; rfl)); simp only [Act.put, List.setIfInBounds_toArray, List.set_cons_zero, List.set_cons_succ])
      apply Loose.done
      rintro w3 - hb3 -
      have hI := HI.out.next hb3
      clear HI hb3 h0L
      go_wp2_with fail
      have h0L : Loose.All [(⟨b, 0, none⟩, .float .f32 b0), (⟨b, 1, none⟩, .float .f32 b1), (⟨b, 2, none⟩, .float .f32 b2), (⟨b, 3, none⟩, .float .f32 a1), (⟨b, 4, none⟩, .float .f32 a2), (⟨w.heap.size, 0, none⟩, .float .f32 a), (⟨w.heap.size, 1, none⟩, .float .f32 b'), (⟨w.heap.size, 2, none⟩, .float .f32 c), (⟨w.heap.size, 3, none⟩, .float .f32 d)] _ := ⟨hI.p0, hI.p1, hI.p2, hI.p3, hI.p4, hI.m0, hI.m1, hI.m2, hI.m3, trivial⟩
      refine Loose.regionC [(⟨b, 0, none⟩, .float .f32 b0), (⟨b, 1, none⟩, .float .f32 b1), (⟨b, 2, none⟩, .float .f32 b2), (⟨b, 3, none⟩, .float .f32 a1), (⟨b, 4, none⟩, .float .f32 a2), (⟨w.heap.size, 0, none⟩, .float .f32 a), (⟨w.heap.size, 1, none⟩, .float .f32 b'), (⟨w.heap.size, 2, none⟩, .float .f32 c), (⟨w.heap.size, 3, none⟩, .float .f32 d)] (by kernel_rfl) (by kernel_rfl) h0L ?_
      have HI := Lib.hid hI
      clear hI
      apply Exists.intro
      repeat
        first
          | (apply Loose.walk_skip; exact rfl; simp only [Act.put, List.setIfInBounds_toArray, List.set_cons_zero, List.set_cons_succ])
          | (apply Loose.quiet h0L; exact rfl; exact rfl; intro K hK; go_big_quiet_op; go_big_quiet_on)
          | (apply Loose.quiet h0L; exact rfl; exact rfl; intro K hK; go_big_quiet_op; apply Exists.intro; refine ⟨fun w' hw' => ?_, ?_⟩
             · (first | exact rfl | (have l := hw'.all; simp only [Loose.All] at l; go_simp; rfl))
             go_big_quiet_on)
          | (apply Loose.fl32; exact rfl; (intro w' hw'; apply Exists.intro; apply Exists.intro; refine ⟨?_, ?_⟩; (go_simp; exact ⟨rfl, rfl⟩); exact Fl.fr (by assumption) (by assumption) _ _); intro r_ f_; simp only [Act.put, List.setIfInBounds_toArray, List.set_cons_zero, List.set_cons_succ])
          | (apply Loose.exact_ h0L; exact rfl; (intro w' hw'; first | (go_simp; rfl) | (have l := hw'.all; simp only [Loose.All] at l; go_simp; rfl)); simp only [Act.put, List.setIfInBounds_toArray, List.set_cons_zero, List.set_cons_succ])
      apply Loose.flcall
      · exact rfl
      · intro w' hw'; go_simp; exact ⟨rfl, rfl⟩
      · intro w' hw'; exact (fun W => spec_l02Flush f_ W) _
      intro r_y f_y
      simp only [Act.put, List.setIfInBounds_toArray, List.set_cons_zero, List.set_cons_succ]
      repeat
        first
          | (apply Loose.walk_skip; exact rfl; simp only [Act.put, List.setIfInBounds_toArray, List.set_cons_zero, List.set_cons_succ])
          | (apply Loose.quiet h0L; exact rfl; exact rfl; intro K hK; go_big_quiet_op; go_big_quiet_on)
          | (apply Loose.quiet h0L; exact rfl; exact rfl; intro K hK; go_big_quiet_op; apply Exists.intro; refine ⟨fun w' hw' => ?_, ?_⟩
             · (first | exact rfl | (have l := hw'.all; simp only [Loose.All] at l; go_simp; rfl))
             go_big_quiet_on)
          | (apply Loose.fl32; exact rfl; (intro w' hw'; apply Exists.intro; apply Exists.intro; refine ⟨?_, ?_⟩; (go_simp; exact ⟨rfl, rfl⟩); exact Fl.fr (by assumption) (by assumption) _ _); intro r_ f_; simp only [Act.put, List.setIfInBounds_toArray, List.set_cons_zero, List.set_cons_succ])
          | (apply Loose.exact_ h0L; exact rfl; (intro w' hw'; first | (go_simp; rfl) | (have l := hw'.all; simp only [Loose.All] at l; go_simp; rfl)); simp only [Act.put, List.setIfInBounds_toArray, List.set_cons_zero, List.set_cons_succ])
      apply Loose.done
      rintro w3 - hb3 -
      have hI := HI.out.next hb3
      clear HI hb3 h0L
      obtain ⟨s0, s1, s2, s3, t0, t1, t2, t3⟩ : _ ∧ _ ∧ _ ∧ _ ∧ _ ∧ _ ∧ _ ∧ _ := ⟨hI.s0, hI.s1, hI.s2, hI.s3, hI.t0, hI.t1, hI.t2, hI.t3⟩
      obtain ⟨m0, m1, m2, m3⟩ : _ ∧ _ ∧ _ ∧ _ := ⟨hI.m0, hI.m1, hI.m2, hI.m3⟩
      have HI := Lib.hid hI
      clear hI
      go_wp2_with fail
      clear s0 s1 s2 s3 t0 t1 t2 t3 m0 m1 m2 m3
      refine Loose.regionT_of (fun W => SpI w W b b0 b1 b2 a1 a2 a b' c d r_u a 0 0) 13 (by kernel_rfl) (by kernel_rfl) (by first | exact HI.out.set _ _ _ _ | exact (HI.out.set _ _ _ _).drewN _) ?_
      intro W hI
      have h0L : Loose.All [(⟨w.heap.size + 1 + 1, 0, none⟩, .float .f32 r_u), (⟨w.heap.size + 1 + 1, 1, none⟩, .float .f32 a), (⟨w.heap.size + 1 + 1, 2, none⟩, .float .f32 0), (⟨w.heap.size + 1 + 1, 3, none⟩, .float .f32 0)] W := ⟨hI.s0, hI.s1, hI.s2, hI.s3, trivial⟩
      refine ⟨_, h0L, ?_⟩
      simp only [List.take_succ_cons, List.take_zero, List.drop_succ_cons, List.drop_zero]
      replace HI := Lib.hid hI
      clear hI
      apply Exists.intro
      repeat
        first
          | (apply Loose.skipT; exact rfl; simp only [Act.put, List.setIfInBounds_toArray, List.set_cons_zero, List.set_cons_succ])
          | (apply Loose.quietT h0L; exact rfl; exact rfl; intro K hK; go_big_quiet_op; go_big_quiet_on)
          | (apply Loose.quietT h0L; exact rfl; exact rfl; intro K hK; go_big_quiet_op; apply Exists.intro; refine ⟨fun w' hw' => ?_, ?_⟩
             · (first | exact rfl | (have l := hw'.all; simp only [Loose.All] at l; go_simp; rfl))
             go_big_quiet_on)
          | (apply Loose.fl32T; exact rfl; (intro w' hw'; apply Exists.intro; apply Exists.intro; refine ⟨?_, ?_⟩; (go_simp; exact ⟨rfl, rfl⟩); exact Fl.fr (by assumption) (by assumption) _ _); intro r_ f_; simp only [Act.put, List.setIfInBounds_toArray, List.set_cons_zero, List.set_cons_succ])
          | (apply Loose.exactT h0L; exact rfl; (intro w' hw'; first | (go_simp; rfl) | (have l := hw'.all; simp only [Loose.All] at l; go_simp; rfl)); simp only [Act.put, List.setIfInBounds_toArray, List.set_cons_zero, List.set_cons_succ])
      apply Loose.flcallT
      · exact rfl
      · intro w' hw'; go_simp; exact ⟨rfl, rfl⟩
      · intro w' hw'; exact (fun W => spec_l01Flush f_u W) _
      intro r_0 f_0
      simp only [Act.put, List.setIfInBounds_toArray, List.set_cons_zero, List.set_cons_succ]
      repeat
        first
          | (apply Loose.skipT; exact rfl; simp only [Act.put, List.setIfInBounds_toArray, List.set_cons_zero, List.set_cons_succ])
          | (apply Loose.quietT h0L; exact rfl; exact rfl; intro K hK; go_big_quiet_op; go_big_quiet_on)
          | (apply Loose.quietT h0L; exact rfl; exact rfl; intro K hK; go_big_quiet_op; apply Exists.intro; refine ⟨fun w' hw' => ?_, ?_⟩
             · (first | exact rfl | (have l := hw'.all; simp only [Loose.All] at l; go_simp; rfl))
             go_big_quiet_on)
          | (apply Loose.fl32T; exact rfl; (intro w' hw'; apply Exists.intro; apply Exists.intro; refine ⟨?_, ?_⟩; (go_simp; exact ⟨rfl, rfl⟩); exact Fl.fr (by assumption) (by assumption) _ _); intro r_ f_; simp only [Act.put, List.setIfInBounds_toArray, List.set_cons_zero, List.set_cons_succ])
          | (apply Loose.exactT h0L; exact rfl; (intro w' hw'; first | (go_simp; rfl) | (have l := hw'.all; simp only [Loose.All] at l; go_simp; rfl)); simp only [Act.put, List.setIfInBounds_toArray, List.set_cons_zero, List.set_cons_succ])
      apply Loose.flcallT
      · exact rfl
      · intro w' hw'; go_simp; exact ⟨rfl, rfl⟩
      · intro w' hw'; exact (fun W => spec_l01Flush ha W) _
      intro r_1 f_1
      simp only [Act.put, List.setIfInBounds_toArray, List.set_cons_zero, List.set_cons_succ]
      repeat
        first
          | (apply Loose.skipT; exact rfl; simp only [Act.put, List.setIfInBounds_toArray, List.set_cons_zero, List.set_cons_succ])
          | (apply Loose.quietT h0L; exact rfl; exact rfl; intro K hK; go_big_quiet_op; go_big_quiet_on)
          | (apply Loose.quietT h0L; exact rfl; exact rfl; intro K hK; go_big_quiet_op; apply Exists.intro; refine ⟨fun w' hw' => ?_, ?_⟩
             · (first | exact rfl | (have l := hw'.all; simp only [Loose.All] at l; go_simp; rfl))
             go_big_quiet_on)
          | (apply Loose.fl32T; exact rfl; (intro w' hw'; apply Exists.intro; apply Exists.intro; refine ⟨?_, ?_⟩; (go_simp; exact ⟨rfl, rfl⟩); exact Fl.fr (by assumption) (by assumption) _ _); intro r_ f_; simp only [Act.put, List.setIfInBounds_toArray, List.set_cons_zero, List.set_cons_succ])
          | (apply Loose.exactT h0L; exact rfl; (intro w' hw'; first | (go_simp; rfl) | (have l := hw'.all; simp only [Loose.All] at l; go_simp; rfl)); simp only [Act.put, List.setIfInBounds_toArray, List.set_cons_zero, List.set_cons_succ])
      apply Loose.flcallT
      · exact rfl
      · intro w' hw'; go_simp; exact ⟨rfl, rfl⟩
      · intro w' hw'; exact (fun W => spec_l01Flush zero32 W) _
      intro r_2 f_2
      simp only [Act.put, List.setIfInBounds_toArray, List.set_cons_zero, List.set_cons_succ]
      repeat
        first
          | (apply Loose.skipT; exact rfl; simp only [Act.put, List.setIfInBounds_toArray, List.set_cons_zero, List.set_cons_succ])
          | (apply Loose.quietT h0L; exact rfl; exact rfl; intro K hK; go_big_quiet_op; go_big_quiet_on)
          | (apply Loose.quietT h0L; exact rfl; exact rfl; intro K hK; go_big_quiet_op; apply Exists.intro; refine ⟨fun w' hw' => ?_, ?_⟩
             · (first | exact rfl | (have l := hw'.all; simp only [Loose.All] at l; go_simp; rfl))
             go_big_quiet_on)
          | (apply Loose.fl32T; exact rfl; (intro w' hw'; apply Exists.intro; apply Exists.intro; refine ⟨?_, ?_⟩; (go_simp; exact ⟨rfl, rfl⟩); exact Fl.fr (by assumption) (by assumption) _ _); intro r_ f_; simp only [Act.put, List.setIfInBounds_toArray, List.set_cons_zero, List.set_cons_succ])
          | (apply Loose.exactT h0L; exact rfl; (intro w' hw'; first | (go_simp; rfl) | (have l := hw'.all; simp only [Loose.All] at l; go_simp; rfl)); simp only [Act.put, List.setIfInBounds_toArray, List.set_cons_zero, List.set_cons_succ])
      apply Loose.flcallT
      · exact rfl
      · intro w' hw'; go_simp; exact ⟨rfl, rfl⟩
      · intro w' hw'; exact (fun W => spec_l01Flush zero32 W) _
      intro r_3 f_3
      simp only [Act.put, List.setIfInBounds_toArray, List.set_cons_zero, List.set_cons_succ]
      repeat
        first
          | (apply Loose.skipT; exact rfl; simp only [Act.put, List.setIfInBounds_toArray, List.set_cons_zero, List.set_cons_succ])
          | (apply Loose.quietT h0L; exact rfl; exact rfl; intro K hK; go_big_quiet_op; go_big_quiet_on)
          | (apply Loose.quietT h0L; exact rfl; exact rfl; intro K hK; go_big_quiet_op; apply Exists.intro; refine ⟨fun w' hw' => ?_, ?_⟩
             · (first | exact rfl | (have l := hw'.all; simp only [Loose.All] at l; go_simp; rfl))
             go_big_quiet_on)
          | (apply Loose.fl32T; exact rfl; (intro w' hw'; apply Exists.intro; apply Exists.intro; refine ⟨?_, ?_⟩; (go_simp; exact ⟨rfl, rfl⟩); exact Fl.fr (by assumption) (by assumption) _ _); intro r_ f_; simp only [Act.put, List.setIfInBounds_toArray, List.set_cons_zero, List.set_cons_succ])
          | (apply Loose.exactT h0L; exact rfl; (intro w' hw'; first | (go_simp; rfl) | (have l := hw'.all; simp only [Loose.All] at l; go_simp; rfl)); simp only [Act.put, List.setIfInBounds_toArray, List.set_cons_zero, List.set_cons_succ])
      apply Loose.doneT
      rintro w3 - hb3 -
      have hI := HI.out.next hb3
      clear HI hb3 h0L
      obtain ⟨s0, s1, s2, s3, t0, t1, t2, t3⟩ : _ ∧ _ ∧ _ ∧ _ ∧ _ ∧ _ ∧ _ ∧ _ := ⟨hI.s0, hI.s1, hI.s2, hI.s3, hI.t0, hI.t1, hI.t2, hI.t3⟩
      have HI := Lib.hid hI
      clear hI
      go_wp2_with fail
      clear s0 s1 s2 s3 t0 t1 t2 t3
      refine Loose.regionT_of (fun W => SpI w W b b0 b1 b2 a1 a2 a b' c d r_0 r_1 r_2 r_3) 3 (by kernel_rfl) (by kernel_rfl) (by first | exact HI.out.set _ _ _ _ | exact (HI.out.set _ _ _ _).drewN _) ?_
      intro W hI
      have h0L : Loose.All [(⟨w.heap.size + 1 + 1, 0, none⟩, .float .f32 r_0), (⟨w.heap.size + 1 + 1, 1, none⟩, .float .f32 r_1), (⟨w.heap.size + 1 + 1, 2, none⟩, .float .f32 r_2), (⟨w.heap.size + 1 + 1, 3, none⟩, .float .f32 r_3)] W := ⟨hI.s0, hI.s1, hI.s2, hI.s3, trivial⟩
      refine ⟨_, h0L, ?_⟩
      simp only [List.take_succ_cons, List.take_zero, List.drop_succ_cons, List.drop_zero]
      replace HI := Lib.hid hI
      clear hI
      apply Exists.intro
      repeat
        first
          | (apply Loose.skipT; exact rfl; simp only [Act.put, List.setIfInBounds_toArray, List.set_cons_zero, List.set_cons_succ])
          | (apply Loose.quietT h0L; exact rfl; exact rfl; intro K hK; go_big_quiet_op; go_big_quiet_on)
          | (apply Loose.quietT h0L; exact rfl; exact rfl; intro K hK; go_big_quiet_op; apply Exists.intro; refine ⟨fun w' hw' => ?_, ?_⟩
             · (first | exact rfl | (have l := hw'.all; simp only [Loose.All] at l; go_simp; rfl))
             go_big_quiet_on)
          | (apply Loose.fl32T; exact rfl; (intro w' hw'; apply Exists.intro; apply Exists.intro; refine ⟨?_, ?_⟩; (go_simp; exact ⟨rfl, rfl⟩); exact Fl.fr (by assumption) (by assumption) _ _); intro r_ f_; simp only [Act.put, List.setIfInBounds_toArray, List.set_cons_zero, List.set_cons_succ])
          | (apply Loose.exactT h0L; exact rfl; (intro w' hw'; first | (go_simp; rfl) | (have l := hw'.all; simp only [Loose.All] at l; go_simp; rfl)); simp only [Act.put, List.setIfInBounds_toArray, List.set_cons_zero, List.set_cons_succ])
      apply Loose.doneT
      rintro w3 - hb3 -
      have hI := HI.out.next hb3
      clear HI hb3 h0L
      obtain ⟨r0, r1, r2, r3, g0, g1, g2, g3, hbel⟩ : _ ∧ _ ∧ _ ∧ _ ∧ _ ∧ _ ∧ _ ∧ _ ∧ _ := ⟨hI.r0, hI.r1, hI.r2, hI.r3, hI.g0, hI.g1, hI.g2, hI.g3, hI.bel⟩
      clear hI
      go_wp2
      refine bodyPost_ret (v := .tuple #[.float .f32 r_y, .agg #[.float .f32 r_0, .float .f32 r_1, .float .f32 r_2, .float .f32 r_3]]) ?_ rfl ⟨_, _, _, _, _, rfl, f_y, f_0, f_1, f_2, f_3, (((hbel.setCell (by simp) _).setCell (by simp) _).setCell (by simp) _).setCell (by simp) _⟩
      simp [results, Try.results55, go_sem, r0, r1, r2, r3]
end Go.Proofs.Ytlenpecnfilkjaa
