/- The walk of the law on levels of envelopes: the law. Conditions: none beside the contracts' own. -/
import Derived.Test.YtlenpecnfilkjaaP1
set_option linter.unusedVariables false
set_option linter.unusedSimpArgs false
namespace Go.Proofs.Ytlenpecnfilkjaa
open Go.RowKit
/-- A slice of whole numbers that is read. -/
structure RdI (w : World) (A : Option Addr) (n : Nat) (xs : List Int) : Prop where
  len : xs.length = n
  most : n ≤ maxLen
  cell : ∀ j x, xs[j]? = some x → ∃ ad, A = some ad ∧ w.cell? (ad.add j) = some (.int .i64 x)
theorem RdI.at_ {w : World} {A : Option Addr} {n : Nat} {xs : List Int} (h : RdI w A n xs) {k : Nat} (hk : k < n) : ∃ ad x, A = some ad ∧ w.cell? (ad.add k) = some (.int .i64 x) ∧ xs[k]? = some x := by
  have hl : k < xs.length := by rw [h.len]; exact hk
  obtain ⟨ad, e, hc⟩ := h.cell k _ (List.getElem?_eq_getElem hl)
  exact ⟨ad, _, e, hc, List.getElem?_eq_getElem hl⟩
theorem all_take {xs : List Int} {k : Nat} {x : Int} (p : Int → Bool) (hx : xs[k]? = some x) (h : (xs.take k).all p = true) : (xs.take (k + 1)).all p = p x ∧ (p x = false → xs.all p = false) := by
  obtain ⟨hk, rfl⟩ := List.getElem?_eq_some_iff.1 hx
  refine ⟨by rw [take_snoc xs k hk, List.all_append, h]; simp, fun hp => ?_⟩
  rw [List.all_eq_false]
  exact ⟨_, List.getElem_mem hk, by rw [hp]; decide⟩
set_option maxHeartbeats 400000 in
theorem impl_allWithin {A : Option Addr} {n c : Nat} {xs : List Int} {lo hi : Int} (w : World) (h : RdI w A n xs) (hn : n ≤ 1048576) : Calls Try.prog 69 #[.slice A n c, .int .i64 lo, .int .i64 hi] w fun e w' => e = .returned (.bool (xs.all fun x => inC x lo hi)) ∧ w = w' := by
  have HX := Lib.hid h.len
  go_enter Try.func69, Try.ntmps69
  go_wp2
  go_loop [11] (fun i => ∃ k, k ≤ n ∧ i = .int .i64 (k : Nat) ∧ Hid ((xs.take k).all (fun x => inC x lo hi) = true)) (fun i => n - (intOf i).toNat)
  case atStart => exact ⟨0, Nat.zero_le _, rfl, Lib.hid rfl⟩
  case round =>
    obtain ⟨k, hk, rfl, ht⟩ := hrel
    by_cases hlt : k < n
    · obtain ⟨ad, x, rfl, hc, hx⟩ := h.at_ hlt
      obtain ⟨a1, a2⟩ := all_take (fun x => inC x lo hi) hx ht.out
      have H1 := Lib.hid a1
      have H2 := Lib.hid a2
      clear a1 a2 h hx
      cases c : inC x lo hi
      · go_wp2_with (go_at_call 60; refine (impl_within _).mono ?_; rintro e w' ⟨rfl, rfl⟩)
        go_ret
        exact ⟨by rw [H2.out c]; rfl, rfl⟩
      · go_wp2_with (go_at_call 60; refine (impl_within _).mono ?_; rintro e w' ⟨rfl, rfl⟩)
        exact ⟨⟨k + 1, by omega, by go_num, Lib.hid (by rw [H1.out, c])⟩, by simp [intOf]; omega⟩
    · go_wp2
      go_ret
      obtain rfl : k = n := by omega
      have h1 := ht.out
      rw [List.take_of_length_le (by rw [HX.out]; exact Nat.le_refl _)] at h1
      exact ⟨by rw [h1]; rfl, rfl⟩
set_option maxHeartbeats 400000 in
theorem impl_isHeld (n : Int) (w : World) : Calls Try.prog 96 #[.int .i64 n] w fun e w' => e = .returned (.bool (inC n 0 1000)) ∧ w = w' := by
  go_enter Try.func96, Try.ntmps96
  go_wp2_with ((go_at_call 60; refine (impl_within _).mono ?_; rintro e w' ⟨rfl, rfl⟩))
  go_ret
  exact ⟨rfl, rfl⟩
set_option maxHeartbeats 400000 in
theorem impl_ValidEnvelope (n d r : Int) (s : Nat) (w : World) : Calls Try.prog 68 #[.agg #[.int .i64 n, .int .i64 d, .float .f32 s, .int .i64 r]] w (RV (.bool (envC n d r)) w) := by
  unfold envC
  go_enter Try.func68, Try.ntmps68
  go_wp2_with (go_at_call 96; refine (impl_isHeld _ _).mono ?_; rintro e w' ⟨rfl, rfl⟩)
  all_goals
    go_ret
    refine ⟨ret_bool (by simp_all), ?_⟩
    (repeat (first | exact Below.refl _ _ | (with_reducible assumption) | refine below_drewN ?_ _ | refine Below.drew ?_ | refine Below.alloc ?_ (by simp; try omega) _))
set_option maxHeartbeats 1600000 in
theorem impl_LevelAt {A D R : Int} {s : Nat} {S : Option Nat} {held n : Int} (w : World) (hs : Fl .f32 s S) :
    Calls Try.prog 35 #[.agg #[.int .i64 A, .int .i64 D, .float .f32 s, .int .i64 R], .int .i64 held, .int .i64 n] w (RFBB (levNC A D R S held n) (levOk A D R held n) w) := by
  have hal := fun o => (Below.refl _ w).alloc (Nat.le_refl _) o
  have hz0 : ∀ o, (w.alloc o).heap.size = w.heap.size + 1 := fun o => by simp
  unfold levNC
  cases c1 : envC A D R
  · have h0 : levOk A D R held n = false := by simp [levOk, c1]
    rw [h0]
    simp only [Bool.false_eq_true, if_false]
    clear h0
    go_enter Try.func35, Try.ntmps35
    go_wp2_with fail
    refine (impl_ValidEnvelope _ _ _ _ _).mono ?_
    rintro e w1 ⟨rfl, hb1⟩
    have hb2 := below_next (hal _) (by simp) hb1
    rw [c1]
    clear hb1
    go_wp2_with fail
    go_ret2
    exact ⟨_, rfl, zero32, hb2⟩
  · have h0 : levOk A D R held n = (inC held 0 4000 && inC n 0 4000) := by simp [levOk, c1]
    rw [h0]
    clear h0
    cases c2 : (inC held 0 4000 && inC n 0 4000) <;> simp only [Bool.false_eq_true, if_true, if_false]
    all_goals
      go_enter Try.func35, Try.ntmps35
      go_wp2_with fail
      refine (impl_ValidEnvelope _ _ _ _ _).mono ?_
      rintro e w1 ⟨rfl, hb1⟩
      have hsz1 := hb1.size
      rw [hz0] at hsz1
      have hlt1 : w.heap.size < w1.heap.size := by omega
      have g0 : w1.cell? ⟨w.heap.size, 0, none⟩ = some (.int .i64 A) := by rw [cell_below hb1 (by simp)]; simp [go_sem]
      have g1 : w1.cell? ⟨w.heap.size, 1, none⟩ = some (.int .i64 D) := by rw [cell_below hb1 (by simp)]; simp [go_sem]
      have g2 : w1.cell? ⟨w.heap.size, 2, none⟩ = some (.float .f32 s) := by rw [cell_below hb1 (by simp)]; simp [go_sem]
      have g3 : w1.cell? ⟨w.heap.size, 3, none⟩ = some (.int .i64 R) := by rw [cell_below hb1 (by simp)]; simp [go_sem]
      have hb2 := below_next (hal _) (by simp) hb1
      rw [c1]
      clear hb1
      go_wp2_with fail
      refine (impl_allWithin (xs := [held, n]) _ ⟨rfl, by simp [maxLen], ?_⟩ (by simp)).mono ?_
      · intro j x hj
        match j, hj with
        | 0, hj =>
          simp at hj
          subst hj
          exact ⟨_, rfl, by simp [go_sem, Addr.add]⟩
        | 1, hj =>
          simp at hj
          subst hj
          exact ⟨_, rfl, by simp [go_sem, Addr.add]⟩
      rintro e w2 ⟨rfl, rfl⟩
      have c3 : ([held, n].all fun x => inC x 0 4000) = (inC held 0 4000 && inC n 0 4000) := by simp
      rw [c3, c2]
    · go_wp2_with fail
      go_ret2
      exact ⟨_, rfl, zero32, hb2.alloc (by omega) _⟩
    · have hh : inC held 0 4000 = true ∧ inC n 0 4000 = true := by simpa using c2
      have hA : (0 ≤ A ∧ A ≤ 1000) ∧ (0 ≤ D ∧ D ≤ 1000) ∧ (0 ≤ R ∧ R ≤ 1000) := by
        simp only [envC, Bool.and_eq_true] at c1
        exact ⟨(inC_iff _ _ _).1 c1.1.1, (inC_iff _ _ _).1 c1.1.2, (inC_iff _ _ _).1 c1.2⟩
      go_wp2_with fail
      refine (impl_level _ hs hA.1 hA.2.1 hA.2.2 ((inC_iff _ _ _).1 hh.1) ((inC_iff _ _ _).1 hh.2)).mono ?_
      rintro e w3 ⟨y, rfl, hy, hb3⟩
      have hb4 := below_next (hb2.alloc (by omega) _) (by simp; omega) hb3
      clear hb3 hb2
      go_wp2_with fail
      go_ret2
      exact ⟨_, rfl, hy, hb4⟩
set_option maxHeartbeats 400000 in
theorem laws_toEnvelope {n d r : Int} {s : Nat} (w : World) : Calls Try.prog 34 #[.agg #[.int .i64 n, .int .i64 d, .float .f32 s, .int .i64 r]] w (RV (.agg #[.int .i64 n, .int .i64 d, .float .f32 s, .int .i64 r]) w) := by
  go_enter Try.func34, Try.ntmps34
  go_wp2
  refine bodyPost_ret (v := .agg #[.int .i64 n, .int .i64 d, .float .f32 s, .int .i64 r]) ?_ rfl ⟨rfl, ?_⟩
  · simp [results, Try.results34, go_sem]
  · (repeat (first | exact Below.refl _ _ | (with_reducible assumption) | refine below_drewN ?_ _ | refine Below.drew ?_ | refine Below.alloc ?_ (by simp; try omega) _))
set_option maxHeartbeats 4000000 in
set_option maxRecDepth 100000 in
theorem levelAt_walk (a0_0 : Int) (a0_1 : Int) (a0_2 : Nat) (a0_3 : Int) (a1 : Int) (a2 : Int) (w : World) (w0_0 : (Lit.int .i64 a0_0).wf = true) (w0_1 : (Lit.int .i64 a0_1).wf = true) (w0_2 : a0_2 < 2 ^ FloatKind.f32.format.width) (w0_3 : (Lit.int .i64 a0_3).wf = true) (w1 : (Lit.int .i64 a1).wf = true) (w2 : (Lit.int .i64 a2).wf = true) :
    Calls Try.prog 9 #[.agg #[.int .i64 a0_0, .int .i64 a0_1, .float .f32 a0_2, .int .i64 a0_3], .int .i64 a1, .int .i64 a2] w fun e w' => e = .returned (.bool true) ∧ Below w.heap.size w w' := by
  have hy0_2 := Fl.self w0_2
  clear w1
  clear w2
  have HB0 : Below w.heap.size w w := Below.refl _ _
  have hz0 : w.heap.size ≤ w.heap.size := Nat.le_refl _
  go_enter Try.func9, Try.ntmps9
  go_wp2_with fail
  obtain ⟨W1, hW1⟩ : ∃ V, V = World.alloc w (.cells #[.int .i64 a0_0, .int .i64 a0_1, .float .f32 a0_2, .int .i64 a0_3] 54) := ⟨_, rfl⟩
  rw [← hW1]
  have eZ0 : w.heap.size = w.heap.size := rfl
  have hZ1 : W1.heap.size = w.heap.size + 1 := by rw [hW1]; simp [eZ0]
  have hb1 : Below w.heap.size w W1 := by rw [hW1]; exact (Below.refl _ _).alloc (Nat.le_refl _) _
  have cp0_0 : W1.cell? ⟨w.heap.size, 0, none⟩ = some (.int .i64 a0_0) := by rw [hW1, ← eZ0]; simp [go_sem]
  have cp0_1 : W1.cell? ⟨w.heap.size, 1, none⟩ = some (.int .i64 a0_1) := by rw [hW1, ← eZ0]; simp [go_sem]
  have cp0_2 : W1.cell? ⟨w.heap.size, 2, none⟩ = some (.float .f32 a0_2) := by rw [hW1, ← eZ0]; simp [go_sem]
  have cp0_3 : W1.cell? ⟨w.heap.size, 3, none⟩ = some (.int .i64 a0_3) := by rw [hW1, ← eZ0]; simp [go_sem]
  have ltp0 : w.heap.size < W1.heap.size := by rw [hZ1]; omega
  have lup0 := ltp0
  clear hW1
  have hs1 : w.heap.size ≤ W1.heap.size := hb1.size
  have HB1 := below_next HB0 hz0 hb1
  have hz1 : w.heap.size ≤ W1.heap.size := Nat.le_trans hz0 hs1
  clear hb1
  refine (laws_toEnvelope _).mono ?_
  rintro e_ W2 ⟨rfl, hb2⟩
  have hs2 : W1.heap.size ≤ W2.heap.size := hb2.size
  have HB2 := below_next HB1 hz1 hb2
  have hz2 : w.heap.size ≤ W2.heap.size := Nat.le_trans hz1 hs2
  replace cp0_0 := (cell_below hb2 ltp0).trans cp0_0
  replace cp0_1 := (cell_below hb2 ltp0).trans cp0_1
  replace cp0_2 := (cell_below hb2 ltp0).trans cp0_2
  replace cp0_3 := (cell_below hb2 ltp0).trans cp0_3
  replace ltp0 := Nat.lt_of_lt_of_le ltp0 hb2.size
  clear hb2
  go_wp2_with fail
  refine (spec_LevelAt _ hy0_2).mono ?_
  rintro e_ W3 ⟨rw0, rfl, hrw0, hb3⟩
  have hs3 : W2.heap.size ≤ W3.heap.size := hb3.size
  have HB3 := below_next HB2 hz2 hb3
  have hz3 : w.heap.size ≤ W3.heap.size := Nat.le_trans hz2 hs3
  replace cp0_0 := (cell_below hb3 ltp0).trans cp0_0
  replace cp0_1 := (cell_below hb3 ltp0).trans cp0_1
  replace cp0_2 := (cell_below hb3 ltp0).trans cp0_2
  replace cp0_3 := (cell_below hb3 ltp0).trans cp0_3
  replace ltp0 := Nat.lt_of_lt_of_le ltp0 hb3.size
  clear hb3
  go_wp2_with fail
  refine (laws_toEnvelope _).mono ?_
  rintro e_ W4 ⟨rfl, hb4⟩
  have hs4 : W3.heap.size ≤ W4.heap.size := hb4.size
  have HB4 := below_next HB3 hz3 hb4
  have hz4 : w.heap.size ≤ W4.heap.size := Nat.le_trans hz3 hs4
  replace cp0_0 := (cell_below hb4 ltp0).trans cp0_0
  replace cp0_1 := (cell_below hb4 ltp0).trans cp0_1
  replace cp0_2 := (cell_below hb4 ltp0).trans cp0_2
  replace cp0_3 := (cell_below hb4 ltp0).trans cp0_3
  replace ltp0 := Nat.lt_of_lt_of_le ltp0 hb4.size
  clear hb4
  go_wp2_with fail
  refine (impl_LevelAt _ hy0_2).mono ?_
  rintro e_ W5 ⟨rg0, rfl, hrg0, hb5⟩
  have hs5 : W4.heap.size ≤ W5.heap.size := hb5.size
  have HB5 := below_next HB4 hz4 hb5
  have hz5 : w.heap.size ≤ W5.heap.size := Nat.le_trans hz4 hs5
  replace cp0_0 := (cell_below hb5 ltp0).trans cp0_0
  replace cp0_1 := (cell_below hb5 ltp0).trans cp0_1
  replace cp0_2 := (cell_below hb5 ltp0).trans cp0_2
  replace cp0_3 := (cell_below hb5 ltp0).trans cp0_3
  replace ltp0 := Nat.lt_of_lt_of_le ltp0 hb5.size
  clear hb5
  go_wp2_with fail
  refine (RB.m (laws_sameFloat (hrg0.cw _) (hrw0.cw _) _)).mono ?_
  rintro e_ W6 ⟨rfl, hb6⟩
  replace hb6 := below_undrawn hb6
  have hs6 : W5.heap.size ≤ W6.heap.size := hb6.size
  have HB6 := below_next HB5 hz5 hb6
  have hz6 : w.heap.size ≤ W6.heap.size := Nat.le_trans hz5 hs6
  replace cp0_0 := (cell_below hb6 ltp0).trans cp0_0
  replace cp0_1 := (cell_below hb6 ltp0).trans cp0_1
  replace cp0_2 := (cell_below hb6 ltp0).trans cp0_2
  replace cp0_3 := (cell_below hb6 ltp0).trans cp0_3
  replace ltp0 := Nat.lt_of_lt_of_le ltp0 hb6.size
  clear hb6
  go_wp2_with fail
  go_ret
  exact ⟨rfl, HB6⟩
end Go.Proofs.Ytlenpecnfilkjaa
