/- The walk of the law on new limiters: the law. Conditions: none. -/
import Derived.Test.YtcjflleeffbhhaaL9
set_option linter.unusedVariables false
set_option linter.unusedSimpArgs false
namespace Go.Proofs.Ytcjflleeffbhhaa
open Go.RowKit
theorem grown_behind {w w1 w2 : World} {row : Option Nat} (h : Below w.heap.size w w1) (g : w1.grownBy w2 row) : w.grownBy w2 row :=
  ⟨g.os.trans h.os, g.tape.trans h.tape, g.output.trans h.output, Nat.le_trans h.size g.size, fun i hi hr => (g.block i (Nat.lt_of_lt_of_le hi h.size) hr).trans (h.block i hi)⟩
theorem cell_below {w w' : World} {b o : Nat} (h : Below w.heap.size w w') (hb : b < w.heap.size) : w'.cell? ⟨b, o, none⟩ = w.cell? ⟨b, o, none⟩ := h.cell (p := ⟨b, o, none⟩) hb
theorem cell_grown {w w' : World} {row : Option Nat} {b o : Nat} (g : w.grownBy w' row) (hb : b < w.heap.size) (hr : row ≠ some b) : w'.cell? ⟨b, o, none⟩ = w.cell? ⟨b, o, none⟩ := World.cell?_of_block (a := ⟨b, o, none⟩) (g.block b hb (fun e => hr e.symm))
set_option maxHeartbeats 400000 in
theorem laws_markLimiter {x y z : Nat} {A : Option Addr} {n c : Nat} {xs : List Nat} {k : Int} {B : Nat} (w : World) (h : Of w B (.slice A n c) xs) (hl : xs.length = n) (hn : n ≤ 1048576) (h0 : 0 ≤ k) (h1 : k ≤ 1073741824) :
    Calls Try.prog 45 #[.agg #[.float .f32 x, .float .f32 y, .float .f32 z, .slice A n c], .int .i64 k] w fun e w' => e = .returned (.int .i64 (k + (n : Int))) ∧ Of w' B (.slice A n c) (marks k n) ∧ w.grownBy w' (Value.slice A n c).ownBlock := by
  have hal := fun o => (Below.refl _ w).alloc (Nat.le_refl _) o
  go_enter Try.func45, Try.ntmps45
  go_wp2_with fail
  refine (laws_markFloat32S _ (h.below (hal _)) hl hn h0 h1).mono ?_
  rintro e w1 ⟨rfl, ho, hg⟩
  go_wp2_with fail
  go_ret
  exact ⟨rfl, ho, grown_behind (hal _) hg⟩
set_option maxHeartbeats 400000 in
theorem laws_heldLimiter {x y z : Nat} {A : Option Addr} {n c : Nat} {k : Int} (w : World) (h : Rd w A n (marks k n)) (hn : n ≤ 1048576) (h0 : 0 ≤ k) (h1 : k ≤ 1073741824) :
    Calls Try.prog 46 #[.agg #[.float .f32 x, .float .f32 y, .float .f32 z, .slice A n c], .int .i64 k] w (RV (.int .i64 (k + (n : Int))) w) := by
  have hal := fun o => (Below.refl _ w).alloc (Nat.le_refl _) o
  go_enter Try.func46, Try.ntmps46
  go_wp2_with fail
  refine (laws_heldFloat32S _ (h.below (hal _)) hn h0 h1).mono ?_
  rintro e w1 ⟨rfl, rfl⟩
  go_wp2_with fail
  go_ret
  exact ⟨rfl, hal _⟩
set_option maxHeartbeats 800000 in
theorem laws_eqLimiter {x y z x' y' z' : Nat} {X Y Z : Option Nat} {A A' : Option Addr} {n c n' c' : Nat} {xs xs' : List Nat} (w : World) (hx : Fl .f32 x X) (hy : Fl .f32 y Y) (hz : Fl .f32 z Z) (hx' : Fl .f32 x' X) (hy' : Fl .f32 y' Y) (hz' : Fl .f32 z' Z) (h : Rd w A n xs) (h' : Rd w A' n' xs') (he : clss xs = clss xs') (hn : n ≤ 1048576) :
    Calls Try.prog 44 #[.agg #[.float .f32 x, .float .f32 y, .float .f32 z, .slice A n c], .agg #[.float .f32 x', .float .f32 y', .float .f32 z', .slice A' n' c']] w (RV (.bool true) w) := by
  have hal := fun o o' m => below_drewN (((Below.refl _ w).alloc (Nat.le_refl _) o).alloc (by simp) o') m
  go_enter Try.func44, Try.ntmps44
  go_wp2_with fail
  refine (laws_sameFloat (hx.cw _) (hx'.cw _) _).mono ?_; rintro e w' ⟨rfl, q1, rfl⟩
  go_wp2_with fail
  refine (laws_sameFloat (hy.cw _) (hy'.cw _) _).mono ?_; rintro e w' ⟨rfl, q2, rfl⟩
  go_wp2_with fail
  refine (laws_sameFloat (hz.cw _) (hz'.cw _) _).mono ?_; rintro e w' ⟨rfl, q3, rfl⟩
  go_wp2_with fail
  refine (laws_eqFloat32S _ (h.below (hal _ _ _)) (h'.below (hal _ _ _)) he (by omega)).mono ?_; rintro e w' ⟨rfl, q4, rfl⟩
  go_wp2_with fail
  go_ret
  exact ⟨rfl, hal _ _ _⟩
set_option maxHeartbeats 4000000 in
set_option maxRecDepth 100000 in
theorem newLimiter_walk (a0 : Nat) (a1 : Nat) (a2 : Int) (w : World) (w0 : a0 < 2 ^ FloatKind.f32.format.width) (w1 : a1 < 2 ^ FloatKind.f32.format.width) (w2 : (Lit.int .i64 a2).wf = true) :
    Calls Try.prog 14 #[.float .f32 a0, .float .f32 a1, .int .i64 a2] w fun e w' => e = .returned (.bool true) ∧ Below w.heap.size w w' := by
  have hy0 := Fl.self w0
  have hy1 := Fl.self w1
  clear w2
  have HB0 : Below w.heap.size w w := Below.refl _ _
  have hz0 : w.heap.size ≤ w.heap.size := Nat.le_refl _
  go_enter Try.func14, Try.ntmps14
  go_wp2_with fail
  refine (spec_NewLimiter _ hy0 hy1).mono ?_
  rintro e_ W1 ⟨rw0_0, rw0_1, rw0_2, vw0, zw0, rfl, hrw0_0, hrw0_1, hrw0_2, HOw0, hzw0, hmw0, hb1⟩
  have hs1 : w.heap.size ≤ W1.heap.size := hb1.size
  have HB1 := below_next HB0 hz0 hb1
  have hz1 : w.heap.size ≤ W1.heap.size := Nat.le_trans hz0 hs1
  have HZw0 := Lib.hid hzw0; clear hzw0
  obtain ⟨Aw0, c_w0, rfl⟩ := HOw0.shape
  have ltAw0 := HOw0.lt
  have geAw0 := HOw0.base
  clear hb1
  go_wp2_with fail
  obtain ⟨b_w0, eb_w0⟩ : ∃ b, W1.heap.size = b := ⟨_, rfl⟩
  obtain ⟨W2, hW2⟩ : ∃ V, V = World.alloc W1 (.cells #[.float .f32 rw0_0, .float .f32 rw0_1, .float .f32 rw0_2, .slice Aw0 zw0.length c_w0] 45) := ⟨_, rfl⟩
  rw [← hW2, eb_w0]
  have hb2 : Below W1.heap.size W1 W2 := by rw [hW2]; exact (Below.refl _ _).alloc (Nat.le_refl _) _
  have cb_w0_0 : W2.cell? ⟨b_w0, 0, none⟩ = some (.float .f32 rw0_0) := by rw [hW2, ← eb_w0]; simp [go_sem]
  have cb_w0_1 : W2.cell? ⟨b_w0, 1, none⟩ = some (.float .f32 rw0_1) := by rw [hW2, ← eb_w0]; simp [go_sem]
  have cb_w0_2 : W2.cell? ⟨b_w0, 2, none⟩ = some (.float .f32 rw0_2) := by rw [hW2, ← eb_w0]; simp [go_sem]
  have cb_w0_3 : W2.cell? ⟨b_w0, 3, none⟩ = some (.slice Aw0 zw0.length c_w0) := by rw [hW2, ← eb_w0]; simp [go_sem]
  have ltb_w0 : b_w0 < W2.heap.size := by rw [hW2, ← eb_w0]; simp
  have lub_w0 := ltb_w0
  clear hW2
  have hs2 : W1.heap.size ≤ W2.heap.size := hb2.size
  have HB2 := below_next HB1 hz1 hb2
  have hz2 : w.heap.size ≤ W2.heap.size := Nat.le_trans hz1 hs2
  replace HOw0 := HOw0.below hb2
  clear hb2
  refine (impl_NewLimiter _ hy0 hy1).mono ?_
  rintro e_ W3 ⟨rg0_0, rg0_1, rg0_2, vg0, zg0, rfl, hrg0_0, hrg0_1, hrg0_2, HOg0, hzg0, hmg0, hb3⟩
  have hs3 : W2.heap.size ≤ W3.heap.size := hb3.size
  have HB3 := below_next HB2 hz2 hb3
  have hz3 : w.heap.size ≤ W3.heap.size := Nat.le_trans hz2 hs3
  replace HOw0 := HOw0.below hb3
  replace cb_w0_0 := (cell_below hb3 ltb_w0).trans cb_w0_0
  replace cb_w0_1 := (cell_below hb3 ltb_w0).trans cb_w0_1
  replace cb_w0_2 := (cell_below hb3 ltb_w0).trans cb_w0_2
  replace cb_w0_3 := (cell_below hb3 ltb_w0).trans cb_w0_3
  replace ltb_w0 := Nat.lt_of_lt_of_le ltb_w0 hb3.size
  have HZg0 := Lib.hid hzg0; clear hzg0
  obtain ⟨Ag0, c_g0, rfl⟩ := HOg0.shape
  have ltAg0 := HOg0.lt
  have geAg0 := HOg0.base
  clear hb3
  go_wp2_with fail
  obtain ⟨b_g0, eb_g0⟩ : ∃ b, W3.heap.size = b := ⟨_, rfl⟩
  obtain ⟨W4, hW4⟩ : ∃ V, V = World.alloc W3 (.cells #[.float .f32 rg0_0, .float .f32 rg0_1, .float .f32 rg0_2, .slice Ag0 zg0.length c_g0] 45) := ⟨_, rfl⟩
  rw [← hW4, eb_g0]
  have hb4 : Below W3.heap.size W3 W4 := by rw [hW4]; exact (Below.refl _ _).alloc (Nat.le_refl _) _
  have cb_g0_0 : W4.cell? ⟨b_g0, 0, none⟩ = some (.float .f32 rg0_0) := by rw [hW4, ← eb_g0]; simp [go_sem]
  have cb_g0_1 : W4.cell? ⟨b_g0, 1, none⟩ = some (.float .f32 rg0_1) := by rw [hW4, ← eb_g0]; simp [go_sem]
  have cb_g0_2 : W4.cell? ⟨b_g0, 2, none⟩ = some (.float .f32 rg0_2) := by rw [hW4, ← eb_g0]; simp [go_sem]
  have cb_g0_3 : W4.cell? ⟨b_g0, 3, none⟩ = some (.slice Ag0 zg0.length c_g0) := by rw [hW4, ← eb_g0]; simp [go_sem]
  have ltb_g0 : b_g0 < W4.heap.size := by rw [hW4, ← eb_g0]; simp
  have lub_g0 := ltb_g0
  clear hW4
  have hs4 : W3.heap.size ≤ W4.heap.size := hb4.size
  have HB4 := below_next HB3 hz3 hb4
  have hz4 : w.heap.size ≤ W4.heap.size := Nat.le_trans hz3 hs4
  replace HOw0 := HOw0.below hb4
  replace HOg0 := HOg0.below hb4
  replace cb_w0_0 := (cell_below hb4 ltb_w0).trans cb_w0_0
  replace cb_w0_1 := (cell_below hb4 ltb_w0).trans cb_w0_1
  replace cb_w0_2 := (cell_below hb4 ltb_w0).trans cb_w0_2
  replace cb_w0_3 := (cell_below hb4 ltb_w0).trans cb_w0_3
  replace ltb_w0 := Nat.lt_of_lt_of_le ltb_w0 hb4.size
  clear hb4
  refine (laws_eqLimiter _ hrg0_0 hrg0_1 hrg0_2 hrw0_0 hrw0_1 hrw0_2 (HOg0.rd rfl) (HOw0.rd rfl) (by rw [HZg0.out, HZw0.out]) (by omega)).mono ?_
  rintro e_ W5 ⟨rfl, hb5⟩
  have hs5 : W4.heap.size ≤ W5.heap.size := hb5.size
  have HB5 := below_next HB4 hz4 hb5
  have hz5 : w.heap.size ≤ W5.heap.size := Nat.le_trans hz4 hs5
  replace HOw0 := HOw0.below hb5
  replace HOg0 := HOg0.below hb5
  replace cb_w0_0 := (cell_below hb5 ltb_w0).trans cb_w0_0
  replace cb_w0_1 := (cell_below hb5 ltb_w0).trans cb_w0_1
  replace cb_w0_2 := (cell_below hb5 ltb_w0).trans cb_w0_2
  replace cb_w0_3 := (cell_below hb5 ltb_w0).trans cb_w0_3
  replace ltb_w0 := Nat.lt_of_lt_of_le ltb_w0 hb5.size
  replace cb_g0_0 := (cell_below hb5 ltb_g0).trans cb_g0_0
  replace cb_g0_1 := (cell_below hb5 ltb_g0).trans cb_g0_1
  replace cb_g0_2 := (cell_below hb5 ltb_g0).trans cb_g0_2
  replace cb_g0_3 := (cell_below hb5 ltb_g0).trans cb_g0_3
  replace ltb_g0 := Nat.lt_of_lt_of_le ltb_g0 hb5.size
  clear hb5
  go_wp2_with fail
  refine (laws_markLimiter _ HOg0 rfl (by omega) (by omega) (by omega)).mono ?_
  clear HOg0
  rintro e_ W6 ⟨rfl, HOg0, hg6⟩
  have hs6 : W5.heap.size ≤ W6.heap.size := hg6.size
  have HB6 := HB5.grown hg6 hz5 (fun k_ e_ => Nat.le_trans hz2 (geAg0 k_ e_))
  have hz6 : w.heap.size ≤ W6.heap.size := Nat.le_trans hz5 hs6
  replace HOw0 := HOw0.other hg6 (own_apart ltAw0 geAg0 (by omega))
  replace cb_w0_0 := (cell_grown hg6 ltb_w0 (fun e_ => by have h1_ := ltAg0 _ e_; have h2_ := geAg0 _ e_; omega)).trans cb_w0_0
  replace cb_w0_1 := (cell_grown hg6 ltb_w0 (fun e_ => by have h1_ := ltAg0 _ e_; have h2_ := geAg0 _ e_; omega)).trans cb_w0_1
  replace cb_w0_2 := (cell_grown hg6 ltb_w0 (fun e_ => by have h1_ := ltAg0 _ e_; have h2_ := geAg0 _ e_; omega)).trans cb_w0_2
  replace cb_w0_3 := (cell_grown hg6 ltb_w0 (fun e_ => by have h1_ := ltAg0 _ e_; have h2_ := geAg0 _ e_; omega)).trans cb_w0_3
  replace ltb_w0 := Nat.lt_of_lt_of_le ltb_w0 hg6.size
  replace cb_g0_0 := (cell_grown hg6 ltb_g0 (fun e_ => by have h1_ := ltAg0 _ e_; have h2_ := geAg0 _ e_; omega)).trans cb_g0_0
  replace cb_g0_1 := (cell_grown hg6 ltb_g0 (fun e_ => by have h1_ := ltAg0 _ e_; have h2_ := geAg0 _ e_; omega)).trans cb_g0_1
  replace cb_g0_2 := (cell_grown hg6 ltb_g0 (fun e_ => by have h1_ := ltAg0 _ e_; have h2_ := geAg0 _ e_; omega)).trans cb_g0_2
  replace cb_g0_3 := (cell_grown hg6 ltb_g0 (fun e_ => by have h1_ := ltAg0 _ e_; have h2_ := geAg0 _ e_; omega)).trans cb_g0_3
  replace ltb_g0 := Nat.lt_of_lt_of_le ltb_g0 hg6.size
  clear hg6
  go_wp2_with fail
  refine (laws_heldLimiter _ (HOg0.rd (marks_length _ _)) (by omega) (by omega) (by omega)).mono ?_
  rintro e_ W7 ⟨rfl, hb7⟩
  have hs7 : W6.heap.size ≤ W7.heap.size := hb7.size
  have HB7 := below_next HB6 hz6 hb7
  have hz7 : w.heap.size ≤ W7.heap.size := Nat.le_trans hz6 hs7
  replace HOw0 := HOw0.below hb7
  replace HOg0 := HOg0.below hb7
  replace cb_w0_0 := (cell_below hb7 ltb_w0).trans cb_w0_0
  replace cb_w0_1 := (cell_below hb7 ltb_w0).trans cb_w0_1
  replace cb_w0_2 := (cell_below hb7 ltb_w0).trans cb_w0_2
  replace cb_w0_3 := (cell_below hb7 ltb_w0).trans cb_w0_3
  replace ltb_w0 := Nat.lt_of_lt_of_le ltb_w0 hb7.size
  replace cb_g0_0 := (cell_below hb7 ltb_g0).trans cb_g0_0
  replace cb_g0_1 := (cell_below hb7 ltb_g0).trans cb_g0_1
  replace cb_g0_2 := (cell_below hb7 ltb_g0).trans cb_g0_2
  replace cb_g0_3 := (cell_below hb7 ltb_g0).trans cb_g0_3
  replace ltb_g0 := Nat.lt_of_lt_of_le ltb_g0 hb7.size
  clear hb7
  go_wp2_with fail
  refine (impl_NewLimiter _ hy0 hy1).mono ?_
  rintro e_ W8 ⟨rh0_0, rh0_1, rh0_2, vh0, zh0, rfl, hrh0_0, hrh0_1, hrh0_2, HOh0, hzh0, hmh0, hb8⟩
  have hs8 : W7.heap.size ≤ W8.heap.size := hb8.size
  have HB8 := below_next HB7 hz7 hb8
  have hz8 : w.heap.size ≤ W8.heap.size := Nat.le_trans hz7 hs8
  replace HOw0 := HOw0.below hb8
  replace HOg0 := HOg0.below hb8
  replace cb_w0_0 := (cell_below hb8 ltb_w0).trans cb_w0_0
  replace cb_w0_1 := (cell_below hb8 ltb_w0).trans cb_w0_1
  replace cb_w0_2 := (cell_below hb8 ltb_w0).trans cb_w0_2
  replace cb_w0_3 := (cell_below hb8 ltb_w0).trans cb_w0_3
  replace ltb_w0 := Nat.lt_of_lt_of_le ltb_w0 hb8.size
  replace cb_g0_0 := (cell_below hb8 ltb_g0).trans cb_g0_0
  replace cb_g0_1 := (cell_below hb8 ltb_g0).trans cb_g0_1
  replace cb_g0_2 := (cell_below hb8 ltb_g0).trans cb_g0_2
  replace cb_g0_3 := (cell_below hb8 ltb_g0).trans cb_g0_3
  replace ltb_g0 := Nat.lt_of_lt_of_le ltb_g0 hb8.size
  have HZh0 := Lib.hid hzh0; clear hzh0
  obtain ⟨Ah0, c_h0, rfl⟩ := HOh0.shape
  have ltAh0 := HOh0.lt
  have geAh0 := HOh0.base
  clear hb8
  go_wp2_with fail
  obtain ⟨b_h0, eb_h0⟩ : ∃ b, W8.heap.size = b := ⟨_, rfl⟩
  obtain ⟨W9, hW9⟩ : ∃ V, V = World.alloc W8 (.cells #[.float .f32 rh0_0, .float .f32 rh0_1, .float .f32 rh0_2, .slice Ah0 zh0.length c_h0] 45) := ⟨_, rfl⟩
  rw [← hW9, eb_h0]
  have hb9 : Below W8.heap.size W8 W9 := by rw [hW9]; exact (Below.refl _ _).alloc (Nat.le_refl _) _
  have cb_h0_0 : W9.cell? ⟨b_h0, 0, none⟩ = some (.float .f32 rh0_0) := by rw [hW9, ← eb_h0]; simp [go_sem]
  have cb_h0_1 : W9.cell? ⟨b_h0, 1, none⟩ = some (.float .f32 rh0_1) := by rw [hW9, ← eb_h0]; simp [go_sem]
  have cb_h0_2 : W9.cell? ⟨b_h0, 2, none⟩ = some (.float .f32 rh0_2) := by rw [hW9, ← eb_h0]; simp [go_sem]
  have cb_h0_3 : W9.cell? ⟨b_h0, 3, none⟩ = some (.slice Ah0 zh0.length c_h0) := by rw [hW9, ← eb_h0]; simp [go_sem]
  have ltb_h0 : b_h0 < W9.heap.size := by rw [hW9, ← eb_h0]; simp
  have lub_h0 := ltb_h0
  clear hW9
  have hs9 : W8.heap.size ≤ W9.heap.size := hb9.size
  have HB9 := below_next HB8 hz8 hb9
  have hz9 : w.heap.size ≤ W9.heap.size := Nat.le_trans hz8 hs9
  replace HOw0 := HOw0.below hb9
  replace HOg0 := HOg0.below hb9
  replace HOh0 := HOh0.below hb9
  replace cb_w0_0 := (cell_below hb9 ltb_w0).trans cb_w0_0
  replace cb_w0_1 := (cell_below hb9 ltb_w0).trans cb_w0_1
  replace cb_w0_2 := (cell_below hb9 ltb_w0).trans cb_w0_2
  replace cb_w0_3 := (cell_below hb9 ltb_w0).trans cb_w0_3
  replace ltb_w0 := Nat.lt_of_lt_of_le ltb_w0 hb9.size
  replace cb_g0_0 := (cell_below hb9 ltb_g0).trans cb_g0_0
  replace cb_g0_1 := (cell_below hb9 ltb_g0).trans cb_g0_1
  replace cb_g0_2 := (cell_below hb9 ltb_g0).trans cb_g0_2
  replace cb_g0_3 := (cell_below hb9 ltb_g0).trans cb_g0_3
  replace ltb_g0 := Nat.lt_of_lt_of_le ltb_g0 hb9.size
  clear hb9
  refine (laws_eqLimiter _ hrh0_0 hrh0_1 hrh0_2 hrw0_0 hrw0_1 hrw0_2 (HOh0.rd rfl) (HOw0.rd rfl) (by rw [HZh0.out, HZw0.out]) (by omega)).mono ?_
  rintro e_ W10 ⟨rfl, hb10⟩
  have hs10 : W9.heap.size ≤ W10.heap.size := hb10.size
  have HB10 := below_next HB9 hz9 hb10
  have hz10 : w.heap.size ≤ W10.heap.size := Nat.le_trans hz9 hs10
  replace HOw0 := HOw0.below hb10
  replace HOg0 := HOg0.below hb10
  replace HOh0 := HOh0.below hb10
  replace cb_w0_0 := (cell_below hb10 ltb_w0).trans cb_w0_0
  replace cb_w0_1 := (cell_below hb10 ltb_w0).trans cb_w0_1
  replace cb_w0_2 := (cell_below hb10 ltb_w0).trans cb_w0_2
  replace cb_w0_3 := (cell_below hb10 ltb_w0).trans cb_w0_3
  replace ltb_w0 := Nat.lt_of_lt_of_le ltb_w0 hb10.size
  replace cb_g0_0 := (cell_below hb10 ltb_g0).trans cb_g0_0
  replace cb_g0_1 := (cell_below hb10 ltb_g0).trans cb_g0_1
  replace cb_g0_2 := (cell_below hb10 ltb_g0).trans cb_g0_2
  replace cb_g0_3 := (cell_below hb10 ltb_g0).trans cb_g0_3
  replace ltb_g0 := Nat.lt_of_lt_of_le ltb_g0 hb10.size
  replace cb_h0_0 := (cell_below hb10 ltb_h0).trans cb_h0_0
  replace cb_h0_1 := (cell_below hb10 ltb_h0).trans cb_h0_1
  replace cb_h0_2 := (cell_below hb10 ltb_h0).trans cb_h0_2
  replace cb_h0_3 := (cell_below hb10 ltb_h0).trans cb_h0_3
  replace ltb_h0 := Nat.lt_of_lt_of_le ltb_h0 hb10.size
  clear hb10
  go_wp2_with fail
  refine (laws_heldLimiter _ (HOg0.rd (marks_length _ _)) (by omega) (by omega) (by omega)).mono ?_
  rintro e_ W11 ⟨rfl, hb11⟩
  have hs11 : W10.heap.size ≤ W11.heap.size := hb11.size
  have HB11 := below_next HB10 hz10 hb11
  have hz11 : w.heap.size ≤ W11.heap.size := Nat.le_trans hz10 hs11
  replace HOw0 := HOw0.below hb11
  replace HOg0 := HOg0.below hb11
  replace HOh0 := HOh0.below hb11
  replace cb_w0_0 := (cell_below hb11 ltb_w0).trans cb_w0_0
  replace cb_w0_1 := (cell_below hb11 ltb_w0).trans cb_w0_1
  replace cb_w0_2 := (cell_below hb11 ltb_w0).trans cb_w0_2
  replace cb_w0_3 := (cell_below hb11 ltb_w0).trans cb_w0_3
  replace ltb_w0 := Nat.lt_of_lt_of_le ltb_w0 hb11.size
  replace cb_g0_0 := (cell_below hb11 ltb_g0).trans cb_g0_0
  replace cb_g0_1 := (cell_below hb11 ltb_g0).trans cb_g0_1
  replace cb_g0_2 := (cell_below hb11 ltb_g0).trans cb_g0_2
  replace cb_g0_3 := (cell_below hb11 ltb_g0).trans cb_g0_3
  replace ltb_g0 := Nat.lt_of_lt_of_le ltb_g0 hb11.size
  replace cb_h0_0 := (cell_below hb11 ltb_h0).trans cb_h0_0
  replace cb_h0_1 := (cell_below hb11 ltb_h0).trans cb_h0_1
  replace cb_h0_2 := (cell_below hb11 ltb_h0).trans cb_h0_2
  replace cb_h0_3 := (cell_below hb11 ltb_h0).trans cb_h0_3
  replace ltb_h0 := Nat.lt_of_lt_of_le ltb_h0 hb11.size
  clear hb11
  go_wp2_with fail
  go_ret
  exact ⟨rfl, HB11⟩
end Go.Proofs.Ytcjflleeffbhhaa
