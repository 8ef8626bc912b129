/- The walk of the law on new limiters: the law. Conditions: none. -/
import Derived.Test.YtbaokmapgdnhlaaL9
set_option linter.unusedVariables false
set_option linter.unusedSimpArgs false
namespace Go.Proofs.Ytbaokmapgdnhlaa
open Go.RowKit
theorem grown_behind {w w1 w2 : World} {row : Option Nat} (h : Below w.heap.size w w1) (g : w1.grownBy w2 row) : w.grownBy w2 row :=
  ⟨g.os.trans h.os, g.tape.trans h.tape, g.output.trans h.output, Nat.le_trans h.size g.size, fun i hi hr => (g.block i (Nat.lt_of_lt_of_le hi h.size) hr).trans (h.block i hi)⟩
theorem cell_below {w w' : World} {b o : Nat} (h : Below w.heap.size w w') (hb : b < w.heap.size) : w'.cell? ⟨b, o, none⟩ = w.cell? ⟨b, o, none⟩ := h.cell (p := ⟨b, o, none⟩) hb
theorem cell_grown {w w' : World} {row : Option Nat} {b o : Nat} (g : w.grownBy w' row) (hb : b < w.heap.size) (hr : row ≠ some b) : w'.cell? ⟨b, o, none⟩ = w.cell? ⟨b, o, none⟩ := World.cell?_of_block (a := ⟨b, o, none⟩) (g.block b hb (fun e => hr e.symm))
set_option maxHeartbeats 400000 in
theorem laws_markLimiter {x y z : Nat} {A : Option Addr} {n c : Nat} {xs : List Nat} {k : Int} {B : Nat} (w : World) (h : Of w B (.slice A n c) xs) (hl : xs.length = n) (hn : n ≤ 1048576) (h0 : 0 ≤ k) (h1 : k ≤ 1073741824) :
    Calls Try.prog 51 #[.agg #[.float .f32 x, .float .f32 y, .float .f32 z, .slice A n c], .int .i64 k] w fun e w' => e = .returned (.int .i64 (k + (n : Int))) ∧ Of w' B (.slice A n c) (marks k n) ∧ w.grownBy w' (Value.slice A n c).ownBlock := by
  have hal := fun o => (Below.refl _ w).alloc (Nat.le_refl _) o
  go_enter Try.func51, Try.ntmps51
  go_wp2_with fail
  refine (laws_markFloat32S _ (h.below (hal _)) hl hn h0 h1).mono ?_
  rintro e w1 ⟨rfl, ho, hg⟩
  go_wp2_with fail
  go_ret
  exact ⟨rfl, ho, grown_behind (hal _) hg⟩
set_option maxHeartbeats 400000 in
theorem laws_heldLimiter {x y z : Nat} {A : Option Addr} {n c : Nat} {k : Int} (w : World) (h : Rd w A n (marks k n)) (hn : n ≤ 1048576) (h0 : 0 ≤ k) (h1 : k ≤ 1073741824) :
    Calls Try.prog 52 #[.agg #[.float .f32 x, .float .f32 y, .float .f32 z, .slice A n c], .int .i64 k] w (RV (.int .i64 (k + (n : Int))) w) := by
  have hal := fun o => (Below.refl _ w).alloc (Nat.le_refl _) o
  go_enter Try.func52, Try.ntmps52
  go_wp2_with fail
  refine (laws_heldFloat32S _ (h.below (hal _)) hn h0 h1).mono ?_
  rintro e w1 ⟨rfl, rfl⟩
  go_wp2_with fail
  go_ret
  exact ⟨rfl, hal _⟩
set_option maxHeartbeats 800000 in
theorem laws_eqLimiter {x y z x' y' z' : Nat} {X Y Z : Option Nat} {A A' : Option Addr} {n c n' c' : Nat} {xs xs' : List Nat} (w : World) (hx : Fl .f32 x X) (hy : Fl .f32 y Y) (hz : Fl .f32 z Z) (hx' : Fl .f32 x' X) (hy' : Fl .f32 y' Y) (hz' : Fl .f32 z' Z) (h : Rd w A n xs) (h' : Rd w A' n' xs') (he : clss xs = clss xs') (hn : n ≤ 1048576) :
    Calls Try.prog 50 #[.agg #[.float .f32 x, .float .f32 y, .float .f32 z, .slice A n c], .agg #[.float .f32 x', .float .f32 y', .float .f32 z', .slice A' n' c']] w (RV (.bool true) w) := by
  have hal := fun o o' m => below_drewN (((Below.refl _ w).alloc (Nat.le_refl _) o).alloc (by simp) o') m
  go_enter Try.func50, Try.ntmps50
  go_wp2_with fail
  refine (laws_sameFloat (hx.cw _) (hx'.cw _) _).mono ?_; rintro e w' ⟨rfl, q1, rfl⟩
  go_wp2_with fail
  refine (laws_sameFloat (hy.cw _) (hy'.cw _) _).mono ?_; rintro e w' ⟨rfl, q2, rfl⟩
  go_wp2_with fail
  refine (laws_sameFloat (hz.cw _) (hz'.cw _) _).mono ?_; rintro e w' ⟨rfl, q3, rfl⟩
  go_wp2_with fail
  refine (laws_eqFloat32S _ (h.below (hal _ _ _)) (h'.below (hal _ _ _)) he (by omega)).mono ?_; rintro e w' ⟨rfl, q4, rfl⟩
  go_wp2_with fail
  go_ret
  exact ⟨rfl, hal _ _ _⟩
end Go.Proofs.Ytbaokmapgdnhlaa
