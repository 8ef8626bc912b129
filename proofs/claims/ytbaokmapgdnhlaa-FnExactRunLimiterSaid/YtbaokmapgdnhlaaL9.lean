/- The walk of the law on new limiters. Conditions: none. -/
import Derived.Test.YtbaokmapgdnhlaaL7
import Derived.Test.YtbaokmapgdnhlaaL3
import Derived.Deep.Onto
set_option linter.unusedVariables false
set_option linter.unusedSimpArgs false
namespace Go.Proofs.Ytbaokmapgdnhlaa
open Go.RowKit
set_option maxHeartbeats 400000 in
theorem impl_IsFinite {x : Nat} {X : Option Nat} (hx : Fl .f32 x X) (w : World) : Calls Try.prog 70 #[.float .f32 x] w (RB (finC X) w) := by
  go_enter Try.func70, Try.ntmps70
  go_wp2
  go_ret
  exact ⟨by rw [Fl.ord (k := .f32) ((by repeat (first | (with_reducible assumption) | exact Fl.of_lit (by decide) (by decide) | apply Fl.fr | apply Fl.cw | apply Fl.cn)) : Fl .f32 (fr .sub .f32 x x w) _) (by repeat (first | (with_reducible assumption) | exact Fl.of_lit (by decide) (by decide) | apply Fl.fr | apply Fl.cw | apply Fl.cn))]; rfl, _, rfl⟩
set_option maxHeartbeats 400000 in
theorem spec_l01Finite {x : Nat} {X : Option Nat} (hx : Fl .f32 x X) (w : World) : Calls Try.prog 68 #[.float .f32 x] w (RB (finC X) w) := by
  go_enter Try.func68, Try.ntmps68
  go_wp2
  go_ret
  exact ⟨by rw [Fl.ord (k := .f32) ((by repeat (first | (with_reducible assumption) | exact Fl.of_lit (by decide) (by decide) | apply Fl.fr | apply Fl.cw | apply Fl.cn)) : Fl .f32 (fr .sub .f32 x x w) _) (by repeat (first | (with_reducible assumption) | exact Fl.of_lit (by decide) (by decide) | apply Fl.fr | apply Fl.cw | apply Fl.cn))]; rfl, _, rfl⟩
@[go_sem] theorem setCell_drewN (w : World) (n : Nat) (a : Addr) (v : Value) : (w.drewN n).setCell a v = (w.setCell a v).drewN n := rfl
def limitC (X : Option Nat) : Bool := finC X && (ford .f32 X (some 0) == some .gt)
set_option maxHeartbeats 400000 in
theorem spec_l04Limit {x : Nat} {X : Option Nat} (hx : Fl .f32 x X) (w : World) : Calls Try.prog 87 #[.float .f32 x] w (RB (limitC X) w) := by
  have h1 := Fl.ord hx (.of_lit (k := .f32) (b := 0) (by decide) (by decide))
  unfold limitC
  go_enter Try.func87, Try.ntmps87
  go_wp2_with (go_at_call 68; refine (spec_l01Finite hx _).mono ?_; rintro e w' ⟨rfl, n, rfl⟩)
  all_goals (go_ret; exact ⟨ret_bool (by simp_all), by first | exact ⟨_, rfl⟩ | exact ⟨0, rfl⟩⟩)
set_option maxHeartbeats 400000 in
theorem impl_isLimit {x : Nat} {X : Option Nat} (hx : Fl .f32 x X) (w : World) : Calls Try.prog 90 #[.float .f32 x] w (RB (limitC X) w) := by
  have h1 := Fl.ord hx (.of_lit (k := .f32) (b := 0) (by decide) (by decide))
  unfold limitC
  go_enter Try.func90, Try.ntmps90
  go_wp2_with (go_at_call 70; refine (impl_IsFinite hx _).mono ?_; rintro e w' ⟨rfl, n, rfl⟩)
  all_goals (go_ret; exact ⟨ret_bool (by simp_all), by first | exact ⟨_, rfl⟩ | exact ⟨0, rfl⟩⟩)
theorem Ow.put {e : TypeId} {w : World} {B : Nat} {v : Value} {xs : List Nat} (h : Ow e w B v xs) {a : Addr} (ha : a.block < B) (u : Value) : Ow e (w.setCell a u) B v xs := ⟨ownsRow_setCell_below h.own ha u, h.wf⟩
theorem Ow.low {e : TypeId} {w : World} {B B' : Nat} {v : Value} {xs : List Nat} (h : Ow e w B v xs) (hb : B' ≤ B) : Ow e w B' v xs := ⟨World.ownsRow.mono h.own hb, h.wf⟩
def limNC (L : Option Nat) (n : Int) : Bool := limitC L && inC n 0 64
/-- A limiter and a bool. -/
def RLB (L R G : Option Nat) (Z : List (Option Nat)) (b : Bool) (w : World) (e : Ending) (w' : World) : Prop := ∃ l r g v zs, e = .returned (.tuple #[.agg #[.float .f32 l, .float .f32 r, .float .f32 g, v], .bool b]) ∧ Fl .f32 l L ∧ Fl .f32 r R ∧ Fl .f32 g G ∧ Of w' w.heap.size v zs ∧ clss zs = Z ∧ zs.length ≤ 1048576 ∧ Below w.heap.size w w'
def limN (b : Bool) (X : Option Nat) : Option Nat := if b = true then X else some 0
end Go.Proofs.Ytbaokmapgdnhlaa
