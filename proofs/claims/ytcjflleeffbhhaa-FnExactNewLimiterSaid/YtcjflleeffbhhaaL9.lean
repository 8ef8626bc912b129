/- The walk of the law on new limiters. Conditions: none. -/
import Derived.Test.YtcjflleeffbhhaaL7
import Derived.Test.YtcjflleeffbhhaaL3
import Derived.Deep.Onto
set_option linter.unusedVariables false
set_option linter.unusedSimpArgs false
namespace Go.Proofs.Ytcjflleeffbhhaa
open Go.RowKit
set_option maxHeartbeats 400000 in
theorem impl_IsFinite {x : Nat} {X : Option Nat} (hx : Fl .f32 x X) (w : World) : Calls Try.prog 80 #[.float .f32 x] w (RB (finC X) w) := by
  go_enter Try.func80, Try.ntmps80
  go_wp2
  go_ret
  exact ⟨by rw [Fl.ord (k := .f32) ((by repeat (first | (with_reducible assumption) | exact Fl.of_lit (by decide) (by decide) | apply Fl.fr | apply Fl.cw | apply Fl.cn)) : Fl .f32 (fr .sub .f32 x x w) _) (by repeat (first | (with_reducible assumption) | exact Fl.of_lit (by decide) (by decide) | apply Fl.fr | apply Fl.cw | apply Fl.cn))]; rfl, _, rfl⟩
set_option maxHeartbeats 400000 in
theorem spec_l01Finite {x : Nat} {X : Option Nat} (hx : Fl .f32 x X) (w : World) : Calls Try.prog 79 #[.float .f32 x] w (RB (finC X) w) := by
  go_enter Try.func79, Try.ntmps79
  go_wp2
  go_ret
  exact ⟨by rw [Fl.ord (k := .f32) ((by repeat (first | (with_reducible assumption) | exact Fl.of_lit (by decide) (by decide) | apply Fl.fr | apply Fl.cw | apply Fl.cn)) : Fl .f32 (fr .sub .f32 x x w) _) (by repeat (first | (with_reducible assumption) | exact Fl.of_lit (by decide) (by decide) | apply Fl.fr | apply Fl.cw | apply Fl.cn))]; rfl, _, rfl⟩
@[go_sem] theorem setCell_drewN (w : World) (n : Nat) (a : Addr) (v : Value) : (w.drewN n).setCell a v = (w.setCell a v).drewN n := rfl
def limitC (X : Option Nat) : Bool := finC X && (ford .f32 X (some 0) == some .gt)
set_option maxHeartbeats 400000 in
theorem spec_l04Limit {x : Nat} {X : Option Nat} (hx : Fl .f32 x X) (w : World) : Calls Try.prog 72 #[.float .f32 x] w (RB (limitC X) w) := by
  have h1 := Fl.ord hx (.of_lit (k := .f32) (b := 0) (by decide) (by decide))
  unfold limitC
  go_enter Try.func72, Try.ntmps72
  go_wp2_with (go_at_call 79; refine (spec_l01Finite hx _).mono ?_; rintro e w' ⟨rfl, n, rfl⟩)
  all_goals (go_ret; exact ⟨ret_bool (by simp_all), by first | exact ⟨_, rfl⟩ | exact ⟨0, rfl⟩⟩)
set_option maxHeartbeats 400000 in
theorem impl_isLimit {x : Nat} {X : Option Nat} (hx : Fl .f32 x X) (w : World) : Calls Try.prog 73 #[.float .f32 x] w (RB (limitC X) w) := by
  have h1 := Fl.ord hx (.of_lit (k := .f32) (b := 0) (by decide) (by decide))
  unfold limitC
  go_enter Try.func73, Try.ntmps73
  go_wp2_with (go_at_call 80; refine (impl_IsFinite hx _).mono ?_; rintro e w' ⟨rfl, n, rfl⟩)
  all_goals (go_ret; exact ⟨ret_bool (by simp_all), by first | exact ⟨_, rfl⟩ | exact ⟨0, rfl⟩⟩)
theorem Ow.put {e : TypeId} {w : World} {B : Nat} {v : Value} {xs : List Nat} (h : Ow e w B v xs) {a : Addr} (ha : a.block < B) (u : Value) : Ow e (w.setCell a u) B v xs := ⟨ownsRow_setCell_below h.own ha u, h.wf⟩
theorem Ow.low {e : TypeId} {w : World} {B B' : Nat} {v : Value} {xs : List Nat} (h : Ow e w B v xs) (hb : B' ≤ B) : Ow e w B' v xs := ⟨World.ownsRow.mono h.own hb, h.wf⟩
def limNC (L : Option Nat) (n : Int) : Bool := limitC L && inC n 0 64
/-- A limiter and a bool. -/
def RLB (L R G : Option Nat) (Z : List (Option Nat)) (b : Bool) (w : World) (e : Ending) (w' : World) : Prop := ∃ l r g v zs, e = .returned (.tuple #[.agg #[.float .f32 l, .float .f32 r, .float .f32 g, v], .bool b]) ∧ Fl .f32 l L ∧ Fl .f32 r R ∧ Fl .f32 g G ∧ Of w' w.heap.size v zs ∧ clss zs = Z ∧ zs.length ≤ 1048576 ∧ Below w.heap.size w w'
def limN (b : Bool) (X : Option Nat) : Option Nat := if b = true then X else some 0
set_option maxHeartbeats 800000 in
theorem spec_NewLimiter {x y : Nat} {X Y : Option Nat} {n : Int} (w : World) (hx : Fl .f32 x X) (hy : Fl .f32 y Y) :
    Calls Try.prog 42 #[.float .f32 x, .float .f32 y, .int .i64 n] w (RLB (limN (limNC X n) X) (limN (limNC X n) Y) (limN (limNC X n) (some 1065353216)) (if limNC X n = true then List.replicate n.toNat (some 0) else []) (limNC X n) w) := by
  unfold limNC limN
  cases c1 : limitC X <;> cases c2 : inC n 0 64 <;> simp only [Bool.false_eq_true, if_true, if_false, Bool.and_true, Bool.true_and, Bool.and_false, Bool.false_and]
  case true.true =>
    obtain ⟨h0, h1⟩ := (inC_iff _ _ _).1 c2
    obtain ⟨m, rfl⟩ : ∃ m : Nat, n = m := ⟨n.toNat, by omega⟩
    have hmk := mk_float (P := Try.prog) 22 23 Try.underlying22 info_f32 .i64 m (by omega)
    go_enter Try.func42, Try.ntmps42
    go_wp2_with (first | (go_at_call 72; refine (spec_l04Limit hx _).mono ?_; rintro e w' ⟨rfl, q, rfl⟩) | (go_at_call 63; refine (spec_l00In _).mono ?_; rintro e w' ⟨rfl, rfl⟩))
    refine bodyPost_ret (v := .tuple #[.agg #[.float .f32 x, .float .f32 y, .float .f32 1065353216, .slice (some ⟨w.heap.size + 1, 0, none⟩) m m], .bool true]) (by simp [results, Try.results42, go_sem]) rfl ⟨x, y, _, _, List.replicate m 0, rfl, hx, hy, .of_lit (by decide) (by decide), ?_, clss_zeros m, by simp; omega, by (repeat (first | exact Below.refl _ _ | (with_reducible assumption) | refine below_drewN ?_ _ | refine Below.drew ?_ | refine Below.alloc ?_ (by simp; try omega) _))⟩
    have := Ow.made ((w.alloc (Obj.cells #[.float .f32 x, .float .f32 y, .float .f32 1065353216, .slice (some ⟨w.heap.size + 1, 0, none⟩) m m] 45)).drewN q) w.heap.size 23 m (by simp) (by omega)
    simpa using this
  all_goals
    go_enter Try.func42, Try.ntmps42
    go_wp2_with (first | (go_at_call 72; refine (spec_l04Limit hx _).mono ?_; rintro e w' ⟨rfl, q, rfl⟩) | (go_at_call 63; refine (spec_l00In _).mono ?_; rintro e w' ⟨rfl, rfl⟩))
    refine bodyPost_ret (v := .tuple #[.agg #[.float .f32 0, .float .f32 0, .float .f32 0, .slice none 0 0], .bool false]) ?_ rfl ⟨0, 0, 0, _, [], rfl, zero_fl, zero_fl, zero_fl, .nil _ _ _, rfl, by simp, ?_⟩
    · simp [results, Try.results42, go_sem]
    · (repeat (first | exact Below.refl _ _ | (with_reducible assumption) | refine below_drewN ?_ _ | refine Below.drew ?_ | refine Below.alloc ?_ (by simp; try omega) _))
set_option maxHeartbeats 800000 in
theorem impl_NewLimiter {x y : Nat} {X Y : Option Nat} {n : Int} (w : World) (hx : Fl .f32 x X) (hy : Fl .f32 y Y) :
    Calls Try.prog 43 #[.float .f32 x, .float .f32 y, .int .i64 n] w (RLB (limN (limNC X n) X) (limN (limNC X n) Y) (limN (limNC X n) (some 1065353216)) (if limNC X n = true then List.replicate n.toNat (some 0) else []) (limNC X n) w) := by
  unfold limNC limN
  cases c1 : limitC X <;> cases c2 : inC n 0 64 <;> simp only [Bool.false_eq_true, if_true, if_false, Bool.and_true, Bool.true_and, Bool.and_false, Bool.false_and]
  case true.true =>
    obtain ⟨h0, h1⟩ := (inC_iff _ _ _).1 c2
    obtain ⟨m, rfl⟩ : ∃ m : Nat, n = m := ⟨n.toNat, by omega⟩
    have hmk := mk_float (P := Try.prog) 22 23 Try.underlying22 info_f32 .i64 m (by omega)
    go_enter Try.func43, Try.ntmps43
    go_wp2_with (first | (go_at_call 73; refine (impl_isLimit hx _).mono ?_; rintro e w' ⟨rfl, q, rfl⟩) | (go_at_call 65; refine (impl_within _).mono ?_; rintro e w' ⟨rfl, rfl⟩) | (go_at_call 71; refine (impl_zeros m (by omega) _).mono ?_; rintro e w1 ⟨v1, zs, rfl, ho, hz, hb⟩; obtain ⟨A1, k1, rfl⟩ := ho.shape; obtain ⟨hc1, hf1⟩ := bcell hb; have hs1 := hb.size))
    have g0 : w1.cell? ⟨w.heap.size, 0, none⟩ = some (.float .f32 0) := by rw [hc1 _ _ (by simp)]; simp [go_sem]
    have g1 : w1.cell? ⟨w.heap.size, 1, none⟩ = some (.float .f32 0) := by rw [hc1 _ _ (by simp)]; simp [go_sem]
    have g2 : w1.cell? ⟨w.heap.size, 2, none⟩ = some (.float .f32 0) := by rw [hc1 _ _ (by simp)]; simp [go_sem]
    have g3 : w1.cell? ⟨w.heap.size, 3, none⟩ = some (.slice none 0 0) := by rw [hc1 _ _ (by simp)]; simp [go_sem]
    refine bodyPost_ret (v := .tuple #[.agg #[.float .f32 x, .float .f32 y, .float .f32 1065353216, .slice A1 zs.length k1], .bool true]) (by simp [results, Try.results43, go_sem, g0, g1, g2, g3]) rfl ⟨x, y, _, _, zs, rfl, hx, hy, .of_lit (by decide) (by decide), ?_, hz, len_of hz (by simp; omega), ?_⟩
    · exact ((((ho.put (by simp) _).put (by simp) _).put (by simp) _).put (by simp) _).low (by simp)
    · have hb1 := below_next (below_drewN ((Below.refl _ w).alloc (Nat.le_refl _) _) q) (by simp) hb
      exact (((hb1.setCell (Nat.le_refl _) _).setCell (Nat.le_refl _) _).setCell (Nat.le_refl _) _).setCell (Nat.le_refl _) _
  all_goals
    go_enter Try.func43, Try.ntmps43
    go_wp2_with (first | (go_at_call 73; refine (impl_isLimit hx _).mono ?_; rintro e w' ⟨rfl, q, rfl⟩) | (go_at_call 65; refine (impl_within _).mono ?_; rintro e w' ⟨rfl, rfl⟩))
    refine bodyPost_ret (v := .tuple #[.agg #[.float .f32 0, .float .f32 0, .float .f32 0, .slice none 0 0], .bool false]) ?_ rfl ⟨0, 0, 0, _, [], rfl, zero_fl, zero_fl, zero_fl, .nil _ _ _, rfl, by simp, ?_⟩
    · simp [results, Try.results43, go_sem]
    · (repeat (first | exact Below.refl _ _ | (with_reducible assumption) | refine below_drewN ?_ _ | refine Below.drew ?_ | refine Below.alloc ?_ (by simp; try omega) _))
end Go.Proofs.Ytcjflleeffbhhaa
