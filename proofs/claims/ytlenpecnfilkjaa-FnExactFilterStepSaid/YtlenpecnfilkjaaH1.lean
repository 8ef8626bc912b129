/- The steps of filters: the program. Conditions: none beside the contracts' own. -/
import Derived.Test.YtlenpecnfilkjaaQ1
import Derived.Test.YtlenpecnfilkjaaZ4
import Derived.Handy
set_option linter.unusedVariables false
set_option linter.unusedSimpArgs false
namespace Go.Proofs.Ytlenpecnfilkjaa
open Go.RowKit
def flC (fl : Bool) (X : Option Nat) : Option Nat := if fl = true then flushC X else X
set_option maxHeartbeats 400000 in
theorem impl_flushed {x : Nat} {X : Option Nat} {fl : Bool} (hx : Fl .f32 x X) (w : World) : Calls Try.prog 94 #[.float .f32 x, .bool fl] w (RF .f32 (flC fl X) w) := by
  unfold flC
  cases fl <;> simp only [Bool.false_eq_true, if_true, if_false]
  · go_enter Try.func94, Try.ntmps94
    go_wp2
    go_ret
    exact ⟨_, 0, rfl, hx, rfl⟩
  · go_enter Try.func94, Try.ntmps94
    go_wp2_with (go_at_call 109; refine (impl_FlushNumber hx _).mono ?_; rintro e w' ⟨r, q, rfl, hr, rfl⟩)
    go_ret
    exact ⟨_, _, rfl, hr, rfl⟩
/-- The form of a filter, as its code tells it apart. -/
def stY (B0 B1 B2 A1 A2 : Option Nat) (form : Int) (fl : Bool) (A B C D X : Option Nat) : Option Nat :=
  if form = 0 then flC fl (fsub (fsub (fadd (fadd (fmul B0 X) (fmul B1 A)) (fmul B2 B)) (fmul A1 C)) (fmul A2 D))
  else if form = 1 then flC fl (fadd (fmul B0 X) A)
  else flC fl (fadd (fadd (fmul B0 (flC fl (fsub (fsub X (fmul A1 A)) (fmul A2 B)))) (fmul B1 A)) (fmul B2 B))
def stA (B0 B1 A1 A2 : Option Nat) (form : Int) (fl : Bool) (A B X : Option Nat) : Option Nat :=
  if form = 0 then flC fl X
  else if form = 1 then flC fl (fadd (fsub (fmul B1 X) (fmul A1 (flC fl (fadd (fmul B0 X) A)))) B)
  else flC fl (flC fl (fsub (fsub X (fmul A1 A)) (fmul A2 B)))
def stB (B0 B2 A2 : Option Nat) (form : Int) (fl : Bool) (A X : Option Nat) : Option Nat :=
  if form = 0 then flC fl A
  else if form = 1 then flC fl (fsub (fmul B2 X) (fmul A2 (flC fl (fadd (fmul B0 X) A))))
  else flC fl A
def stC (form : Int) (fl : Bool) (Y : Option Nat) : Option Nat := if form = 0 then flC fl Y else flC fl (some 0)
def stD (form : Int) (fl : Bool) (C : Option Nat) : Option Nat := if form = 0 then flC fl C else flC fl (some 0)
/-- A sample and a memory. -/
def RYM (Y A B C D : Option Nat) (w : World) (e : Ending) (w' : World) : Prop :=
  ∃ y a b c d, e = .returned (.tuple #[.float .f32 y, .agg #[.float .f32 a, .float .f32 b, .float .f32 c, .float .f32 d]]) ∧ Fl .f32 y Y ∧ Fl .f32 a A ∧ Fl .f32 b B ∧ Fl .f32 c C ∧ Fl .f32 d D ∧ Below w.heap.size w w'
/-- The cells of the memory and of the result, ahead of the last region. -/
structure StK (w W : World) (m0 m1 m2 m3 : Nat) : Prop where
  c0 : W.cell? ⟨w.heap.size + 1, 0, none⟩ = some (.float .f32 m0)
  c1 : W.cell? ⟨w.heap.size + 1, 1, none⟩ = some (.float .f32 m1)
  c2 : W.cell? ⟨w.heap.size + 1, 2, none⟩ = some (.float .f32 m2)
  c3 : W.cell? ⟨w.heap.size + 1, 3, none⟩ = some (.float .f32 m3)
  r0 : W.cell? ⟨w.heap.size + 1 + 1, 0, none⟩ = some (.float .f32 0)
  r1 : W.cell? ⟨w.heap.size + 1 + 1, 1, none⟩ = some (.float .f32 0)
  r2 : W.cell? ⟨w.heap.size + 1 + 1, 2, none⟩ = some (.float .f32 0)
  r3 : W.cell? ⟨w.heap.size + 1 + 1, 3, none⟩ = some (.float .f32 0)
  g0 : W.frozen? ⟨w.heap.size + 1 + 1, 0, none⟩ = false
  g1 : W.frozen? ⟨w.heap.size + 1 + 1, 1, none⟩ = false
  g2 : W.frozen? ⟨w.heap.size + 1 + 1, 2, none⟩ = false
  g3 : W.frozen? ⟨w.heap.size + 1 + 1, 3, none⟩ = false
  bel : Below w.heap.size w W
  sz : W.heap.size = w.heap.size + 3
theorem StK.start (w : World) (o : Obj) (m0 m1 m2 m3 : Nat) (t t' : TypeId) (N : Nat) : StK w ((((w.alloc o).alloc (.cells #[.float .f32 m0, .float .f32 m1, .float .f32 m2, .float .f32 m3] t)).alloc (.cells #[.float .f32 0, .float .f32 0, .float .f32 0, .float .f32 0] t')).drewN N) m0 m1 m2 m3 := by
  refine ⟨?_, ?_, ?_, ?_, ?_, ?_, ?_, ?_, ?_, ?_, ?_, ?_, below_drewN ((((Below.refl _ w).alloc (Nat.le_refl _) _).alloc (by simp) _).alloc (by simp; omega) _) _, by simp⟩ <;> simp [go_sem]
/-- The cells of the memory at the end of a step are those classes. -/
def StE (w W : World) (M0 M1 M2 M3 : Option Nat) : Prop := ∃ m0 m1 m2 m3, StK w W m0 m1 m2 m3 ∧ Fl .f32 m0 M0 ∧ Fl .f32 m1 M1 ∧ Fl .f32 m2 M2 ∧ Fl .f32 m3 M3
theorem StK.end_ {w W W' : World} {m0 m1 m2 m3 : Nat} (h : StK w W m0 m1 m2 m3) (hb : Below W.heap.size W W') :
    W'.cell? ⟨w.heap.size + 1 + 1, 0, none⟩ = some (.float .f32 0) ∧ W'.cell? ⟨w.heap.size + 1 + 1, 1, none⟩ = some (.float .f32 0) ∧ W'.cell? ⟨w.heap.size + 1 + 1, 2, none⟩ = some (.float .f32 0) ∧ W'.cell? ⟨w.heap.size + 1 + 1, 3, none⟩ = some (.float .f32 0) ∧
      W'.frozen? ⟨w.heap.size + 1 + 1, 0, none⟩ = false ∧ W'.frozen? ⟨w.heap.size + 1 + 1, 1, none⟩ = false ∧ W'.frozen? ⟨w.heap.size + 1 + 1, 2, none⟩ = false ∧ W'.frozen? ⟨w.heap.size + 1 + 1, 3, none⟩ = false ∧ Below w.heap.size w W' := by
  obtain ⟨hc, hf⟩ := bcell hb
  have hz : w.heap.size + 1 + 1 < W.heap.size := by have := h.sz; omega
  exact ⟨(hc _ _ hz).trans h.r0, (hc _ _ hz).trans h.r1, (hc _ _ hz).trans h.r2, (hc _ _ hz).trans h.r3, (hf _ _ hz).trans h.g0, (hf _ _ hz).trans h.g1, (hf _ _ hz).trans h.g2, (hf _ _ hz).trans h.g3, below_next h.bel (by have := h.sz; omega) hb⟩
set_option maxHeartbeats 6400000 in
set_option maxRecDepth 100000 in
theorem impl_Filter_step {b0 b1 b2 a1 a2 a b c d x : Nat} {form : Int} {fl : Bool} {B0 B1 B2 A1 A2 A B C D X : Option Nat} (w : World) (h0 : Fl .f32 b0 B0) (h1 : Fl .f32 b1 B1) (h2 : Fl .f32 b2 B2) (h3 : Fl .f32 a1 A1) (h4 : Fl .f32 a2 A2)
    (ha : Fl .f32 a A) (hb : Fl .f32 b B) (hc : Fl .f32 c C) (hd : Fl .f32 d D) (hx : Fl .f32 x X) :
    Calls Try.prog 57 #[.agg #[.float .f32 b0, .float .f32 b1, .float .f32 b2, .float .f32 a1, .float .f32 a2], .int .i64 form, .bool fl, .agg #[.float .f32 a, .float .f32 b, .float .f32 c, .float .f32 d], .float .f32 x] w
      (RYM (stY B0 B1 B2 A1 A2 form fl A B C D X) (stA B0 B1 A1 A2 form fl A B X) (stB B0 B2 A2 form fl A X) (stC form fl (stY B0 B1 B2 A1 A2 form fl A B C D X)) (stD form fl C) w) := by
  by_cases e0 : form = 0
  · subst e0
    simp only [stY, stA, stB, stC, stD, if_true]
    go_enter Try.func57, Try.ntmps57
    go_wp2_with fail
    refine (impl_flushed (by repeat (first | (with_reducible assumption) | exact Fl.of_lit (by decide) (by decide) | apply Fl.fr)) _).mono ?_
    rintro e w' ⟨y, q, rfl, hy, rfl⟩
    go_wp2_with fail
    refine Loose.regionT_of (fun W => StE w W _ _ _ _) 19 (by kernel_rfl) (by kernel_rfl) ⟨_, _, _, _, StK.start .., by repeat (first | (with_reducible assumption) | exact Fl.of_lit (by decide) (by decide) | apply Fl.fr), by repeat (first | (with_reducible assumption) | exact Fl.of_lit (by decide) (by decide) | apply Fl.fr), by repeat (first | (with_reducible assumption) | exact Fl.of_lit (by decide) (by decide) | apply Fl.fr), by repeat (first | (with_reducible assumption) | exact Fl.of_lit (by decide) (by decide) | apply Fl.fr)⟩ ?_
    rintro W ⟨m0, m1, m2, m3, hK, f0, f1, f2, f3⟩
    have h0L : Loose.All [(⟨w.heap.size + 1, 0, none⟩, .float .f32 m0), (⟨w.heap.size + 1, 1, none⟩, .float .f32 m1), (⟨w.heap.size + 1, 2, none⟩, .float .f32 m2), (⟨w.heap.size + 1, 3, none⟩, .float .f32 m3)] W := ⟨hK.c0, hK.c1, hK.c2, hK.c3, trivial⟩
    refine ⟨_, h0L, ?_⟩
    simp only [List.take_succ_cons, List.take_zero, List.drop_succ_cons, List.drop_zero]
    have HK := Lib.hid hK
    clear hK
    apply Exists.intro
    repeat
      first
        | (apply Loose.skipT; exact rfl; simp only [Act.put, List.setIfInBounds_toArray, List.set_cons_zero, List.set_cons_succ])
        | (apply Loose.quietT h0L; exact rfl; exact rfl; intro K hK; go_big_quiet_op; go_big_quiet_on)
        | (apply Loose.quietT h0L; exact rfl; exact rfl; intro K hK; go_big_quiet_op; apply Exists.intro; refine ⟨fun w' hw' => ?_, ?_⟩
           · (first | exact rfl | (have l := hw'.all; simp only [Loose.All] at l; go_simp; rfl))
           go_big_quiet_on)
        | (apply Loose.fl32T; exact rfl; (intro w' hw'; refine ⟨_, _, ?_, ?_⟩; (go_simp; exact ⟨rfl, rfl⟩); exact Fl.fr (by assumption) (by assumption) _ _); intro r_ f_; simp only [Act.put, List.setIfInBounds_toArray, List.set_cons_zero, List.set_cons_succ])
        | (apply Loose.exactT h0L; exact rfl; (intro w' hw'; first | (go_simp; rfl) | (have l := hw'.all; simp only [Loose.All] at l; go_simp; rfl)); simp only [Act.put, List.setIfInBounds_toArray, List.set_cons_zero, List.set_cons_succ])
    apply Loose.flcallT
    · exact rfl
    · intro w' hw'; go_simp; exact ⟨rfl, rfl⟩
    · intro w' hw'; exact (fun W => impl_flushed f0 W) _
    intro r_0 f_0
    simp only [Act.put, List.setIfInBounds_toArray, List.set_cons_zero, List.set_cons_succ]
    repeat
      first
        | (apply Loose.skipT; exact rfl; simp only [Act.put, List.setIfInBounds_toArray, List.set_cons_zero, List.set_cons_succ])
        | (apply Loose.quietT h0L; exact rfl; exact rfl; intro K hK; go_big_quiet_op; go_big_quiet_on)
        | (apply Loose.quietT h0L; exact rfl; exact rfl; intro K hK; go_big_quiet_op; apply Exists.intro; refine ⟨fun w' hw' => ?_, ?_⟩
           · (first | exact rfl | (have l := hw'.all; simp only [Loose.All] at l; go_simp; rfl))
           go_big_quiet_on)
        | (apply Loose.fl32T; exact rfl; (intro w' hw'; refine ⟨_, _, ?_, ?_⟩; (go_simp; exact ⟨rfl, rfl⟩); exact Fl.fr (by assumption) (by assumption) _ _); intro r_ f_; simp only [Act.put, List.setIfInBounds_toArray, List.set_cons_zero, List.set_cons_succ])
        | (apply Loose.exactT h0L; exact rfl; (intro w' hw'; first | (go_simp; rfl) | (have l := hw'.all; simp only [Loose.All] at l; go_simp; rfl)); simp only [Act.put, List.setIfInBounds_toArray, List.set_cons_zero, List.set_cons_succ])
    apply Loose.flcallT
    · exact rfl
    · intro w' hw'; go_simp; exact ⟨rfl, rfl⟩
    · intro w' hw'; exact (fun W => impl_flushed f1 W) _
    intro r_1 f_1
    simp only [Act.put, List.setIfInBounds_toArray, List.set_cons_zero, List.set_cons_succ]
    repeat
      first
        | (apply Loose.skipT; exact rfl; simp only [Act.put, List.setIfInBounds_toArray, List.set_cons_zero, List.set_cons_succ])
        | (apply Loose.quietT h0L; exact rfl; exact rfl; intro K hK; go_big_quiet_op; go_big_quiet_on)
        | (apply Loose.quietT h0L; exact rfl; exact rfl; intro K hK; go_big_quiet_op; apply Exists.intro; refine ⟨fun w' hw' => ?_, ?_⟩
           · (first | exact rfl | (have l := hw'.all; simp only [Loose.All] at l; go_simp; rfl))
           go_big_quiet_on)
        | (apply Loose.fl32T; exact rfl; (intro w' hw'; refine ⟨_, _, ?_, ?_⟩; (go_simp; exact ⟨rfl, rfl⟩); exact Fl.fr (by assumption) (by assumption) _ _); intro r_ f_; simp only [Act.put, List.setIfInBounds_toArray, List.set_cons_zero, List.set_cons_succ])
        | (apply Loose.exactT h0L; exact rfl; (intro w' hw'; first | (go_simp; rfl) | (have l := hw'.all; simp only [Loose.All] at l; go_simp; rfl)); simp only [Act.put, List.setIfInBounds_toArray, List.set_cons_zero, List.set_cons_succ])
    apply Loose.flcallT
    · exact rfl
    · intro w' hw'; go_simp; exact ⟨rfl, rfl⟩
    · intro w' hw'; exact (fun W => impl_flushed f2 W) _
    intro r_2 f_2
    simp only [Act.put, List.setIfInBounds_toArray, List.set_cons_zero, List.set_cons_succ]
    repeat
      first
        | (apply Loose.skipT; exact rfl; simp only [Act.put, List.setIfInBounds_toArray, List.set_cons_zero, List.set_cons_succ])
        | (apply Loose.quietT h0L; exact rfl; exact rfl; intro K hK; go_big_quiet_op; go_big_quiet_on)
        | (apply Loose.quietT h0L; exact rfl; exact rfl; intro K hK; go_big_quiet_op; apply Exists.intro; refine ⟨fun w' hw' => ?_, ?_⟩
           · (first | exact rfl | (have l := hw'.all; simp only [Loose.All] at l; go_simp; rfl))
           go_big_quiet_on)
        | (apply Loose.fl32T; exact rfl; (intro w' hw'; refine ⟨_, _, ?_, ?_⟩; (go_simp; exact ⟨rfl, rfl⟩); exact Fl.fr (by assumption) (by assumption) _ _); intro r_ f_; simp only [Act.put, List.setIfInBounds_toArray, List.set_cons_zero, List.set_cons_succ])
        | (apply Loose.exactT h0L; exact rfl; (intro w' hw'; first | (go_simp; rfl) | (have l := hw'.all; simp only [Loose.All] at l; go_simp; rfl)); simp only [Act.put, List.setIfInBounds_toArray, List.set_cons_zero, List.set_cons_succ])
    apply Loose.flcallT
    · exact rfl
    · intro w' hw'; go_simp; exact ⟨rfl, rfl⟩
    · intro w' hw'; exact (fun W => impl_flushed f3 W) _
    intro r_3 f_3
    simp only [Act.put, List.setIfInBounds_toArray, List.set_cons_zero, List.set_cons_succ]
    repeat
      first
        | (apply Loose.skipT; exact rfl; simp only [Act.put, List.setIfInBounds_toArray, List.set_cons_zero, List.set_cons_succ])
        | (apply Loose.quietT h0L; exact rfl; exact rfl; intro K hK; go_big_quiet_op; go_big_quiet_on)
        | (apply Loose.quietT h0L; exact rfl; exact rfl; intro K hK; go_big_quiet_op; apply Exists.intro; refine ⟨fun w' hw' => ?_, ?_⟩
           · (first | exact rfl | (have l := hw'.all; simp only [Loose.All] at l; go_simp; rfl))
           go_big_quiet_on)
        | (apply Loose.fl32T; exact rfl; (intro w' hw'; refine ⟨_, _, ?_, ?_⟩; (go_simp; exact ⟨rfl, rfl⟩); exact Fl.fr (by assumption) (by assumption) _ _); intro r_ f_; simp only [Act.put, List.setIfInBounds_toArray, List.set_cons_zero, List.set_cons_succ])
        | (apply Loose.exactT h0L; exact rfl; (intro w' hw'; first | (go_simp; rfl) | (have l := hw'.all; simp only [Loose.All] at l; go_simp; rfl)); simp only [Act.put, List.setIfInBounds_toArray, List.set_cons_zero, List.set_cons_succ])
    apply Loose.doneT
    rintro w3 - hb3 -
    obtain ⟨r0, r1, r2, r3, g0, g1, g2, g3, hbel⟩ := HK.out.end_ hb3
    clear HK h0L hb3
    go_wp2
    refine bodyPost_ret (v := .tuple #[.float .f32 y, .agg #[.float .f32 r_0, .float .f32 r_1, .float .f32 r_2, .float .f32 r_3]]) ?_ rfl ⟨_, _, _, _, _, rfl, hy, f_0, f_1, f_2, f_3, (((hbel.setCell (by simp; omega) _).setCell (by simp; omega) _).setCell (by simp; omega) _).setCell (by simp; omega) _⟩
    simp [results, Try.results57, go_sem, r0, r1, r2, r3]
  by_cases e1 : form = 1
  · subst e1
    simp only [stY, stA, stB, stC, stD, if_true, if_false, Int.reduceEq]
    go_enter Try.func57, Try.ntmps57
    go_wp2_with fail
    refine (impl_flushed (by repeat (first | (with_reducible assumption) | exact Fl.of_lit (by decide) (by decide) | apply Fl.fr)) _).mono ?_
    rintro e w' ⟨y, q, rfl, hy, rfl⟩
    go_wp2_with fail
    refine Loose.regionT_of (fun W => StE w W _ _ _ _) 19 (by kernel_rfl) (by kernel_rfl) ⟨_, _, _, _, StK.start .., by repeat (first | (with_reducible assumption) | exact Fl.of_lit (by decide) (by decide) | apply Fl.fr), by repeat (first | (with_reducible assumption) | exact Fl.of_lit (by decide) (by decide) | apply Fl.fr), zero32, zero32⟩ ?_
    rintro W ⟨m0, m1, m2, m3, hK, f0, f1, f2, f3⟩
    have h0L : Loose.All [(⟨w.heap.size + 1, 0, none⟩, .float .f32 m0), (⟨w.heap.size + 1, 1, none⟩, .float .f32 m1), (⟨w.heap.size + 1, 2, none⟩, .float .f32 m2), (⟨w.heap.size + 1, 3, none⟩, .float .f32 m3)] W := ⟨hK.c0, hK.c1, hK.c2, hK.c3, trivial⟩
    refine ⟨_, h0L, ?_⟩
    simp only [List.take_succ_cons, List.take_zero, List.drop_succ_cons, List.drop_zero]
    have HK := Lib.hid hK
    clear hK
    apply Exists.intro
    repeat
      first
        | (apply Loose.skipT; exact rfl; simp only [Act.put, List.setIfInBounds_toArray, List.set_cons_zero, List.set_cons_succ])
        | (apply Loose.quietT h0L; exact rfl; exact rfl; intro K hK; go_big_quiet_op; go_big_quiet_on)
        | (apply Loose.quietT h0L; exact rfl; exact rfl; intro K hK; go_big_quiet_op; apply Exists.intro; refine ⟨fun w' hw' => ?_, ?_⟩
           · (first | exact rfl | (have l := hw'.all; simp only [Loose.All] at l; go_simp; rfl))
           go_big_quiet_on)
        | (apply Loose.fl32T; exact rfl; (intro w' hw'; refine ⟨_, _, ?_, ?_⟩; (go_simp; exact ⟨rfl, rfl⟩); exact Fl.fr (by assumption) (by assumption) _ _); intro r_ f_; simp only [Act.put, List.setIfInBounds_toArray, List.set_cons_zero, List.set_cons_succ])
        | (apply Loose.exactT h0L; exact rfl; (intro w' hw'; first | (go_simp; rfl) | (have l := hw'.all; simp only [Loose.All] at l; go_simp; rfl)); simp only [Act.put, List.setIfInBounds_toArray, List.set_cons_zero, List.set_cons_succ])
    apply Loose.flcallT
    · exact rfl
    · intro w' hw'; go_simp; exact ⟨rfl, rfl⟩
    · intro w' hw'; exact (fun W => impl_flushed f0 W) _
    intro r_0 f_0
    simp only [Act.put, List.setIfInBounds_toArray, List.set_cons_zero, List.set_cons_succ]
    repeat
      first
        | (apply Loose.skipT; exact rfl; simp only [Act.put, List.setIfInBounds_toArray, List.set_cons_zero, List.set_cons_succ])
        | (apply Loose.quietT h0L; exact rfl; exact rfl; intro K hK; go_big_quiet_op; go_big_quiet_on)
        | (apply Loose.quietT h0L; exact rfl; exact rfl; intro K hK; go_big_quiet_op; apply Exists.intro; refine ⟨fun w' hw' => ?_, ?_⟩
           · (first | exact rfl | (have l := hw'.all; simp only [Loose.All] at l; go_simp; rfl))
           go_big_quiet_on)
        | (apply Loose.fl32T; exact rfl; (intro w' hw'; refine ⟨_, _, ?_, ?_⟩; (go_simp; exact ⟨rfl, rfl⟩); exact Fl.fr (by assumption) (by assumption) _ _); intro r_ f_; simp only [Act.put, List.setIfInBounds_toArray, List.set_cons_zero, List.set_cons_succ])
        | (apply Loose.exactT h0L; exact rfl; (intro w' hw'; first | (go_simp; rfl) | (have l := hw'.all; simp only [Loose.All] at l; go_simp; rfl)); simp only [Act.put, List.setIfInBounds_toArray, List.set_cons_zero, List.set_cons_succ])
    apply Loose.flcallT
    · exact rfl
    · intro w' hw'; go_simp; exact ⟨rfl, rfl⟩
    · intro w' hw'; exact (fun W => impl_flushed f1 W) _
    intro r_1 f_1
    simp only [Act.put, List.setIfInBounds_toArray, List.set_cons_zero, List.set_cons_succ]
    repeat
      first
        | (apply Loose.skipT; exact rfl; simp only [Act.put, List.setIfInBounds_toArray, List.set_cons_zero, List.set_cons_succ])
        | (apply Loose.quietT h0L; exact rfl; exact rfl; intro K hK; go_big_quiet_op; go_big_quiet_on)
        | (apply Loose.quietT h0L; exact rfl; exact rfl; intro K hK; go_big_quiet_op; apply Exists.intro; refine ⟨fun w' hw' => ?_, ?_⟩
           · (first | exact rfl | (have l := hw'.all; simp only [Loose.All] at l; go_simp; rfl))
           go_big_quiet_on)
        | (apply Loose.fl32T; exact rfl; (intro w' hw'; refine ⟨_, _, ?_, ?_⟩; (go_simp; exact ⟨rfl, rfl⟩); exact Fl.fr (by assumption) (by assumption) _ _); intro r_ f_; simp only [Act.put, List.setIfInBounds_toArray, List.set_cons_zero, List.set_cons_succ])
        | (apply Loose.exactT h0L; exact rfl; (intro w' hw'; first | (go_simp; rfl) | (have l := hw'.all; simp only [Loose.All] at l; go_simp; rfl)); simp only [Act.put, List.setIfInBounds_toArray, List.set_cons_zero, List.set_cons_succ])
    apply Loose.flcallT
    · exact rfl
    · intro w' hw'; go_simp; exact ⟨rfl, rfl⟩
    · intro w' hw'; exact (fun W => impl_flushed f2 W) _
    intro r_2 f_2
    simp only [Act.put, List.setIfInBounds_toArray, List.set_cons_zero, List.set_cons_succ]
    repeat
      first
        | (apply Loose.skipT; exact rfl; simp only [Act.put, List.setIfInBounds_toArray, List.set_cons_zero, List.set_cons_succ])
        | (apply Loose.quietT h0L; exact rfl; exact rfl; intro K hK; go_big_quiet_op; go_big_quiet_on)
        | (apply Loose.quietT h0L; exact rfl; exact rfl; intro K hK; go_big_quiet_op; apply Exists.intro; refine ⟨fun w' hw' => ?_, ?_⟩
           · (first | exact rfl | (have l := hw'.all; simp only [Loose.All] at l; go_simp; rfl))
           go_big_quiet_on)
        | (apply Loose.fl32T; exact rfl; (intro w' hw'; refine ⟨_, _, ?_, ?_⟩; (go_simp; exact ⟨rfl, rfl⟩); exact Fl.fr (by assumption) (by assumption) _ _); intro r_ f_; simp only [Act.put, List.setIfInBounds_toArray, List.set_cons_zero, List.set_cons_succ])
        | (apply Loose.exactT h0L; exact rfl; (intro w' hw'; first | (go_simp; rfl) | (have l := hw'.all; simp only [Loose.All] at l; go_simp; rfl)); simp only [Act.put, List.setIfInBounds_toArray, List.set_cons_zero, List.set_cons_succ])
    apply Loose.flcallT
    · exact rfl
    · intro w' hw'; go_simp; exact ⟨rfl, rfl⟩
    · intro w' hw'; exact (fun W => impl_flushed f3 W) _
    intro r_3 f_3
    simp only [Act.put, List.setIfInBounds_toArray, List.set_cons_zero, List.set_cons_succ]
    repeat
      first
        | (apply Loose.skipT; exact rfl; simp only [Act.put, List.setIfInBounds_toArray, List.set_cons_zero, List.set_cons_succ])
        | (apply Loose.quietT h0L; exact rfl; exact rfl; intro K hK; go_big_quiet_op; go_big_quiet_on)
        | (apply Loose.quietT h0L; exact rfl; exact rfl; intro K hK; go_big_quiet_op; apply Exists.intro; refine ⟨fun w' hw' => ?_, ?_⟩
           · (first | exact rfl | (have l := hw'.all; simp only [Loose.All] at l; go_simp; rfl))
           go_big_quiet_on)
        | (apply Loose.fl32T; exact rfl; (intro w' hw'; refine ⟨_, _, ?_, ?_⟩; (go_simp; exact ⟨rfl, rfl⟩); exact Fl.fr (by assumption) (by assumption) _ _); intro r_ f_; simp only [Act.put, List.setIfInBounds_toArray, List.set_cons_zero, List.set_cons_succ])
        | (apply Loose.exactT h0L; exact rfl; (intro w' hw'; first | (go_simp; rfl) | (have l := hw'.all; simp only [Loose.All] at l; go_simp; rfl)); simp only [Act.put, List.setIfInBounds_toArray, List.set_cons_zero, List.set_cons_succ])
    apply Loose.doneT
    rintro w3 - hb3 -
    obtain ⟨r0, r1, r2, r3, g0, g1, g2, g3, hbel⟩ := HK.out.end_ hb3
    clear HK h0L hb3
    go_wp2
    refine bodyPost_ret (v := .tuple #[.float .f32 y, .agg #[.float .f32 r_0, .float .f32 r_1, .float .f32 r_2, .float .f32 r_3]]) ?_ rfl ⟨_, _, _, _, _, rfl, hy, f_0, f_1, f_2, f_3, (((hbel.setCell (by simp; omega) _).setCell (by simp; omega) _).setCell (by simp; omega) _).setCell (by simp; omega) _⟩
    simp [results, Try.results57, go_sem, r0, r1, r2, r3]
  · have E0 : (form == 0) = false := by simpa using e0
    have E1 : (form == 1) = false := by simpa using e1
    simp only [stY, stA, stB, stC, stD, if_neg e0, if_neg e1]
    clear e0 e1
    go_enter Try.func57, Try.ntmps57
    go_wp2_with fail
    refine (impl_flushed (by repeat (first | (with_reducible assumption) | exact Fl.of_lit (by decide) (by decide) | apply Fl.fr)) _).mono ?_
    rintro e w' ⟨u, q, rfl, hu, rfl⟩
    go_wp2_with fail
    refine (impl_flushed (by repeat (first | (with_reducible assumption) | exact Fl.of_lit (by decide) (by decide) | apply Fl.fr)) _).mono ?_
    rintro e w' ⟨y, q2, rfl, hy, rfl⟩
    go_wp2_with fail
    refine Loose.regionT_of (fun W => StE w W _ _ _ _) 19 (by kernel_rfl) (by kernel_rfl) ⟨_, _, _, _, StK.start .., by repeat (first | (with_reducible assumption) | exact Fl.of_lit (by decide) (by decide) | apply Fl.fr), by repeat (first | (with_reducible assumption) | exact Fl.of_lit (by decide) (by decide) | apply Fl.fr), zero32, zero32⟩ ?_
    rintro W ⟨m0, m1, m2, m3, hK, f0, f1, f2, f3⟩
    have h0L : Loose.All [(⟨w.heap.size + 1, 0, none⟩, .float .f32 m0), (⟨w.heap.size + 1, 1, none⟩, .float .f32 m1), (⟨w.heap.size + 1, 2, none⟩, .float .f32 m2), (⟨w.heap.size + 1, 3, none⟩, .float .f32 m3)] W := ⟨hK.c0, hK.c1, hK.c2, hK.c3, trivial⟩
    refine ⟨_, h0L, ?_⟩
    simp only [List.take_succ_cons, List.take_zero, List.drop_succ_cons, List.drop_zero]
    have HK := Lib.hid hK
    clear hK
    apply Exists.intro
    repeat
      first
        | (apply Loose.skipT; exact rfl; simp only [Act.put, List.setIfInBounds_toArray, List.set_cons_zero, List.set_cons_succ])
        | (apply Loose.quietT h0L; exact rfl; exact rfl; intro K hK; go_big_quiet_op; go_big_quiet_on)
        | (apply Loose.quietT h0L; exact rfl; exact rfl; intro K hK; go_big_quiet_op; apply Exists.intro; refine ⟨fun w' hw' => ?_, ?_⟩
           · (first | exact rfl | (have l := hw'.all; simp only [Loose.All] at l; go_simp; rfl))
           go_big_quiet_on)
        | (apply Loose.fl32T; exact rfl; (intro w' hw'; refine ⟨_, _, ?_, ?_⟩; (go_simp; exact ⟨rfl, rfl⟩); exact Fl.fr (by assumption) (by assumption) _ _); intro r_ f_; simp only [Act.put, List.setIfInBounds_toArray, List.set_cons_zero, List.set_cons_succ])
        | (apply Loose.exactT h0L; exact rfl; (intro w' hw'; first | (go_simp; rfl) | (have l := hw'.all; simp only [Loose.All] at l; go_simp; rfl)); simp only [Act.put, List.setIfInBounds_toArray, List.set_cons_zero, List.set_cons_succ])
    apply Loose.flcallT
    · exact rfl
    · intro w' hw'; go_simp; exact ⟨rfl, rfl⟩
    · intro w' hw'; exact (fun W => impl_flushed f0 W) _
    intro r_0 f_0
    simp only [Act.put, List.setIfInBounds_toArray, List.set_cons_zero, List.set_cons_succ]
    repeat
      first
        | (apply Loose.skipT; exact rfl; simp only [Act.put, List.setIfInBounds_toArray, List.set_cons_zero, List.set_cons_succ])
        | (apply Loose.quietT h0L; exact rfl; exact rfl; intro K hK; go_big_quiet_op; go_big_quiet_on)
        | (apply Loose.quietT h0L; exact rfl; exact rfl; intro K hK; go_big_quiet_op; apply Exists.intro; refine ⟨fun w' hw' => ?_, ?_⟩
           · (first | exact rfl | (have l := hw'.all; simp only [Loose.All] at l; go_simp; rfl))
           go_big_quiet_on)
        | (apply Loose.fl32T; exact rfl; (intro w' hw'; refine ⟨_, _, ?_, ?_⟩; (go_simp; exact ⟨rfl, rfl⟩); exact Fl.fr (by assumption) (by assumption) _ _); intro r_ f_; simp only [Act.put, List.setIfInBounds_toArray, List.set_cons_zero, List.set_cons_succ])
        | (apply Loose.exactT h0L; exact rfl; (intro w' hw'; first | (go_simp; rfl) | (have l := hw'.all; simp only [Loose.All] at l; go_simp; rfl)); simp only [Act.put, List.setIfInBounds_toArray, List.set_cons_zero, List.set_cons_succ])
    apply Loose.flcallT
    · exact rfl
    · intro w' hw'; go_simp; exact ⟨rfl, rfl⟩
    · intro w' hw'; exact (fun W => impl_flushed f1 W) _
    intro r_1 f_1
    simp only [Act.put, List.setIfInBounds_toArray, List.set_cons_zero, List.set_cons_succ]
    repeat
      first
        | (apply Loose.skipT; exact rfl; simp only [Act.put, List.setIfInBounds_toArray, List.set_cons_zero, List.set_cons_succ])
        | (apply Loose.quietT h0L; exact rfl; exact rfl; intro K hK; go_big_quiet_op; go_big_quiet_on)
        | (apply Loose.quietT h0L; exact rfl; exact rfl; intro K hK; go_big_quiet_op; apply Exists.intro; refine ⟨fun w' hw' => ?_, ?_⟩
           · (first | exact rfl | (have l := hw'.all; simp only [Loose.All] at l; go_simp; rfl))
           go_big_quiet_on)
        | (apply Loose.fl32T; exact rfl; (intro w' hw'; refine ⟨_, _, ?_, ?_⟩; (go_simp; exact ⟨rfl, rfl⟩); exact Fl.fr (by assumption) (by assumption) _ _); intro r_ f_; simp only [Act.put, List.setIfInBounds_toArray, List.set_cons_zero, List.set_cons_succ])
        | (apply Loose.exactT h0L; exact rfl; (intro w' hw'; first | (go_simp; rfl) | (have l := hw'.all; simp only [Loose.All] at l; go_simp; rfl)); simp only [Act.put, List.setIfInBounds_toArray, List.set_cons_zero, List.set_cons_succ])
    apply Loose.flcallT
    · exact rfl
    · intro w' hw'; go_simp; exact ⟨rfl, rfl⟩
    · intro w' hw'; exact (fun W => impl_flushed f2 W) _
    intro r_2 f_2
    simp only [Act.put, List.setIfInBounds_toArray, List.set_cons_zero, List.set_cons_succ]
    repeat
      first
        | (apply Loose.skipT; exact rfl; simp only [Act.put, List.setIfInBounds_toArray, List.set_cons_zero, List.set_cons_succ])
        | (apply Loose.quietT h0L; exact rfl; exact rfl; intro K hK; go_big_quiet_op; go_big_quiet_on)
        | (apply Loose.quietT h0L; exact rfl; exact rfl; intro K hK; go_big_quiet_op; apply Exists.intro; refine ⟨fun w' hw' => ?_, ?_⟩
           · (first | exact rfl | (have l := hw'.all; simp only [Loose.All] at l; go_simp; rfl))
           go_big_quiet_on)
        | (apply Loose.fl32T; exact rfl; (intro w' hw'; refine ⟨_, _, ?_, ?_⟩; (go_simp; exact ⟨rfl, rfl⟩); exact Fl.fr (by assumption) (by assumption) _ _); intro r_ f_; simp only [Act.put, List.setIfInBounds_toArray, List.set_cons_zero, List.set_cons_succ])
        | (apply Loose.exactT h0L; exact rfl; (intro w' hw'; first | (go_simp; rfl) | (have l := hw'.all; simp only [Loose.All] at l; go_simp; rfl)); simp only [Act.put, List.setIfInBounds_toArray, List.set_cons_zero, List.set_cons_succ])
    apply Loose.flcallT
    · exact rfl
    · intro w' hw'; go_simp; exact ⟨rfl, rfl⟩
    · intro w' hw'; exact (fun W => impl_flushed f3 W) _
    intro r_3 f_3
    simp only [Act.put, List.setIfInBounds_toArray, List.set_cons_zero, List.set_cons_succ]
    repeat
      first
        | (apply Loose.skipT; exact rfl; simp only [Act.put, List.setIfInBounds_toArray, List.set_cons_zero, List.set_cons_succ])
        | (apply Loose.quietT h0L; exact rfl; exact rfl; intro K hK; go_big_quiet_op; go_big_quiet_on)
        | (apply Loose.quietT h0L; exact rfl; exact rfl; intro K hK; go_big_quiet_op; apply Exists.intro; refine ⟨fun w' hw' => ?_, ?_⟩
           · (first | exact rfl | (have l := hw'.all; simp only [Loose.All] at l; go_simp; rfl))
           go_big_quiet_on)
        | (apply Loose.fl32T; exact rfl; (intro w' hw'; refine ⟨_, _, ?_, ?_⟩; (go_simp; exact ⟨rfl, rfl⟩); exact Fl.fr (by assumption) (by assumption) _ _); intro r_ f_; simp only [Act.put, List.setIfInBounds_toArray, List.set_cons_zero, List.set_cons_succ])
        | (apply Loose.exactT h0L; exact rfl; (intro w' hw'; first | (go_simp; rfl) | (have l := hw'.all; simp only [Loose.All] at l; go_simp; rfl)); simp only [Act.put, List.setIfInBounds_toArray, List.set_cons_zero, List.set_cons_succ])
    apply Loose.doneT
    rintro w3 - hb3 -
    obtain ⟨r0, r1, r2, r3, g0, g1, g2, g3, hbel⟩ := HK.out.end_ hb3
    clear HK h0L hb3
    go_wp2
    refine bodyPost_ret (v := .tuple #[.float .f32 y, .agg #[.float .f32 r_0, .float .f32 r_1, .float .f32 r_2, .float .f32 r_3]]) ?_ rfl ⟨_, _, _, _, _, rfl, hy, f_0, f_1, f_2, f_3, (((hbel.setCell (by simp; omega) _).setCell (by simp; omega) _).setCell (by simp; omega) _).setCell (by simp; omega) _⟩
    simp [results, Try.results57, go_sem, r0, r1, r2, r3]
end Go.Proofs.Ytlenpecnfilkjaa
