/- The steps of filters: the functions. Conditions: none beside the contracts' own. -/
import Derived.Test.YtlenpecnfilkjaaH2
set_option linter.unusedVariables false
set_option linter.unusedSimpArgs false
namespace Go.Proofs.Ytlenpecnfilkjaa
open Go.RowKit
set_option maxHeartbeats 400000 in
set_option maxRecDepth 20000 in
theorem spec_l02Form {n : Int} (w : World) :
    Calls Try.prog 54 #[.int .i64 n] w fun e w' => e = .returned (.bool (inC n 0 2)) ∧ w = w' := by
  go_enter Try.func54, Try.ntmps54
  go_wp2_with (go_at_call 58; refine (spec_l00In _).mono ?_; rintro e_ w_ ⟨rfl, rfl⟩)
  all_goals (go_ret; exact ⟨(by first | rfl | exact ret_bool (by simp_all) | exact ret_int (by simp_all) | simp_all), rfl⟩)
set_option maxHeartbeats 400000 in
set_option maxRecDepth 20000 in
theorem impl_isForm {n : Int} (w : World) :
    Calls Try.prog 56 #[.int .i64 n] w fun e w' => e = .returned (.bool (inC n 0 2)) ∧ w = w' := by
  go_enter Try.func56, Try.ntmps56
  go_wp2_with (go_at_call 60; refine (impl_within _).mono ?_; rintro e_ w_ ⟨rfl, rfl⟩)
  all_goals (go_ret; exact ⟨(by first | rfl | exact ret_bool (by simp_all) | exact ret_int (by simp_all) | simp_all), rfl⟩)
/-- A sample, a memory and a bool. -/
def RYMB (Y A B C D : Option Nat) (ok : Bool) (w : World) (e : Ending) (w' : World) : Prop :=
  ∃ y a b c d, e = .returned (.tuple #[.float .f32 y, .agg #[.float .f32 a, .float .f32 b, .float .f32 c, .float .f32 d], .bool ok]) ∧ Fl .f32 y Y ∧ Fl .f32 a A ∧ Fl .f32 b B ∧ Fl .f32 c C ∧ Fl .f32 d D ∧ Below w.heap.size w w'
def ifF (form : Int) (X : Option Nat) : Option Nat := if inC form 0 2 = true then X else some 0
/-- The cells of the next memory and of the result. -/
structure FsE (w W : World) (q m0 m1 m2 m3 : Nat) : Prop where
  s0 : W.cell? ⟨q, 0, none⟩ = some (.float .f32 m0)
  s1 : W.cell? ⟨q, 1, none⟩ = some (.float .f32 m1)
  s2 : W.cell? ⟨q, 2, none⟩ = some (.float .f32 m2)
  s3 : W.cell? ⟨q, 3, none⟩ = some (.float .f32 m3)
  r0 : W.cell? ⟨w.heap.size + 1 + 1, 0, none⟩ = some (.float .f32 0)
  r1 : W.cell? ⟨w.heap.size + 1 + 1, 1, none⟩ = some (.float .f32 0)
  r2 : W.cell? ⟨w.heap.size + 1 + 1, 2, none⟩ = some (.float .f32 0)
  r3 : W.cell? ⟨w.heap.size + 1 + 1, 3, none⟩ = some (.float .f32 0)
  g0 : W.frozen? ⟨w.heap.size + 1 + 1, 0, none⟩ = false
  g1 : W.frozen? ⟨w.heap.size + 1 + 1, 1, none⟩ = false
  g2 : W.frozen? ⟨w.heap.size + 1 + 1, 2, none⟩ = false
  g3 : W.frozen? ⟨w.heap.size + 1 + 1, 3, none⟩ = false
  bel : Below w.heap.size w W
  sz : w.heap.size + 3 ≤ W.heap.size
theorem FsE.start {w w1 : World} {o o' : Obj} {e e' : TypeId} (hb1 : Below (((w.alloc o).alloc o').alloc (.cells #[.float .f32 0, .float .f32 0, .float .f32 0, .float .f32 0] e)).heap.size (((w.alloc o).alloc o').alloc (.cells #[.float .f32 0, .float .f32 0, .float .f32 0, .float .f32 0] e)) w1) (m0 m1 m2 m3 : Nat) :
    FsE w (w1.alloc (.cells #[.float .f32 m0, .float .f32 m1, .float .f32 m2, .float .f32 m3] e')) w1.heap.size m0 m1 m2 m3 := by
  have hB : Below w.heap.size w (((w.alloc o).alloc o').alloc (.cells #[.float .f32 0, .float .f32 0, .float .f32 0, .float .f32 0] e)) := (((Below.refl _ w).alloc (Nat.le_refl _) _).alloc (by simp) _).alloc (by simp; omega) _
  have hz : (((w.alloc o).alloc o').alloc (.cells #[.float .f32 0, .float .f32 0, .float .f32 0, .float .f32 0] e)).heap.size = w.heap.size + 3 := by simp
  have hs := hb1.size
  have hB2 := hb1.alloc (by omega) (.cells #[.float .f32 m0, .float .f32 m1, .float .f32 m2, .float .f32 m3] e')
  obtain ⟨hc, hf⟩ := bcell hB2
  refine ⟨?_, ?_, ?_, ?_, (hc _ _ (by omega)).trans (by simp [go_sem]), (hc _ _ (by omega)).trans (by simp [go_sem]), (hc _ _ (by omega)).trans (by simp [go_sem]), (hc _ _ (by omega)).trans (by simp [go_sem]), (hf _ _ (by omega)).trans (by simp [go_sem]), (hf _ _ (by omega)).trans (by simp [go_sem]), (hf _ _ (by omega)).trans (by simp [go_sem]), (hf _ _ (by omega)).trans (by simp [go_sem]), below_next hB (by omega) hB2, by simp; omega⟩
  · simp [go_sem]
  · simp [go_sem]
  · simp [go_sem]
  · simp [go_sem]
theorem FsE.end_ {w W W' : World} {q m0 m1 m2 m3 : Nat} (h : FsE w W q m0 m1 m2 m3) (hb : Below W.heap.size W W') : W'.cell? ⟨w.heap.size + 1 + 1, 0, none⟩ = some (.float .f32 0) ∧ W'.cell? ⟨w.heap.size + 1 + 1, 1, none⟩ = some (.float .f32 0) ∧ W'.cell? ⟨w.heap.size + 1 + 1, 2, none⟩ = some (.float .f32 0) ∧ W'.cell? ⟨w.heap.size + 1 + 1, 3, none⟩ = some (.float .f32 0) ∧ W'.frozen? ⟨w.heap.size + 1 + 1, 0, none⟩ = false ∧ W'.frozen? ⟨w.heap.size + 1 + 1, 1, none⟩ = false ∧ W'.frozen? ⟨w.heap.size + 1 + 1, 2, none⟩ = false ∧ W'.frozen? ⟨w.heap.size + 1 + 1, 3, none⟩ = false ∧ Below w.heap.size w W' := by
  obtain ⟨hc, hf⟩ := bcell hb
  have hz : w.heap.size + 1 + 1 < W.heap.size := by have := h.sz; omega
  exact ⟨(hc _ _ hz).trans h.r0, (hc _ _ hz).trans h.r1, (hc _ _ hz).trans h.r2, (hc _ _ hz).trans h.r3, (hf _ _ hz).trans h.g0, (hf _ _ hz).trans h.g1, (hf _ _ hz).trans h.g2, (hf _ _ hz).trans h.g3, below_next h.bel (by have := h.sz; omega) hb⟩
set_option maxHeartbeats 3200000 in
set_option maxRecDepth 100000 in
theorem impl_FilterStep {b0 b1 b2 a1 a2 a b c d x : Nat} {form : Int} {fl : Bool} {B0 B1 B2 A1 A2 A B C D X : Option Nat} (w : World) (h0 : Fl .f32 b0 B0) (h1 : Fl .f32 b1 B1) (h2 : Fl .f32 b2 B2) (h3 : Fl .f32 a1 A1) (h4 : Fl .f32 a2 A2)
    (ha : Fl .f32 a A) (hb : Fl .f32 b B) (hc : Fl .f32 c C) (hd : Fl .f32 d D) (hx : Fl .f32 x X) :
    Calls Try.prog 23 #[.agg #[.float .f32 b0, .float .f32 b1, .float .f32 b2, .float .f32 a1, .float .f32 a2], .int .i64 form, .bool fl, .agg #[.float .f32 a, .float .f32 b, .float .f32 c, .float .f32 d], .float .f32 x] w
      (RYMB (ifF form (stY B0 B1 B2 A1 A2 form fl A B C D X)) (ifF form (stA B0 B1 A1 A2 form fl A B X)) (ifF form (stB B0 B2 A2 form fl A X)) (ifF form (stC form fl (stY B0 B1 B2 A1 A2 form fl A B C D X))) (ifF form (stD form fl C)) (inC form 0 2) w) := by
  have hal := fun o o' o'' => (((Below.refl _ w).alloc (Nat.le_refl _) o).alloc (by simp) o').alloc (by simp; omega) o''
  unfold ifF
  cases hf : inC form 0 2 <;> simp only [Bool.false_eq_true, if_true, if_false]
  · go_enter Try.func23, Try.ntmps23
    go_wp2_with (go_at_call 56; refine (impl_isForm _).mono ?_; rintro e w' ⟨rfl, rfl⟩)
    refine bodyPost_ret (v := .tuple #[.float .f32 0, .agg #[.float .f32 0, .float .f32 0, .float .f32 0, .float .f32 0], .bool false]) ?_ rfl ⟨_, _, _, _, _, rfl, zero32, zero32, zero32, zero32, zero32, hal _ _ _⟩
    simp [results, Try.results23, go_sem]
  · go_enter Try.func23, Try.ntmps23
    go_wp2_with fail
    refine (impl_isForm _).mono ?_
    rintro e w' ⟨rfl, rfl⟩
    go_wp2_with fail
    refine (impl_Filter_step _ h0 h1 h2 h3 h4 ha hb hc hd hx).mono ?_
    rintro e w1 ⟨y, m0, m1, m2, m3, rfl, hy, f0, f1, f2, f3, hb1⟩
    clear hal hf
    go_wp2_with fail
    have HE := Lib.hid hb1
    clear hb1
    refine Loose.regionT_of (fun W => FsE w W w1.heap.size m0 m1 m2 m3) 3 (by kernel_rfl) (by kernel_rfl) (FsE.start HE.out _ _ _ _) ?_
    intro W hI
    have h0L : Loose.All [(⟨w1.heap.size, 0, none⟩, .float .f32 m0), (⟨w1.heap.size, 1, none⟩, .float .f32 m1), (⟨w1.heap.size, 2, none⟩, .float .f32 m2), (⟨w1.heap.size, 3, none⟩, .float .f32 m3)] W := ⟨hI.s0, hI.s1, hI.s2, hI.s3, trivial⟩
    refine ⟨_, h0L, ?_⟩
    simp only [List.take_succ_cons, List.take_zero, List.drop_succ_cons, List.drop_zero]
    have HI := Lib.hid hI
    clear hI HE
    apply Exists.intro
    repeat
      first
        | (apply Loose.skipT; exact rfl; simp only [Act.put, List.setIfInBounds_toArray, List.set_cons_zero, List.set_cons_succ])
        | (apply Loose.quietT h0L; exact rfl; exact rfl; intro K hK; go_big_quiet_op; go_big_quiet_on)
        | (apply Loose.quietT h0L; exact rfl; exact rfl; intro K hK; go_big_quiet_op; apply Exists.intro; refine ⟨fun w' hw' => ?_, ?_⟩
           · (first | exact rfl | (have l := hw'.all; simp only [Loose.All] at l; go_simp; rfl))
           go_big_quiet_on)
        | (apply Loose.fl32T; exact rfl; (intro w' hw'; apply Exists.intro; apply Exists.intro; refine ⟨?_, ?_⟩; (go_simp; exact ⟨rfl, rfl⟩); exact Fl.fr (by assumption) (by assumption) _ _); intro r_ f_; simp only [Act.put, List.setIfInBounds_toArray, List.set_cons_zero, List.set_cons_succ])
        | (apply Loose.exactT h0L; exact rfl; (intro w' hw'; first | (go_simp; rfl) | (have l := hw'.all; simp only [Loose.All] at l; go_simp; rfl)); simp only [Act.put, List.setIfInBounds_toArray, List.set_cons_zero, List.set_cons_succ])
    apply Loose.doneT
    rintro w3 - hb3 -
    obtain ⟨r0, r1, r2, r3, g0, g1, g2, g3, hbel⟩ := HI.out.end_ hb3
    clear HI h0L hb3
    go_wp2
    refine bodyPost_ret (v := .tuple #[.float .f32 y, .agg #[.float .f32 m0, .float .f32 m1, .float .f32 m2, .float .f32 m3], .bool true]) ?_ rfl ⟨_, _, _, _, _, rfl, hy, f0, f1, f2, f3, (((hbel.setCell (by simp; omega) _).setCell (by simp; omega) _).setCell (by simp; omega) _).setCell (by simp; omega) _⟩
    simp [results, Try.results23, go_sem, r0, r1, r2, r3]
set_option maxHeartbeats 3200000 in
set_option maxRecDepth 100000 in
theorem spec_FilterStep {b0 b1 b2 a1 a2 a b c d x : Nat} {form : Int} {fl : Bool} {B0 B1 B2 A1 A2 A B C D X : Option Nat} (w : World) (h0 : Fl .f32 b0 B0) (h1 : Fl .f32 b1 B1) (h2 : Fl .f32 b2 B2) (h3 : Fl .f32 a1 A1) (h4 : Fl .f32 a2 A2)
    (ha : Fl .f32 a A) (hb : Fl .f32 b B) (hc : Fl .f32 c C) (hd : Fl .f32 d D) (hx : Fl .f32 x X) :
    Calls Try.prog 22 #[.agg #[.float .f32 b0, .float .f32 b1, .float .f32 b2, .float .f32 a1, .float .f32 a2], .int .i64 form, .bool fl, .agg #[.float .f32 a, .float .f32 b, .float .f32 c, .float .f32 d], .float .f32 x] w
      (RYMB (ifF form (stY B0 B1 B2 A1 A2 form fl A B C D X)) (ifF form (stA B0 B1 A1 A2 form fl A B X)) (ifF form (stB B0 B2 A2 form fl A X)) (ifF form (stC form fl (stY B0 B1 B2 A1 A2 form fl A B C D X))) (ifF form (stD form fl C)) (inC form 0 2) w) := by
  have hal := fun o o' o'' => (((Below.refl _ w).alloc (Nat.le_refl _) o).alloc (by simp) o').alloc (by simp; omega) o''
  unfold ifF
  cases hf : inC form 0 2 <;> simp only [Bool.false_eq_true, if_true, if_false]
  · go_enter Try.func22, Try.ntmps22
    go_wp2_with (go_at_call 54; refine (spec_l02Form _).mono ?_; rintro e w' ⟨rfl, rfl⟩)
    refine bodyPost_ret (v := .tuple #[.float .f32 0, .agg #[.float .f32 0, .float .f32 0, .float .f32 0, .float .f32 0], .bool false]) ?_ rfl ⟨_, _, _, _, _, rfl, zero32, zero32, zero32, zero32, zero32, hal _ _ _⟩
    simp [results, Try.results22, go_sem]
  · go_enter Try.func22, Try.ntmps22
    go_wp2_with fail
    refine (spec_l02Form _).mono ?_
    rintro e w' ⟨rfl, rfl⟩
    go_wp2_with fail
    refine (spec_l02Step _ h0 h1 h2 h3 h4 ha hb hc hd hx (by simp [go_sem]) (by simp [go_sem]) (by simp [go_sem]) (by simp [go_sem]) (by simp [go_sem])).mono ?_
    rintro e w1 ⟨y, m0, m1, m2, m3, rfl, hy, f0, f1, f2, f3, hb1⟩
    clear hal hf
    go_wp2_with fail
    have HE := Lib.hid hb1
    clear hb1
    refine Loose.regionT_of (fun W => FsE w W w1.heap.size m0 m1 m2 m3) 3 (by kernel_rfl) (by kernel_rfl) (FsE.start HE.out _ _ _ _) ?_
    intro W hI
    have h0L : Loose.All [(⟨w1.heap.size, 0, none⟩, .float .f32 m0), (⟨w1.heap.size, 1, none⟩, .float .f32 m1), (⟨w1.heap.size, 2, none⟩, .float .f32 m2), (⟨w1.heap.size, 3, none⟩, .float .f32 m3)] W := ⟨hI.s0, hI.s1, hI.s2, hI.s3, trivial⟩
    refine ⟨_, h0L, ?_⟩
    simp only [List.take_succ_cons, List.take_zero, List.drop_succ_cons, List.drop_zero]
    have HI := Lib.hid hI
    clear hI HE
    apply Exists.intro
    repeat
      first
        | (apply Loose.skipT; exact rfl; simp only [Act.put, List.setIfInBounds_toArray, List.set_cons_zero, List.set_cons_succ])
        | (apply Loose.quietT h0L; exact rfl; exact rfl; intro K hK; go_big_quiet_op; go_big_quiet_on)
        | (apply Loose.quietT h0L; exact rfl; exact rfl; intro K hK; go_big_quiet_op; apply Exists.intro; refine ⟨fun w' hw' => ?_, ?_⟩
           · (first | exact rfl | (have l := hw'.all; simp only [Loose.All] at l; go_simp; rfl))
           go_big_quiet_on)
        | (apply Loose.fl32T; exact rfl; (intro w' hw'; apply Exists.intro; apply Exists.intro; refine ⟨?_, ?_⟩; (go_simp; exact ⟨rfl, rfl⟩); exact Fl.fr (by assumption) (by assumption) _ _); intro r_ f_; simp only [Act.put, List.setIfInBounds_toArray, List.set_cons_zero, List.set_cons_succ])
        | (apply Loose.exactT h0L; exact rfl; (intro w' hw'; first | (go_simp; rfl) | (have l := hw'.all; simp only [Loose.All] at l; go_simp; rfl)); simp only [Act.put, List.setIfInBounds_toArray, List.set_cons_zero, List.set_cons_succ])
    apply Loose.doneT
    rintro w3 - hb3 -
    obtain ⟨r0, r1, r2, r3, g0, g1, g2, g3, hbel⟩ := HI.out.end_ hb3
    clear HI h0L hb3
    go_wp2
    refine bodyPost_ret (v := .tuple #[.float .f32 y, .agg #[.float .f32 m0, .float .f32 m1, .float .f32 m2, .float .f32 m3], .bool true]) ?_ rfl ⟨_, _, _, _, _, rfl, hy, f0, f1, f2, f3, (((hbel.setCell (by simp; omega) _).setCell (by simp; omega) _).setCell (by simp; omega) _).setCell (by simp; omega) _⟩
    simp [results, Try.results22, go_sem, r0, r1, r2, r3]
set_option maxHeartbeats 800000 in
theorem laws_toFilter {a b c d f : Nat} (w : World) : Calls Try.prog 20 #[.agg #[.float .f32 a, .float .f32 b, .float .f32 c, .float .f32 d, .float .f32 f]] w (RV (.agg #[.float .f32 a, .float .f32 b, .float .f32 c, .float .f32 d, .float .f32 f]) w) := by
  go_enter Try.func20, Try.ntmps20
  go_wp2
  refine bodyPost_ret (v := .agg #[.float .f32 a, .float .f32 b, .float .f32 c, .float .f32 d, .float .f32 f]) ?_ rfl ⟨rfl, ?_⟩
  · simp [results, Try.results20, go_sem]
  · (repeat (first | exact Below.refl _ _ | (with_reducible assumption) | refine below_drewN ?_ _ | refine Below.drew ?_ | refine Below.alloc ?_ (by simp; try omega) _))
set_option maxHeartbeats 800000 in
theorem laws_eqMemory {a b c d a' b' c' d' : Nat} {A B C D : Option Nat} (w : World) (ha : Fl .f32 a A) (hb : Fl .f32 b B) (hc : Fl .f32 c C) (hd : Fl .f32 d D) (ha' : Fl .f32 a' A) (hb' : Fl .f32 b' B) (hc' : Fl .f32 c' C) (hd' : Fl .f32 d' D) :
    Calls Try.prog 25 #[.agg #[.float .f32 a, .float .f32 b, .float .f32 c, .float .f32 d], .agg #[.float .f32 a', .float .f32 b', .float .f32 c', .float .f32 d']] w (RV (.bool true) w) := by
  have hal := fun o o' m => below_drewN (((Below.refl _ w).alloc (Nat.le_refl _) o).alloc (by simp) o') m
  go_enter Try.func25, Try.ntmps25
  go_wp2_with fail
  refine (laws_sameFloat (ha.cw _) (ha'.cw _) _).mono ?_; rintro e w' ⟨rfl, q1, rfl⟩
  go_wp2_with fail
  refine (laws_sameFloat (hb.cw _) (hb'.cw _) _).mono ?_; rintro e w' ⟨rfl, q2, rfl⟩
  go_wp2_with fail
  refine (laws_sameFloat (hc.cw _) (hc'.cw _) _).mono ?_; rintro e w' ⟨rfl, q3, rfl⟩
  go_wp2_with fail
  refine (laws_sameFloat (hd.cw _) (hd'.cw _) _).mono ?_; rintro e w' ⟨rfl, q4, rfl⟩
  go_wp2_with fail
  go_ret
  exact ⟨rfl, hal _ _ _⟩
end Go.Proofs.Ytlenpecnfilkjaa
