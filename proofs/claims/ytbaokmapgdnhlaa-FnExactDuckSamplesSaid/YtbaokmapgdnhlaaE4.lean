/- Squeezes: the functions and the law. Conditions: none beside the contracts' own. -/
import Derived.Test.YtbaokmapgdnhlaaE3
set_option linter.unusedVariables false
set_option linter.unusedSimpArgs false
namespace Go.Proofs.Ytbaokmapgdnhlaa
open Go.RowKit
/-- The cells of the next squeeze and of the result. -/
structure DkE (w W : World) (q m0 m1 m2 m3 m4 : Nat) : Prop where
  s0 : W.cell? ⟨q, 0, none⟩ = some (.float .f32 m0)
  s1 : W.cell? ⟨q, 1, none⟩ = some (.float .f32 m1)
  s2 : W.cell? ⟨q, 2, none⟩ = some (.float .f32 m2)
  s3 : W.cell? ⟨q, 3, none⟩ = some (.float .f32 m3)
  s4 : W.cell? ⟨q, 4, none⟩ = some (.float .f32 m4)
  r0 : W.cell? ⟨w.heap.size + 1, 0, none⟩ = some (.float .f32 0)
  r1 : W.cell? ⟨w.heap.size + 1, 1, none⟩ = some (.float .f32 0)
  r2 : W.cell? ⟨w.heap.size + 1, 2, none⟩ = some (.float .f32 0)
  r3 : W.cell? ⟨w.heap.size + 1, 3, none⟩ = some (.float .f32 0)
  r4 : W.cell? ⟨w.heap.size + 1, 4, none⟩ = some (.float .f32 0)
  g0 : W.frozen? ⟨w.heap.size + 1, 0, none⟩ = false
  g1 : W.frozen? ⟨w.heap.size + 1, 1, none⟩ = false
  g2 : W.frozen? ⟨w.heap.size + 1, 2, none⟩ = false
  g3 : W.frozen? ⟨w.heap.size + 1, 3, none⟩ = false
  g4 : W.frozen? ⟨w.heap.size + 1, 4, none⟩ = false
  bel : Below w.heap.size w W
  sz : w.heap.size + 2 ≤ W.heap.size
theorem DkE.start {w w1 : World} {o : Obj} {e e' : TypeId} (hb1 : Below ((w.alloc o).alloc (.cells #[.float .f32 0, .float .f32 0, .float .f32 0, .float .f32 0, .float .f32 0] e)).heap.size ((w.alloc o).alloc (.cells #[.float .f32 0, .float .f32 0, .float .f32 0, .float .f32 0, .float .f32 0] e)) w1) (m0 m1 m2 m3 m4 : Nat) :
    DkE w (w1.alloc (.cells #[.float .f32 m0, .float .f32 m1, .float .f32 m2, .float .f32 m3, .float .f32 m4] e')) w1.heap.size m0 m1 m2 m3 m4 := by
  have hB : Below w.heap.size w ((w.alloc o).alloc (.cells #[.float .f32 0, .float .f32 0, .float .f32 0, .float .f32 0, .float .f32 0] e)) := ((Below.refl _ w).alloc (Nat.le_refl _) _).alloc (by simp) _
  have hz : ((w.alloc o).alloc (.cells #[.float .f32 0, .float .f32 0, .float .f32 0, .float .f32 0, .float .f32 0] e)).heap.size = w.heap.size + 2 := by simp
  have hs := hb1.size
  have hB2 := hb1.alloc (by omega) (.cells #[.float .f32 m0, .float .f32 m1, .float .f32 m2, .float .f32 m3, .float .f32 m4] e')
  obtain ⟨hc, hf⟩ := bcell hB2
  refine ⟨?_, ?_, ?_, ?_, ?_, (hc _ _ (by omega)).trans (by simp [go_sem]), (hc _ _ (by omega)).trans (by simp [go_sem]), (hc _ _ (by omega)).trans (by simp [go_sem]), (hc _ _ (by omega)).trans (by simp [go_sem]), (hc _ _ (by omega)).trans (by simp [go_sem]), (hf _ _ (by omega)).trans (by simp [go_sem]), (hf _ _ (by omega)).trans (by simp [go_sem]), (hf _ _ (by omega)).trans (by simp [go_sem]), (hf _ _ (by omega)).trans (by simp [go_sem]), (hf _ _ (by omega)).trans (by simp [go_sem]), below_next hB (by omega) hB2, by simp; omega⟩ <;> simp [go_sem]
theorem DkE.end_ {w W W' : World} {q m0 m1 m2 m3 m4 : Nat} (h : DkE w W q m0 m1 m2 m3 m4) (hb : Below W.heap.size W W') : W'.cell? ⟨w.heap.size + 1, 0, none⟩ = some (.float .f32 0) ∧ W'.cell? ⟨w.heap.size + 1, 1, none⟩ = some (.float .f32 0) ∧ W'.cell? ⟨w.heap.size + 1, 2, none⟩ = some (.float .f32 0) ∧ W'.cell? ⟨w.heap.size + 1, 3, none⟩ = some (.float .f32 0) ∧ W'.cell? ⟨w.heap.size + 1, 4, none⟩ = some (.float .f32 0) ∧ W'.frozen? ⟨w.heap.size + 1, 0, none⟩ = false ∧ W'.frozen? ⟨w.heap.size + 1, 1, none⟩ = false ∧ W'.frozen? ⟨w.heap.size + 1, 2, none⟩ = false ∧ W'.frozen? ⟨w.heap.size + 1, 3, none⟩ = false ∧ W'.frozen? ⟨w.heap.size + 1, 4, none⟩ = false ∧ Below w.heap.size w W' := by
  obtain ⟨hc, hf⟩ := bcell hb
  have hz : w.heap.size + 1 < W.heap.size := by have := h.sz; omega
  exact ⟨(hc _ _ hz).trans h.r0, (hc _ _ hz).trans h.r1, (hc _ _ hz).trans h.r2, (hc _ _ hz).trans h.r3, (hc _ _ hz).trans h.r4, (hf _ _ hz).trans h.g0, (hf _ _ hz).trans h.g1, (hf _ _ hz).trans h.g2, (hf _ _ hz).trans h.g3, (hf _ _ hz).trans h.g4, below_next h.bel (by have := h.sz; omega) hb⟩
def duckOk (n m : Nat) : Bool := few n && decide (m = n)
theorem duck_ok {n m : Nat} (h : duckOk n m = true) : few n = true ∧ m = n := by simpa [duckOk] using h
theorem duck_not {n m : Nat} (h : duckOk n m = false) : few n = false ∨ (few n = true ∧ ((m : Int) != (n : Int)) = true) := by
  unfold duckOk at h
  cases hf : few n
  · exact .inl rfl
  · rw [hf] at h; simp at h; exact .inr ⟨rfl, by simpa using (show ¬ (m : Int) = (n : Int) by omega)⟩
abbrev SqR : Type := List (Option Nat) × Option Nat × Option Nat × Option Nat × Option Nat × Option Nat
def duckNC (n m : Nat) (A R L T U : Option Nat) (X Y : List (Option Nat)) : SqR := if duckOk n m = true then ((sqzT A R L T U (X.zip Y)).2, A, R, (sqzT A R L T U (X.zip Y)).1, T, U) else ([], some 0, some 0, some 0, some 0, some 0)
def sqNC (n : Nat) (A R L T U : Option Nat) (X : List (Option Nat)) : SqR := if few n = true then ((sqzT A R L T U (X.zip X)).2, A, R, (sqzT A R L T U (X.zip X)).1, T, U) else ([], some 0, some 0, some 0, some 0, some 0)
theorem duck_self (n : Nat) (A R L T U : Option Nat) (X : List (Option Nat)) : duckNC n n A R L T U X X = sqNC n A R L T U X ∧ duckOk n n = few n := by
  have h : duckOk n n = few n := by simp [duckOk]
  exact ⟨by unfold duckNC sqNC; rw [h], h⟩
abbrev RSQ (p : SqR) (b : Bool) (w : World) : Ending → World → Prop := RS5B p.1 p.2.1 p.2.2.1 p.2.2.2.1 p.2.2.2.2.1 p.2.2.2.2.2 b w
set_option maxHeartbeats 3200000 in
set_option maxRecDepth 100000 in
theorem spec_RunSqueeze {a r l t u : Nat} {Ac R L T U : Option Nat} {A : Option Addr} {n c : Nat} {xs : List Nat} (w : World) (ha : Fl .f32 a Ac) (hr : Fl .f32 r R) (hl : Fl .f32 l L) (ht : Fl .f32 t T) (hu : Fl .f32 u U) (h : Rd w A n xs) (hn : n ≤ 1048576) :
    Calls Try.prog 40 #[.agg #[.float .f32 a, .float .f32 r, .float .f32 l, .float .f32 t, .float .f32 u], .slice A n c] w (RSQ (sqNC n Ac R L T U (clss xs)) (few n) w) := by
  have hal := fun o o' => ((Below.refl _ w).alloc (Nat.le_refl _) o).alloc (by simp) o'
  unfold sqNC
  cases hf : few n <;> simp only [Bool.false_eq_true, if_true, if_false]
  · go_enter Try.func40, Try.ntmps40
    go_wp2_with (go_at_call 56; refine (spec_l01Few hn _).mono ?_; rintro e w' ⟨rfl, rfl⟩)
    refine bodyPost_ret (v := .tuple #[.slice none 0 0, .agg #[.float .f32 0, .float .f32 0, .float .f32 0, .float .f32 0, .float .f32 0], .bool false]) ?_ rfl ⟨_, [], _, _, _, _, _, rfl, .nil _ _ _, rfl, by simp, zero_fl, zero_fl, zero_fl, zero_fl, zero_fl, hal _ _⟩
    simp [results, Try.results40, go_sem]
  · skip
    go_enter Try.func40, Try.ntmps40
    go_wp2_with (go_at_call 56; refine (spec_l01Few hn _).mono ?_; rintro e w' ⟨rfl, rfl⟩)
    refine (spec_l04Squeeze _ ha hr hl ht hu (h.below (hal _ _)) hn (h.below (hal _ _))).mono ?_
    rintro e w1 ⟨v, zs, m0, m1, m2, m3, m4, rfl, ho, hz, hzl, f0, f1, f2, f3, f4, hb1⟩
    have HZ := Lib.hid hz
    clear hz h hal
    go_wp2_with fail
    have HE := Lib.hid hb1
    have HO := Lib.hid (ho.below ((Below.refl _ w1).alloc (Nat.le_refl _) (.cells #[.float .f32 m0, .float .f32 m1, .float .f32 m2, .float .f32 m3, .float .f32 m4] 68)))
    clear hb1 ho
    refine Loose.regionT_of (fun W => DkE w W w1.heap.size m0 m1 m2 m3 m4 ∧ Of W ((w.alloc _).alloc _).heap.size v zs) 3 (by kernel_rfl) (by kernel_rfl) ⟨DkE.start HE.out _ _ _ _ _, HO.out⟩ ?_
    rintro W ⟨hI, ho⟩
    have h0L : Loose.All [(⟨w1.heap.size, 0, none⟩, .float .f32 m0), (⟨w1.heap.size, 1, none⟩, .float .f32 m1), (⟨w1.heap.size, 2, none⟩, .float .f32 m2), (⟨w1.heap.size, 3, none⟩, .float .f32 m3), (⟨w1.heap.size, 4, none⟩, .float .f32 m4)] W := ⟨hI.s0, hI.s1, hI.s2, hI.s3, hI.s4, trivial⟩
    refine ⟨_, h0L, ?_⟩
    simp only [List.take_succ_cons, List.take_zero, List.drop_succ_cons, List.drop_zero]
    have HI := Lib.hid hI
    replace HO := Lib.hid ho
    clear hI HE ho
    apply Exists.intro
    repeat
      first
        | (apply Loose.skipT; exact rfl; simp only [Act.put, List.setIfInBounds_toArray, List.set_cons_zero, List.set_cons_succ])
        | (apply Loose.quietT h0L; exact rfl; exact rfl; intro K hK; go_big_quiet_op; go_big_quiet_on)
        | (apply Loose.quietT h0L; exact rfl; exact rfl; intro K hK; go_big_quiet_op; apply Exists.intro; refine ⟨fun w' hw' => ?_, ?_⟩
           · (first | exact rfl | (have l := hw'.all; simp only [Loose.All] at l; go_simp; rfl))
           go_big_quiet_on)
        | (apply Loose.fl32T; exact rfl; (intro w' hw'; apply Exists.intro; apply Exists.intro; refine ⟨?_, ?_⟩; (go_simp; exact ⟨rfl, rfl⟩); exact Fl.fr (by assumption) (by assumption) _ _); intro r_ f_; simp only [Act.put, List.setIfInBounds_toArray, List.set_cons_zero, List.set_cons_succ])
        | (apply Loose.exactT h0L; exact rfl; (intro w' hw'; first | (go_simp; rfl) | (have l := hw'.all; simp only [Loose.All] at l; go_simp; rfl)); simp only [Act.put, List.setIfInBounds_toArray, List.set_cons_zero, List.set_cons_succ])
    apply Loose.doneT
    rintro w3 - hb3 -
    obtain ⟨r0, r1, r2, r3, r4, g0, g1, g2, g3, g4, hbel⟩ := HI.out.end_ hb3
    have ho := (HO.out.below hb3).low (B' := w.heap.size + 2) (by simp)
    clear HI HO h0L hb3
    go_wp2
    refine bodyPost_ret (v := .tuple #[v, .agg #[.float .f32 m0, .float .f32 m1, .float .f32 m2, .float .f32 m3, .float .f32 m4], .bool true]) ?_ rfl ⟨_, _, _, _, _, _, _, rfl, ?_, HZ.out, hzl, f0, f1, f2, f3, f4, ((((hbel.setCell (by simp) _).setCell (by simp) _).setCell (by simp) _).setCell (by simp) _).setCell (by simp) _⟩
    · simp [results, Try.results40, go_sem, r0, r1, r2, r3, r4]
    · exact (((((ho.put (by simp) _).put (by simp) _).put (by simp) _).put (by simp) _).put (by simp) _).low (by omega)
set_option maxHeartbeats 3200000 in
set_option maxRecDepth 100000 in
theorem spec_DuckSamples {a r l t u : Nat} {Ac R L T U : Option Nat} {A B : Option Addr} {n c m d : Nat} {xs ys : List Nat} (w : World) (ha : Fl .f32 a Ac) (hr : Fl .f32 r R) (hl : Fl .f32 l L) (ht : Fl .f32 t T) (hu : Fl .f32 u U) (h : Rd w A n xs) (hn : n ≤ 1048576) (h' : Rd w B m ys) (hm : m ≤ 1048576) :
    Calls Try.prog 44 #[.agg #[.float .f32 a, .float .f32 r, .float .f32 l, .float .f32 t, .float .f32 u], .slice A n c, .slice B m d] w (RSQ (duckNC n m Ac R L T U (clss xs) (clss ys)) (duckOk n m) w) := by
  have hal := fun o o' => ((Below.refl _ w).alloc (Nat.le_refl _) o).alloc (by simp) o'
  unfold duckNC
  cases hf : duckOk n m <;> simp only [Bool.false_eq_true, if_true, if_false]
  · rcases duck_not hf with h1 | ⟨h1, h2⟩
    all_goals
      clear hf
      go_enter Try.func44, Try.ntmps44
      go_wp2_with (go_at_call 56; refine (spec_l01Few hn _).mono ?_; rintro e w' ⟨rfl, rfl⟩)
      refine bodyPost_ret (v := .tuple #[.slice none 0 0, .agg #[.float .f32 0, .float .f32 0, .float .f32 0, .float .f32 0, .float .f32 0], .bool false]) ?_ rfl ⟨_, [], _, _, _, _, _, rfl, .nil _ _ _, rfl, by simp, zero_fl, zero_fl, zero_fl, zero_fl, zero_fl, hal _ _⟩
      simp [results, Try.results44, go_sem]
  · obtain ⟨h1, rfl⟩ := duck_ok hf
    clear hf
    go_enter Try.func44, Try.ntmps44
    go_wp2_with (go_at_call 56; refine (spec_l01Few hn _).mono ?_; rintro e w' ⟨rfl, rfl⟩)
    refine (spec_l04Squeeze _ ha hr hl ht hu (h.below (hal _ _)) hn (h'.below (hal _ _))).mono ?_
    rintro e w1 ⟨v, zs, m0, m1, m2, m3, m4, rfl, ho, hz, hzl, f0, f1, f2, f3, f4, hb1⟩
    have HZ := Lib.hid hz
    clear hz h h' hal
    go_wp2_with fail
    have HE := Lib.hid hb1
    have HO := Lib.hid (ho.below ((Below.refl _ w1).alloc (Nat.le_refl _) (.cells #[.float .f32 m0, .float .f32 m1, .float .f32 m2, .float .f32 m3, .float .f32 m4] 68)))
    clear hb1 ho
    refine Loose.regionT_of (fun W => DkE w W w1.heap.size m0 m1 m2 m3 m4 ∧ Of W ((w.alloc _).alloc _).heap.size v zs) 3 (by kernel_rfl) (by kernel_rfl) ⟨DkE.start HE.out _ _ _ _ _, HO.out⟩ ?_
    rintro W ⟨hI, ho⟩
    have h0L : Loose.All [(⟨w1.heap.size, 0, none⟩, .float .f32 m0), (⟨w1.heap.size, 1, none⟩, .float .f32 m1), (⟨w1.heap.size, 2, none⟩, .float .f32 m2), (⟨w1.heap.size, 3, none⟩, .float .f32 m3), (⟨w1.heap.size, 4, none⟩, .float .f32 m4)] W := ⟨hI.s0, hI.s1, hI.s2, hI.s3, hI.s4, trivial⟩
    refine ⟨_, h0L, ?_⟩
    simp only [List.take_succ_cons, List.take_zero, List.drop_succ_cons, List.drop_zero]
    have HI := Lib.hid hI
    replace HO := Lib.hid ho
    clear hI HE ho
    apply Exists.intro
    repeat
      first
        | (apply Loose.skipT; exact rfl; simp only [Act.put, List.setIfInBounds_toArray, List.set_cons_zero, List.set_cons_succ])
        | (apply Loose.quietT h0L; exact rfl; exact rfl; intro K hK; go_big_quiet_op; go_big_quiet_on)
        | (apply Loose.quietT h0L; exact rfl; exact rfl; intro K hK; go_big_quiet_op; apply Exists.intro; refine ⟨fun w' hw' => ?_, ?_⟩
           · (first | exact rfl | (have l := hw'.all; simp only [Loose.All] at l; go_simp; rfl))
           go_big_quiet_on)
        | (apply Loose.fl32T; exact rfl; (intro w' hw'; apply Exists.intro; apply Exists.intro; refine ⟨?_, ?_⟩; (go_simp; exact ⟨rfl, rfl⟩); exact Fl.fr (by assumption) (by assumption) _ _); intro r_ f_; simp only [Act.put, List.setIfInBounds_toArray, List.set_cons_zero, List.set_cons_succ])
        | (apply Loose.exactT h0L; exact rfl; (intro w' hw'; first | (go_simp; rfl) | (have l := hw'.all; simp only [Loose.All] at l; go_simp; rfl)); simp only [Act.put, List.setIfInBounds_toArray, List.set_cons_zero, List.set_cons_succ])
    apply Loose.doneT
    rintro w3 - hb3 -
    obtain ⟨r0, r1, r2, r3, r4, g0, g1, g2, g3, g4, hbel⟩ := HI.out.end_ hb3
    have ho := (HO.out.below hb3).low (B' := w.heap.size + 2) (by simp)
    clear HI HO h0L hb3
    go_wp2
    refine bodyPost_ret (v := .tuple #[v, .agg #[.float .f32 m0, .float .f32 m1, .float .f32 m2, .float .f32 m3, .float .f32 m4], .bool true]) ?_ rfl ⟨_, _, _, _, _, _, _, rfl, ?_, HZ.out, hzl, f0, f1, f2, f3, f4, ((((hbel.setCell (by simp) _).setCell (by simp) _).setCell (by simp) _).setCell (by simp) _).setCell (by simp) _⟩
    · simp [results, Try.results44, go_sem, r0, r1, r2, r3, r4]
    · exact (((((ho.put (by simp) _).put (by simp) _).put (by simp) _).put (by simp) _).put (by simp) _).low (by omega)
end Go.Proofs.Ytbaokmapgdnhlaa
