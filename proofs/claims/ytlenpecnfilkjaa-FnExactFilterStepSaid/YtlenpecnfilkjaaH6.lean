/- The walk of the law on steps of filters. Conditions: none. -/
import Derived.Test.YtlenpecnfilkjaaH3
import Derived.Test.YtlenpecnfilkjaaH4
import Derived.Test.YtlenpecnfilkjaaZ6
import Derived.Deep.CutRange
set_option linter.unusedVariables false
set_option linter.unusedSimpArgs false
namespace Go.Proofs.Ytlenpecnfilkjaa
open Go.RowKit
set_option maxHeartbeats 800000 in
theorem laws_toMemory {a b c d : Nat} (w : World) : Calls Try.prog 14 #[.agg #[.float .f32 a, .float .f32 b, .float .f32 c, .float .f32 d]] w (RV (.agg #[.float .f32 a, .float .f32 b, .float .f32 c, .float .f32 d]) w) := by
  go_enter Try.func14, Try.ntmps14
  go_wp2
  refine bodyPost_ret (v := .agg #[.float .f32 a, .float .f32 b, .float .f32 c, .float .f32 d]) ?_ rfl ⟨rfl, ?_⟩
  · simp [results, Try.results14, go_sem]
  · (repeat (first | exact Below.refl _ _ | (with_reducible assumption) | refine below_drewN ?_ _ | refine Below.drew ?_ | refine Below.alloc ?_ (by simp; try omega) _))
/-- A block with these cells, that may be written. -/
def Fresh (w : World) (b : Nat) (vs : Array Value) : Prop := b < w.heap.size ∧ ∀ i v, vs[i]? = some v → w.cell? ⟨b, i, none⟩ = some v ∧ w.frozen? ⟨b, i, none⟩ = false
theorem Fresh.next {w w' : World} {b : Nat} {vs : Array Value} (h : Fresh w b vs) (hb : Below w.heap.size w w') : Fresh w' b vs := by
  obtain ⟨hc, hf⟩ := bcell hb
  exact ⟨Nat.lt_of_lt_of_le h.1 hb.size, fun i v hv => ⟨(hc _ _ h.1).trans (h.2 i v hv).1, (hf _ _ h.1).trans (h.2 i v hv).2⟩⟩
namespace Loose
theorem allocT {P : Program} {ops : Array Oper} {W : World} {cs : List (Addr × Value)} {Q : Exit → Act → World → Prop} {o : Oper} {rest tl : List Oper} {ql : List (Option (Value → World → Prop))} {a : Act} {F : World → Prop} {vs : Array Value} {e : TypeId}
    (hw : Region.wanted o (yielded ops a.tmps) = true) (ho : ∀ w, Cls W cs w → (execOp a.eval o).run P w = .ok (.value (.pointer (some ⟨w.heap.size, 0, none⟩))) (w.alloc (.cells vs e)))
    (h : ∀ b, W.heap.size ≤ b → walk P ops (Cls W cs) Rb (finT P ops (Cls W cs) Q tl) rest ql (a.put o.dst (.pointer (some ⟨b, 0, none⟩))) (fun w => F w ∧ Fresh w b vs)) : walk P ops (Cls W cs) Rb (finT P ops (Cls W cs) Q tl) (o :: rest) (some (fun v w => ∃ b, v = .pointer (some ⟨b, 0, none⟩) ∧ W.heap.size ≤ b ∧ Fresh w b vs) :: ql) a F :=
  looseT hw (fun v w w' hb ⟨b, he, hg, hf⟩ => ⟨b, he, hg, hf.next hb⟩)
    (fun w hc => at_val (ho w hc) (hc.next ((Below.refl _ _).alloc (Nat.le_refl _) _)) ((Below.refl _ _).alloc (Nat.le_refl _) _) ⟨_, rfl, hc.bel.size, by simp, fun i v hv => ⟨by simp [go_sem, hv], by simp [go_sem]⟩⟩)
    (by
      rintro v ⟨w, hc, b, rfl, hg, hf⟩
      exact walk_facts fin_facts _ _ _ _ _ (fun w' ⟨h1, b', he, _, h2⟩ => ⟨h1, by injection he with he; cases he; exact h2⟩) (h b hg))
end Loose
theorem RsK.put {w W : World} {b0 b1 b2 a1 a2 n0 n1 n2 n3 : Nat} (h : RsK w W b0 b1 b2 a1 a2 n0 n1 n2 n3) {q : Nat} (hq : w.heap.size + 2 ≤ q) (i : Nat) (v : Value) : RsK w (W.setCell ⟨q, i, none⟩ v) b0 b1 b2 a1 a2 n0 n1 n2 n3 := by
  have key : ∀ {b o u}, b < w.heap.size + 2 → W.cell? ⟨b, o, none⟩ = some u → (W.setCell ⟨q, i, none⟩ v).cell? ⟨b, o, none⟩ = some u := fun hb hu => cell_set4 hu (by simp <;> omega)
  exact ⟨key (by omega) h.p0, key (by omega) h.p1, key (by omega) h.p2, key (by omega) h.p3, key (by omega) h.p4, key (by omega) h.m0, key (by omega) h.m1, key (by omega) h.m2, key (by omega) h.m3, by simpa using h.t0, by simpa using h.t1, by simpa using h.t2, by simpa using h.t3, h.bel.setCell (by simp; omega) _, by simpa using h.sz⟩
/-- The cells of the next memory. -/
def CeQ (W : World) (q n0 n1 n2 n3 : Nat) : Prop := q < W.heap.size ∧ W.cell? ⟨q, 0, none⟩ = some (.float .f32 n0) ∧ W.cell? ⟨q, 1, none⟩ = some (.float .f32 n1) ∧ W.cell? ⟨q, 2, none⟩ = some (.float .f32 n2) ∧ W.cell? ⟨q, 3, none⟩ = some (.float .f32 n3)
theorem CeQ.next {W W' : World} {q n0 n1 n2 n3 : Nat} (h : CeQ W q n0 n1 n2 n3) (hb : Below W.heap.size W W') : CeQ W' q n0 n1 n2 n3 := by
  obtain ⟨hc, _⟩ := bcell hb
  obtain ⟨h0, h1, h2, h3, h4⟩ := h
  exact ⟨Nat.lt_of_lt_of_le h0 hb.size, (hc _ _ h0).trans h1, (hc _ _ h0).trans h2, (hc _ _ h0).trans h3, (hc _ _ h0).trans h4⟩
theorem CeQ.put {W : World} {q n0 n1 n2 n3 p : Nat} (h : CeQ W q n0 n1 n2 n3) (hp : q < p) (i : Nat) (v : Value) : CeQ (W.setCell ⟨p, i, none⟩ v) q n0 n1 n2 n3 := by
  obtain ⟨h0, h1, h2, h3, h4⟩ := h
  exact ⟨by simpa using h0, cell_set4 h1 (by simp <;> omega), cell_set4 h2 (by simp <;> omega), cell_set4 h3 (by simp <;> omega), cell_set4 h4 (by simp <;> omega)⟩
theorem CeQ.made {W : World} {q : Nat} (h : Fresh W q #[.float .f32 0, .float .f32 0, .float .f32 0, .float .f32 0]) (n0 n1 n2 n3 : Nat) : CeQ ((((W.setCell ⟨q, 0, none⟩ (.float .f32 n0)).setCell ⟨q, 1, none⟩ (.float .f32 n1)).setCell ⟨q, 2, none⟩ (.float .f32 n2)).setCell ⟨q, 3, none⟩ (.float .f32 n3)) q n0 n1 n2 n3 := by
  have c0 := (h.2 0 _ rfl).1
  have c1 := (h.2 1 _ rfl).1
  have c2 := (h.2 2 _ rfl).1
  have c3 := (h.2 3 _ rfl).1
  refine ⟨by simpa using h.1, ?_, ?_, ?_, ?_⟩
  · exact cell_set4 (cell_set4 (cell_set4 (cell_same c0) (by simp)) (by simp)) (by simp)
  · exact cell_set4 (cell_set4 (cell_same (cell_set4 c1 (by simp))) (by simp)) (by simp)
  · exact cell_set4 (cell_same (cell_set4 (cell_set4 c2 (by simp)) (by simp))) (by simp)
  · exact cell_same (cell_set4 (cell_set4 (cell_set4 c3 (by simp)) (by simp)) (by simp))
set_option maxHeartbeats 12800000 in
set_option maxRecDepth 100000 in
theorem filterStep_walk (b0 b1 b2 a1 a2 : Nat) (form : Int) (fl : Bool) (a b c d x : Nat) (w : World) (wb0 : b0 < 2 ^ FloatKind.f32.format.width) (wb1 : b1 < 2 ^ FloatKind.f32.format.width) (wb2 : b2 < 2 ^ FloatKind.f32.format.width) (wa1 : a1 < 2 ^ FloatKind.f32.format.width) (wa2 : a2 < 2 ^ FloatKind.f32.format.width) (wform : (Lit.int .i64 form).wf = true) (wa : a < 2 ^ FloatKind.f32.format.width) (wb : b < 2 ^ FloatKind.f32.format.width) (wc : c < 2 ^ FloatKind.f32.format.width) (wd : d < 2 ^ FloatKind.f32.format.width) (wx : x < 2 ^ FloatKind.f32.format.width) :
    Calls Try.prog 6 #[.agg #[.float .f32 b0, .float .f32 b1, .float .f32 b2, .float .f32 a1, .float .f32 a2], .int .i64 form, .bool fl, .agg #[.float .f32 a, .float .f32 b, .float .f32 c, .float .f32 d], .float .f32 x] w fun e w' => e = .returned (.bool true) ∧ Below w.heap.size w w' := by
  have h0 := Fl.self wb0
  have h1 := Fl.self wb1
  have h2 := Fl.self wb2
  have h3 := Fl.self wa1
  have h4 := Fl.self wa2
  have ha := Fl.self wa
  have hb' := Fl.self wb
  have hc := Fl.self wc
  have hd := Fl.self wd
  have hx := Fl.self wx
  obtain ⟨Y, A, B, C, D, ok, CS, CI⟩ : ∃ Y A B C D ok, (∀ W, Calls Try.prog 22 #[.agg #[.float .f32 b0, .float .f32 b1, .float .f32 b2, .float .f32 a1, .float .f32 a2], .int .i64 form, .bool fl, .agg #[.float .f32 a, .float .f32 b, .float .f32 c, .float .f32 d], .float .f32 x] W (RYMB Y A B C D ok W)) ∧ (∀ W, Calls Try.prog 23 #[.agg #[.float .f32 b0, .float .f32 b1, .float .f32 b2, .float .f32 a1, .float .f32 a2], .int .i64 form, .bool fl, .agg #[.float .f32 a, .float .f32 b, .float .f32 c, .float .f32 d], .float .f32 x] W (RYMB Y A B C D ok W)) := ⟨_, _, _, _, _, _, fun W => spec_FilterStep W h0 h1 h2 h3 h4 ha hb' hc hd hx, fun W => impl_FilterStep W h0 h1 h2 h3 h4 ha hb' hc hd hx⟩
  clear h0 h1 h2 h3 h4 ha hb' hc hd wb0 wb1 wb2 wa1 wa2 wa wb wc wd hx wx
  have hK := RsK.start w b0 b1 b2 a1 a2 a b c d 34 24
  go_enter Try.func6, Try.ntmps6
  go_wp2_with fail
  generalize (w.alloc _).alloc _ = W0 at *
  have h0L : Loose.All [(⟨w.heap.size, 0, none⟩, .float .f32 b0), (⟨w.heap.size, 1, none⟩, .float .f32 b1), (⟨w.heap.size, 2, none⟩, .float .f32 b2), (⟨w.heap.size, 3, none⟩, .float .f32 a1), (⟨w.heap.size, 4, none⟩, .float .f32 a2), (⟨w.heap.size + 1, 0, none⟩, .float .f32 a), (⟨w.heap.size + 1, 1, none⟩, .float .f32 b), (⟨w.heap.size + 1, 2, none⟩, .float .f32 c), (⟨w.heap.size + 1, 3, none⟩, .float .f32 d)] W0 := ⟨hK.p0, hK.p1, hK.p2, hK.p3, hK.p4, hK.m0, hK.m1, hK.m2, hK.m3, trivial⟩
  refine Loose.regionL 14 11 (some 28) [(⟨w.heap.size, 0, none⟩, .float .f32 b0), (⟨w.heap.size, 1, none⟩, .float .f32 b1), (⟨w.heap.size, 2, none⟩, .float .f32 b2), (⟨w.heap.size, 3, none⟩, .float .f32 a1), (⟨w.heap.size, 4, none⟩, .float .f32 a2), (⟨w.heap.size + 1, 0, none⟩, .float .f32 a), (⟨w.heap.size + 1, 1, none⟩, .float .f32 b), (⟨w.heap.size + 1, 2, none⟩, .float .f32 c), (⟨w.heap.size + 1, 3, none⟩, .float .f32 d)] (by kernel_rfl) (by kernel_rfl) (by kernel_rfl) (by kernel_rfl) (fun _ _ _ _ h => h) h0L ?_
  simp only [List.take_succ_cons, List.take_zero, List.drop_succ_cons, List.drop_zero]
  have HK := Lib.hid hK
  clear hK
  apply Exists.intro
  repeat
    first
      | (apply Loose.skipT; exact rfl; simp only [Act.put, List.setIfInBounds_toArray, List.set_cons_zero, List.set_cons_succ])
      | (apply Loose.quietT h0L; exact rfl; exact rfl; intro K hK; go_big_quiet_op; go_big_quiet_on)
      | (apply Loose.quietT h0L; exact rfl; exact rfl; intro K hK; go_big_quiet_op; apply Exists.intro; refine ⟨fun w' hw' => ?_, ?_⟩
         · (first | exact rfl | (have l := hw'.all; simp only [Loose.All] at l; go_simp; rfl))
         go_big_quiet_on)
      | (apply Loose.fl32T; exact rfl; (intro w' hw'; apply Exists.intro; apply Exists.intro; refine ⟨?_, ?_⟩; (go_simp; exact ⟨rfl, rfl⟩); exact Fl.fr (by assumption) (by assumption) _ _); intro r_ f_; simp only [Act.put, List.setIfInBounds_toArray, List.set_cons_zero, List.set_cons_succ])
      | (apply Loose.exactT h0L; exact rfl; (intro w' hw'; first | (go_simp; rfl) | (have l := hw'.all; simp only [Loose.All] at l; go_simp; rfl)); simp only [Act.put, List.setIfInBounds_toArray, List.set_cons_zero, List.set_cons_succ])
  apply Loose.freeT (g := (fun v => v = .agg #[.float .f32 b0, .float .f32 b1, .float .f32 b2, .float .f32 a1, .float .f32 a2]))
  · exact rfl
  · intro w' hw'
    apply Loose.call hw'
    · go_simp; exact ⟨⟨rfl, rfl⟩, rfl⟩
    · rfl
    · refine (laws_toFilter _).mono ?_
      rintro e w2 ⟨rfl, hb⟩
      exact ⟨_, rfl, hb, rfl⟩
  rintro v rfl
  simp only [Act.put, List.setIfInBounds_toArray, List.set_cons_zero, List.set_cons_succ]
  repeat
    first
      | (apply Loose.skipT; exact rfl; simp only [Act.put, List.setIfInBounds_toArray, List.set_cons_zero, List.set_cons_succ])
      | (apply Loose.quietT h0L; exact rfl; exact rfl; intro K hK; go_big_quiet_op; go_big_quiet_on)
      | (apply Loose.quietT h0L; exact rfl; exact rfl; intro K hK; go_big_quiet_op; apply Exists.intro; refine ⟨fun w' hw' => ?_, ?_⟩
         · (first | exact rfl | (have l := hw'.all; simp only [Loose.All] at l; go_simp; rfl))
         go_big_quiet_on)
      | (apply Loose.fl32T; exact rfl; (intro w' hw'; apply Exists.intro; apply Exists.intro; refine ⟨?_, ?_⟩; (go_simp; exact ⟨rfl, rfl⟩); exact Fl.fr (by assumption) (by assumption) _ _); intro r_ f_; simp only [Act.put, List.setIfInBounds_toArray, List.set_cons_zero, List.set_cons_succ])
      | (apply Loose.exactT h0L; exact rfl; (intro w' hw'; first | (go_simp; rfl) | (have l := hw'.all; simp only [Loose.All] at l; go_simp; rfl)); simp only [Act.put, List.setIfInBounds_toArray, List.set_cons_zero, List.set_cons_succ])
  apply Loose.freeT (g := (fun v => v = .agg #[.float .f32 a, .float .f32 b, .float .f32 c, .float .f32 d]))
  · exact rfl
  · intro w' hw'
    apply Loose.call hw'
    · go_simp; exact ⟨⟨rfl, rfl⟩, rfl⟩
    · rfl
    · refine (laws_toMemory _).mono ?_
      rintro e w2 ⟨rfl, hb⟩
      exact ⟨_, rfl, hb, rfl⟩
  rintro v rfl
  simp only [Act.put, List.setIfInBounds_toArray, List.set_cons_zero, List.set_cons_succ]
  repeat
    first
      | (apply Loose.skipT; exact rfl; simp only [Act.put, List.setIfInBounds_toArray, List.set_cons_zero, List.set_cons_succ])
      | (apply Loose.quietT h0L; exact rfl; exact rfl; intro K hK; go_big_quiet_op; go_big_quiet_on)
      | (apply Loose.quietT h0L; exact rfl; exact rfl; intro K hK; go_big_quiet_op; apply Exists.intro; refine ⟨fun w' hw' => ?_, ?_⟩
         · (first | exact rfl | (have l := hw'.all; simp only [Loose.All] at l; go_simp; rfl))
         go_big_quiet_on)
      | (apply Loose.fl32T; exact rfl; (intro w' hw'; apply Exists.intro; apply Exists.intro; refine ⟨?_, ?_⟩; (go_simp; exact ⟨rfl, rfl⟩); exact Fl.fr (by assumption) (by assumption) _ _); intro r_ f_; simp only [Act.put, List.setIfInBounds_toArray, List.set_cons_zero, List.set_cons_succ])
      | (apply Loose.exactT h0L; exact rfl; (intro w' hw'; first | (go_simp; rfl) | (have l := hw'.all; simp only [Loose.All] at l; go_simp; rfl)); simp only [Act.put, List.setIfInBounds_toArray, List.set_cons_zero, List.set_cons_succ])
  apply Loose.freeT (g := (fun v => ∃ y n0 n1 n2 n3, v = .tuple #[.float .f32 y, .agg #[.float .f32 n0, .float .f32 n1, .float .f32 n2, .float .f32 n3], .bool ok] ∧ Fl .f32 y Y ∧ Fl .f32 n0 A ∧ Fl .f32 n1 B ∧ Fl .f32 n2 C ∧ Fl .f32 n3 D))
  · exact rfl
  · intro w' hw'
    apply Loose.call hw'
    · go_simp; exact ⟨⟨rfl, rfl⟩, rfl⟩
    · rfl
    · refine (CS _).mono ?_
      rintro e w2 ⟨y, n0, n1, n2, n3, rfl, hy, f0, f1, f2, f3, hb⟩
      exact ⟨_, rfl, hb, y, n0, n1, n2, n3, rfl, hy, f0, f1, f2, f3⟩
  rintro v ⟨y1, n10, n11, n12, n13, rfl, hy1, f10, f11, f12, f13⟩
  simp only [Act.put, List.setIfInBounds_toArray, List.set_cons_zero, List.set_cons_succ]
  repeat
    first
      | (apply Loose.skipT; exact rfl; simp only [Act.put, List.setIfInBounds_toArray, List.set_cons_zero, List.set_cons_succ])
      | (apply Loose.quietT h0L; exact rfl; exact rfl; intro K hK; go_big_quiet_op; go_big_quiet_on)
      | (apply Loose.quietT h0L; exact rfl; exact rfl; intro K hK; go_big_quiet_op; apply Exists.intro; refine ⟨fun w' hw' => ?_, ?_⟩
         · (first | exact rfl | (have l := hw'.all; simp only [Loose.All] at l; go_simp; rfl))
         go_big_quiet_on)
      | (apply Loose.fl32T; exact rfl; (intro w' hw'; apply Exists.intro; apply Exists.intro; refine ⟨?_, ?_⟩; (go_simp; exact ⟨rfl, rfl⟩); exact Fl.fr (by assumption) (by assumption) _ _); intro r_ f_; simp only [Act.put, List.setIfInBounds_toArray, List.set_cons_zero, List.set_cons_succ])
      | (apply Loose.exactT h0L; exact rfl; (intro w' hw'; first | (go_simp; rfl) | (have l := hw'.all; simp only [Loose.All] at l; go_simp; rfl)); simp only [Act.put, List.setIfInBounds_toArray, List.set_cons_zero, List.set_cons_succ])
  apply Loose.allocT (e := 26) (vs := #[.float .f32 0, .float .f32 0, .float .f32 0, .float .f32 0])
  · exact rfl
  · intro w' hw'
    go_simp
  intro q1 hq1
  simp only [Act.put, List.setIfInBounds_toArray, List.set_cons_zero, List.set_cons_succ]
  repeat
    first
      | (apply Loose.skipT; exact rfl; simp only [Act.put, List.setIfInBounds_toArray, List.set_cons_zero, List.set_cons_succ])
      | (apply Loose.quietT h0L; exact rfl; exact rfl; intro K hK; go_big_quiet_op; go_big_quiet_on)
      | (apply Loose.quietT h0L; exact rfl; exact rfl; intro K hK; go_big_quiet_op; apply Exists.intro; refine ⟨fun w' hw' => ?_, ?_⟩
         · (first | exact rfl | (have l := hw'.all; simp only [Loose.All] at l; go_simp; rfl))
         go_big_quiet_on)
      | (apply Loose.fl32T; exact rfl; (intro w' hw'; apply Exists.intro; apply Exists.intro; refine ⟨?_, ?_⟩; (go_simp; exact ⟨rfl, rfl⟩); exact Fl.fr (by assumption) (by assumption) _ _); intro r_ f_; simp only [Act.put, List.setIfInBounds_toArray, List.set_cons_zero, List.set_cons_succ])
      | (apply Loose.exactT h0L; exact rfl; (intro w' hw'; first | (go_simp; rfl) | (have l := hw'.all; simp only [Loose.All] at l; go_simp; rfl)); simp only [Act.put, List.setIfInBounds_toArray, List.set_cons_zero, List.set_cons_succ])
  apply Loose.doneT
  rintro w3 - hb3 ⟨-, hfr⟩
  have hK := HK.out.next hb3
  have hq1' : w.heap.size + 2 ≤ q1 := Nat.le_trans HK.out.sz hq1
  clear HK hb3 h0L
  obtain ⟨s0, g0⟩ := hfr.2 0 _ rfl
  obtain ⟨s1, g1⟩ := hfr.2 1 _ rfl
  obtain ⟨s2, g2⟩ := hfr.2 2 _ rfl
  obtain ⟨s3, g3⟩ := hfr.2 3 _ rfl
  have HK := Lib.hid ((((hK.put hq1' 0 (.float .f32 n10)).put hq1' 1 (.float .f32 n11)).put hq1' 2 (.float .f32 n12)).put hq1' 3 (.float .f32 n13))
  have HQ := Lib.hid (CeQ.made hfr n10 n11 n12 n13)
  clear hK hfr
  go_wp2_with fail
  clear s0 s1 s2 s3 g0 g1 g2 g3
  have HP := HK.out
  have HC := HQ.out
  clear HK HQ
  generalize World.setCell (World.setCell (World.setCell (World.setCell w3 _ _) _ _) _ _) _ _ = W1 at *
  obtain ⟨e0, e1, e2, e3, e4⟩ := HC
  have hK := HP
  have h0L : Loose.All [(⟨w.heap.size, 0, none⟩, .float .f32 b0), (⟨w.heap.size, 1, none⟩, .float .f32 b1), (⟨w.heap.size, 2, none⟩, .float .f32 b2), (⟨w.heap.size, 3, none⟩, .float .f32 a1), (⟨w.heap.size, 4, none⟩, .float .f32 a2), (⟨w.heap.size + 1, 0, none⟩, .float .f32 a), (⟨w.heap.size + 1, 1, none⟩, .float .f32 b), (⟨w.heap.size + 1, 2, none⟩, .float .f32 c), (⟨w.heap.size + 1, 3, none⟩, .float .f32 d), (⟨q1, 0, none⟩, .float .f32 n10), (⟨q1, 1, none⟩, .float .f32 n11), (⟨q1, 2, none⟩, .float .f32 n12), (⟨q1, 3, none⟩, .float .f32 n13)] W1 := ⟨hK.p0, hK.p1, hK.p2, hK.p3, hK.p4, hK.m0, hK.m1, hK.m2, hK.m3, e1, e2, e3, e4, trivial⟩
  refine Loose.regionL 14 11 (some 40) [(⟨w.heap.size, 0, none⟩, .float .f32 b0), (⟨w.heap.size, 1, none⟩, .float .f32 b1), (⟨w.heap.size, 2, none⟩, .float .f32 b2), (⟨w.heap.size, 3, none⟩, .float .f32 a1), (⟨w.heap.size, 4, none⟩, .float .f32 a2), (⟨w.heap.size + 1, 0, none⟩, .float .f32 a), (⟨w.heap.size + 1, 1, none⟩, .float .f32 b), (⟨w.heap.size + 1, 2, none⟩, .float .f32 c), (⟨w.heap.size + 1, 3, none⟩, .float .f32 d), (⟨q1, 0, none⟩, .float .f32 n10), (⟨q1, 1, none⟩, .float .f32 n11), (⟨q1, 2, none⟩, .float .f32 n12), (⟨q1, 3, none⟩, .float .f32 n13)] (by kernel_rfl) (by kernel_rfl) (by kernel_rfl) (by kernel_rfl) (fun _ _ _ _ h => h) h0L ?_
  simp only [List.take_succ_cons, List.take_zero, List.drop_succ_cons, List.drop_zero]
  have HK := Lib.hid hK
  have HQ := Lib.hid (show CeQ W1 q1 n10 n11 n12 n13 from ⟨e0, e1, e2, e3, e4⟩)
  clear hK HP e1 e2 e3 e4
  apply Exists.intro
  repeat
    first
      | (apply Loose.skipT; exact rfl; simp only [Act.put, List.setIfInBounds_toArray, List.set_cons_zero, List.set_cons_succ])
      | (apply Loose.quietT h0L; exact rfl; exact rfl; intro K hK; go_big_quiet_op; go_big_quiet_on)
      | (apply Loose.quietT h0L; exact rfl; exact rfl; intro K hK; go_big_quiet_op; apply Exists.intro; refine ⟨fun w' hw' => ?_, ?_⟩
         · (first | exact rfl | (have l := hw'.all; simp only [Loose.All] at l; go_simp; rfl))
         go_big_quiet_on)
      | (apply Loose.fl32T; exact rfl; (intro w' hw'; apply Exists.intro; apply Exists.intro; refine ⟨?_, ?_⟩; (go_simp; exact ⟨rfl, rfl⟩); exact Fl.fr (by assumption) (by assumption) _ _); intro r_ f_; simp only [Act.put, List.setIfInBounds_toArray, List.set_cons_zero, List.set_cons_succ])
      | (apply Loose.exactT h0L; exact rfl; (intro w' hw'; first | (go_simp; rfl) | (have l := hw'.all; simp only [Loose.All] at l; go_simp; rfl)); simp only [Act.put, List.setIfInBounds_toArray, List.set_cons_zero, List.set_cons_succ])
  apply Loose.freeT (g := (fun v => v = .agg #[.float .f32 b0, .float .f32 b1, .float .f32 b2, .float .f32 a1, .float .f32 a2]))
  · exact rfl
  · intro w' hw'
    apply Loose.call hw'
    · go_simp; exact ⟨⟨rfl, rfl⟩, rfl⟩
    · rfl
    · refine (laws_toFilter _).mono ?_
      rintro e w2 ⟨rfl, hb⟩
      exact ⟨_, rfl, hb, rfl⟩
  rintro v rfl
  simp only [Act.put, List.setIfInBounds_toArray, List.set_cons_zero, List.set_cons_succ]
  repeat
    first
      | (apply Loose.skipT; exact rfl; simp only [Act.put, List.setIfInBounds_toArray, List.set_cons_zero, List.set_cons_succ])
      | (apply Loose.quietT h0L; exact rfl; exact rfl; intro K hK; go_big_quiet_op; go_big_quiet_on)
      | (apply Loose.quietT h0L; exact rfl; exact rfl; intro K hK; go_big_quiet_op; apply Exists.intro; refine ⟨fun w' hw' => ?_, ?_⟩
         · (first | exact rfl | (have l := hw'.all; simp only [Loose.All] at l; go_simp; rfl))
         go_big_quiet_on)
      | (apply Loose.fl32T; exact rfl; (intro w' hw'; apply Exists.intro; apply Exists.intro; refine ⟨?_, ?_⟩; (go_simp; exact ⟨rfl, rfl⟩); exact Fl.fr (by assumption) (by assumption) _ _); intro r_ f_; simp only [Act.put, List.setIfInBounds_toArray, List.set_cons_zero, List.set_cons_succ])
      | (apply Loose.exactT h0L; exact rfl; (intro w' hw'; first | (go_simp; rfl) | (have l := hw'.all; simp only [Loose.All] at l; go_simp; rfl)); simp only [Act.put, List.setIfInBounds_toArray, List.set_cons_zero, List.set_cons_succ])
  apply Loose.freeT (g := (fun v => v = .agg #[.float .f32 a, .float .f32 b, .float .f32 c, .float .f32 d]))
  · exact rfl
  · intro w' hw'
    apply Loose.call hw'
    · go_simp; exact ⟨⟨rfl, rfl⟩, rfl⟩
    · rfl
    · refine (laws_toMemory _).mono ?_
      rintro e w2 ⟨rfl, hb⟩
      exact ⟨_, rfl, hb, rfl⟩
  rintro v rfl
  simp only [Act.put, List.setIfInBounds_toArray, List.set_cons_zero, List.set_cons_succ]
  repeat
    first
      | (apply Loose.skipT; exact rfl; simp only [Act.put, List.setIfInBounds_toArray, List.set_cons_zero, List.set_cons_succ])
      | (apply Loose.quietT h0L; exact rfl; exact rfl; intro K hK; go_big_quiet_op; go_big_quiet_on)
      | (apply Loose.quietT h0L; exact rfl; exact rfl; intro K hK; go_big_quiet_op; apply Exists.intro; refine ⟨fun w' hw' => ?_, ?_⟩
         · (first | exact rfl | (have l := hw'.all; simp only [Loose.All] at l; go_simp; rfl))
         go_big_quiet_on)
      | (apply Loose.fl32T; exact rfl; (intro w' hw'; apply Exists.intro; apply Exists.intro; refine ⟨?_, ?_⟩; (go_simp; exact ⟨rfl, rfl⟩); exact Fl.fr (by assumption) (by assumption) _ _); intro r_ f_; simp only [Act.put, List.setIfInBounds_toArray, List.set_cons_zero, List.set_cons_succ])
      | (apply Loose.exactT h0L; exact rfl; (intro w' hw'; first | (go_simp; rfl) | (have l := hw'.all; simp only [Loose.All] at l; go_simp; rfl)); simp only [Act.put, List.setIfInBounds_toArray, List.set_cons_zero, List.set_cons_succ])
  apply Loose.freeT (g := (fun v => ∃ y n0 n1 n2 n3, v = .tuple #[.float .f32 y, .agg #[.float .f32 n0, .float .f32 n1, .float .f32 n2, .float .f32 n3], .bool ok] ∧ Fl .f32 y Y ∧ Fl .f32 n0 A ∧ Fl .f32 n1 B ∧ Fl .f32 n2 C ∧ Fl .f32 n3 D))
  · exact rfl
  · intro w' hw'
    apply Loose.call hw'
    · go_simp; exact ⟨⟨rfl, rfl⟩, rfl⟩
    · rfl
    · refine (CI _).mono ?_
      rintro e w2 ⟨y, n0, n1, n2, n3, rfl, hy, f0, f1, f2, f3, hb⟩
      exact ⟨_, rfl, hb, y, n0, n1, n2, n3, rfl, hy, f0, f1, f2, f3⟩
  rintro v ⟨y2, n20, n21, n22, n23, rfl, hy2, f20, f21, f22, f23⟩
  simp only [Act.put, List.setIfInBounds_toArray, List.set_cons_zero, List.set_cons_succ]
  repeat
    first
      | (apply Loose.skipT; exact rfl; simp only [Act.put, List.setIfInBounds_toArray, List.set_cons_zero, List.set_cons_succ])
      | (apply Loose.quietT h0L; exact rfl; exact rfl; intro K hK; go_big_quiet_op; go_big_quiet_on)
      | (apply Loose.quietT h0L; exact rfl; exact rfl; intro K hK; go_big_quiet_op; apply Exists.intro; refine ⟨fun w' hw' => ?_, ?_⟩
         · (first | exact rfl | (have l := hw'.all; simp only [Loose.All] at l; go_simp; rfl))
         go_big_quiet_on)
      | (apply Loose.fl32T; exact rfl; (intro w' hw'; apply Exists.intro; apply Exists.intro; refine ⟨?_, ?_⟩; (go_simp; exact ⟨rfl, rfl⟩); exact Fl.fr (by assumption) (by assumption) _ _); intro r_ f_; simp only [Act.put, List.setIfInBounds_toArray, List.set_cons_zero, List.set_cons_succ])
      | (apply Loose.exactT h0L; exact rfl; (intro w' hw'; first | (go_simp; rfl) | (have l := hw'.all; simp only [Loose.All] at l; go_simp; rfl)); simp only [Act.put, List.setIfInBounds_toArray, List.set_cons_zero, List.set_cons_succ])
  apply Loose.allocT (e := 26) (vs := #[.float .f32 0, .float .f32 0, .float .f32 0, .float .f32 0])
  · exact rfl
  · intro w' hw'
    go_simp
  intro q2 hq2
  simp only [Act.put, List.setIfInBounds_toArray, List.set_cons_zero, List.set_cons_succ]
  repeat
    first
      | (apply Loose.skipT; exact rfl; simp only [Act.put, List.setIfInBounds_toArray, List.set_cons_zero, List.set_cons_succ])
      | (apply Loose.quietT h0L; exact rfl; exact rfl; intro K hK; go_big_quiet_op; go_big_quiet_on)
      | (apply Loose.quietT h0L; exact rfl; exact rfl; intro K hK; go_big_quiet_op; apply Exists.intro; refine ⟨fun w' hw' => ?_, ?_⟩
         · (first | exact rfl | (have l := hw'.all; simp only [Loose.All] at l; go_simp; rfl))
         go_big_quiet_on)
      | (apply Loose.fl32T; exact rfl; (intro w' hw'; apply Exists.intro; apply Exists.intro; refine ⟨?_, ?_⟩; (go_simp; exact ⟨rfl, rfl⟩); exact Fl.fr (by assumption) (by assumption) _ _); intro r_ f_; simp only [Act.put, List.setIfInBounds_toArray, List.set_cons_zero, List.set_cons_succ])
      | (apply Loose.exactT h0L; exact rfl; (intro w' hw'; first | (go_simp; rfl) | (have l := hw'.all; simp only [Loose.All] at l; go_simp; rfl)); simp only [Act.put, List.setIfInBounds_toArray, List.set_cons_zero, List.set_cons_succ])
  apply Loose.doneT
  rintro w3 - hb3 ⟨-, hfr⟩
  have hK := HK.out.next hb3
  have hQ := HQ.out.next hb3
  have hq2' : w.heap.size + 2 ≤ q2 := Nat.le_trans HK.out.sz hq2
  have hqq : q1 < q2 := Nat.lt_of_lt_of_le e0 hq2
  clear HK HQ hb3 h0L
  obtain ⟨s0, g0⟩ := hfr.2 0 _ rfl
  obtain ⟨s1, g1⟩ := hfr.2 1 _ rfl
  obtain ⟨s2, g2⟩ := hfr.2 2 _ rfl
  obtain ⟨s3, g3⟩ := hfr.2 3 _ rfl
  have HK := Lib.hid ((((hK.put hq2' 0 (.float .f32 n20)).put hq2' 1 (.float .f32 n21)).put hq2' 2 (.float .f32 n22)).put hq2' 3 (.float .f32 n23)).bel
  have HQ := Lib.hid (CeQ.made hfr n20 n21 n22 n23)
  have HR := Lib.hid ((((hQ.put hqq 0 (.float .f32 n20)).put hqq 1 (.float .f32 n21)).put hqq 2 (.float .f32 n22)).put hqq 3 (.float .f32 n23))
  clear hK hQ hfr
  go_upto_region 3 with fail
  clear s0 s1 s2 s3 g0 g1 g2 g3
  have hbel := HK.out
  have HC := HQ.out
  have HD := HR.out
  clear HK HQ HR
  generalize World.setCell (World.setCell (World.setCell (World.setCell w3 _ _) _ _) _ _) _ _ = W2 at *
  obtain ⟨-, c0, c1, c2, c3⟩ := HC
  obtain ⟨-, d0, d1, d2, d3⟩ := HD
  have HE := Lib.hid hbel
  clear hbel
  go_wp2_with fail
  refine (laws_sameFloat (hy2.cw _) (hy1.cw _) _).mono ?_
  rintro e w4 ⟨rfl, k1, rfl⟩
  go_wp2_with fail
  refine (laws_eqMemory _ f20 f21 f22 f23 f10 f11 f12 f13).mono ?_
  rintro e w5 ⟨rfl, hb5⟩
  have hfin := Lib.hid (below_next (below_drewN HE.out _) (by have := HE.out.size; simpa using this) hb5)
  clear hb5 HE c0 c1 c2 c3 d0 d1 d2 d3
  go_wp2_with fail
  go_ret
  exact ⟨rfl, hfin.out⟩
end Go.Proofs.Ytlenpecnfilkjaa
