/- The walk of the law on rests of filters. Conditions: none. -/
import Derived.Test.YtlenpecnfilkjaaH4
set_option linter.unusedVariables false
set_option linter.unusedSimpArgs false
namespace Go.Proofs.Ytlenpecnfilkjaa
open Go.RowKit
set_option maxHeartbeats 800000 in
theorem laws_toMemory {a b c d : Nat} (w : World) : Calls Try.prog 14 #[.agg #[.float .f32 a, .float .f32 b, .float .f32 c, .float .f32 d]] w (RV (.agg #[.float .f32 a, .float .f32 b, .float .f32 c, .float .f32 d]) w) := by
  go_enter Try.func14, Try.ntmps14
  go_wp2
  refine bodyPost_ret (v := .agg #[.float .f32 a, .float .f32 b, .float .f32 c, .float .f32 d]) ?_ rfl ⟨rfl, ?_⟩
  · simp [results, Try.results14, go_sem]
  · (repeat (first | exact Below.refl _ _ | (with_reducible assumption) | refine below_drewN ?_ _ | refine Below.drew ?_ | refine Below.alloc ?_ (by simp; try omega) _))
set_option maxHeartbeats 3200000 in
set_option maxRecDepth 100000 in
theorem restAfter_walk (b0 b1 b2 a1 a2 : Nat) (form : Int) (a b c d : Nat) (most : Int) (w : World) (wb0 : b0 < 2 ^ FloatKind.f32.format.width) (wb1 : b1 < 2 ^ FloatKind.f32.format.width) (wb2 : b2 < 2 ^ FloatKind.f32.format.width) (wa1 : a1 < 2 ^ FloatKind.f32.format.width) (wa2 : a2 < 2 ^ FloatKind.f32.format.width) (wform : (Lit.int .i64 form).wf = true) (wa : a < 2 ^ FloatKind.f32.format.width) (wb : b < 2 ^ FloatKind.f32.format.width) (wc : c < 2 ^ FloatKind.f32.format.width) (wd : d < 2 ^ FloatKind.f32.format.width) (wmost : (Lit.int .i64 most).wf = true) :
    Calls Try.prog 7 #[.agg #[.float .f32 b0, .float .f32 b1, .float .f32 b2, .float .f32 a1, .float .f32 a2], .int .i64 form, .agg #[.float .f32 a, .float .f32 b, .float .f32 c, .float .f32 d], .int .i64 most] w fun e w' => e = .returned (.bool true) ∧ Below w.heap.size w w' := by
  have h0 := Fl.self wb0
  have h1 := Fl.self wb1
  have h2 := Fl.self wb2
  have h3 := Fl.self wa1
  have h4 := Fl.self wa2
  have ha := Fl.self wa
  have hb' := Fl.self wb
  have hc := Fl.self wc
  have hd := Fl.self wd
  obtain ⟨R, CS, CI⟩ : ∃ R : Int × Bool, (∀ W, Calls Try.prog 26 #[.agg #[.float .f32 b0, .float .f32 b1, .float .f32 b2, .float .f32 a1, .float .f32 a2], .int .i64 form, .agg #[.float .f32 a, .float .f32 b, .float .f32 c, .float .f32 d], .int .i64 most] W (RIB R W)) ∧ (∀ W, Calls Try.prog 27 #[.agg #[.float .f32 b0, .float .f32 b1, .float .f32 b2, .float .f32 a1, .float .f32 a2], .int .i64 form, .agg #[.float .f32 a, .float .f32 b, .float .f32 c, .float .f32 d], .int .i64 most] W (RIB R W)) := ⟨_, fun W => spec_RestAfter W h0 h1 h2 h3 h4 ha hb' hc hd, fun W => impl_RestAfter W h0 h1 h2 h3 h4 ha hb' hc hd⟩
  clear h0 h1 h2 h3 h4 ha hb' hc hd wb0 wb1 wb2 wa1 wa2 wa wb wc wd
  have hK0 := RsK.start w b0 b1 b2 a1 a2 a b c d 34 24
  go_enter Try.func7, Try.ntmps7
  go_wp2_with fail
  refine Loose.regionC_of (fun W => RsK w W b0 b1 b2 a1 a2 a b c d) (by kernel_rfl) (by kernel_rfl) hK0 ?_
  intro W hK
  have h0L : Loose.All [(⟨w.heap.size, 0, none⟩, .float .f32 b0), (⟨w.heap.size, 1, none⟩, .float .f32 b1), (⟨w.heap.size, 2, none⟩, .float .f32 b2), (⟨w.heap.size, 3, none⟩, .float .f32 a1), (⟨w.heap.size, 4, none⟩, .float .f32 a2), (⟨w.heap.size + 1, 0, none⟩, .float .f32 a), (⟨w.heap.size + 1, 1, none⟩, .float .f32 b), (⟨w.heap.size + 1, 2, none⟩, .float .f32 c), (⟨w.heap.size + 1, 3, none⟩, .float .f32 d)] W := ⟨hK.p0, hK.p1, hK.p2, hK.p3, hK.p4, hK.m0, hK.m1, hK.m2, hK.m3, trivial⟩
  refine ⟨_, h0L, ?_⟩
  have HK := Lib.hid hK
  clear hK
  apply Exists.intro
  repeat
    first
      | (apply Loose.walk_skip; exact rfl; simp only [Act.put, List.setIfInBounds_toArray, List.set_cons_zero, List.set_cons_succ])
      | (apply Loose.quiet h0L; exact rfl; exact rfl; intro K hK; go_big_quiet_op; go_big_quiet_on)
      | (apply Loose.quiet h0L; exact rfl; exact rfl; intro K hK; go_big_quiet_op; apply Exists.intro; refine ⟨fun w' hw' => ?_, ?_⟩
         · (first | exact rfl | (have l := hw'.all; simp only [Loose.All] at l; go_simp; rfl))
         go_big_quiet_on)
      | (apply Loose.fl32; exact rfl; (intro w' hw'; apply Exists.intro; apply Exists.intro; refine ⟨?_, ?_⟩; (go_simp; exact ⟨rfl, rfl⟩); exact Fl.fr (by assumption) (by assumption) _ _); intro r_ f_; simp only [Act.put, List.setIfInBounds_toArray, List.set_cons_zero, List.set_cons_succ])
      | (apply Loose.exact_ h0L; exact rfl; (intro w' hw'; first | (go_simp; rfl) | (have l := hw'.all; simp only [Loose.All] at l; go_simp; rfl)); simp only [Act.put, List.setIfInBounds_toArray, List.set_cons_zero, List.set_cons_succ])
  apply Loose.free (g := (fun v => v = .agg #[.float .f32 b0, .float .f32 b1, .float .f32 b2, .float .f32 a1, .float .f32 a2]))
  · exact rfl
  · intro w' hw'
    apply Loose.call hw'
    · go_simp; exact ⟨⟨rfl, rfl⟩, rfl⟩
    · rfl
    · refine (laws_toFilter _).mono ?_
      rintro e w2 ⟨rfl, hb⟩
      exact ⟨_, rfl, hb, rfl⟩
  rintro v rfl
  simp only [Act.put, List.setIfInBounds_toArray, List.set_cons_zero, List.set_cons_succ]
  repeat
    first
      | (apply Loose.walk_skip; exact rfl; simp only [Act.put, List.setIfInBounds_toArray, List.set_cons_zero, List.set_cons_succ])
      | (apply Loose.quiet h0L; exact rfl; exact rfl; intro K hK; go_big_quiet_op; go_big_quiet_on)
      | (apply Loose.quiet h0L; exact rfl; exact rfl; intro K hK; go_big_quiet_op; apply Exists.intro; refine ⟨fun w' hw' => ?_, ?_⟩
         · (first | exact rfl | (have l := hw'.all; simp only [Loose.All] at l; go_simp; rfl))
         go_big_quiet_on)
      | (apply Loose.fl32; exact rfl; (intro w' hw'; apply Exists.intro; apply Exists.intro; refine ⟨?_, ?_⟩; (go_simp; exact ⟨rfl, rfl⟩); exact Fl.fr (by assumption) (by assumption) _ _); intro r_ f_; simp only [Act.put, List.setIfInBounds_toArray, List.set_cons_zero, List.set_cons_succ])
      | (apply Loose.exact_ h0L; exact rfl; (intro w' hw'; first | (go_simp; rfl) | (have l := hw'.all; simp only [Loose.All] at l; go_simp; rfl)); simp only [Act.put, List.setIfInBounds_toArray, List.set_cons_zero, List.set_cons_succ])
  apply Loose.free (g := (fun v => v = .agg #[.float .f32 a, .float .f32 b, .float .f32 c, .float .f32 d]))
  · exact rfl
  · intro w' hw'
    apply Loose.call hw'
    · go_simp; exact ⟨⟨rfl, rfl⟩, rfl⟩
    · rfl
    · refine (laws_toMemory _).mono ?_
      rintro e w2 ⟨rfl, hb⟩
      exact ⟨_, rfl, hb, rfl⟩
  rintro v rfl
  simp only [Act.put, List.setIfInBounds_toArray, List.set_cons_zero, List.set_cons_succ]
  repeat
    first
      | (apply Loose.walk_skip; exact rfl; simp only [Act.put, List.setIfInBounds_toArray, List.set_cons_zero, List.set_cons_succ])
      | (apply Loose.quiet h0L; exact rfl; exact rfl; intro K hK; go_big_quiet_op; go_big_quiet_on)
      | (apply Loose.quiet h0L; exact rfl; exact rfl; intro K hK; go_big_quiet_op; apply Exists.intro; refine ⟨fun w' hw' => ?_, ?_⟩
         · (first | exact rfl | (have l := hw'.all; simp only [Loose.All] at l; go_simp; rfl))
         go_big_quiet_on)
      | (apply Loose.fl32; exact rfl; (intro w' hw'; apply Exists.intro; apply Exists.intro; refine ⟨?_, ?_⟩; (go_simp; exact ⟨rfl, rfl⟩); exact Fl.fr (by assumption) (by assumption) _ _); intro r_ f_; simp only [Act.put, List.setIfInBounds_toArray, List.set_cons_zero, List.set_cons_succ])
      | (apply Loose.exact_ h0L; exact rfl; (intro w' hw'; first | (go_simp; rfl) | (have l := hw'.all; simp only [Loose.All] at l; go_simp; rfl)); simp only [Act.put, List.setIfInBounds_toArray, List.set_cons_zero, List.set_cons_succ])
  apply Loose.free (g := (fun v => v = .tuple #[.int .i64 R.1, .bool R.2]))
  · exact rfl
  · intro w' hw'
    apply Loose.call hw'
    · go_simp; exact ⟨⟨rfl, rfl⟩, rfl⟩
    · rfl
    · refine (CS _).mono ?_
      rintro e w2 ⟨rfl, hb⟩
      exact ⟨_, rfl, hb, rfl⟩
  rintro v rfl
  simp only [Act.put, List.setIfInBounds_toArray, List.set_cons_zero, List.set_cons_succ]
  repeat
    first
      | (apply Loose.walk_skip; exact rfl; simp only [Act.put, List.setIfInBounds_toArray, List.set_cons_zero, List.set_cons_succ])
      | (apply Loose.quiet h0L; exact rfl; exact rfl; intro K hK; go_big_quiet_op; go_big_quiet_on)
      | (apply Loose.quiet h0L; exact rfl; exact rfl; intro K hK; go_big_quiet_op; apply Exists.intro; refine ⟨fun w' hw' => ?_, ?_⟩
         · (first | exact rfl | (have l := hw'.all; simp only [Loose.All] at l; go_simp; rfl))
         go_big_quiet_on)
      | (apply Loose.fl32; exact rfl; (intro w' hw'; apply Exists.intro; apply Exists.intro; refine ⟨?_, ?_⟩; (go_simp; exact ⟨rfl, rfl⟩); exact Fl.fr (by assumption) (by assumption) _ _); intro r_ f_; simp only [Act.put, List.setIfInBounds_toArray, List.set_cons_zero, List.set_cons_succ])
      | (apply Loose.exact_ h0L; exact rfl; (intro w' hw'; first | (go_simp; rfl) | (have l := hw'.all; simp only [Loose.All] at l; go_simp; rfl)); simp only [Act.put, List.setIfInBounds_toArray, List.set_cons_zero, List.set_cons_succ])
  apply Loose.done
  rintro w3 - hb3 -
  have hK := HK.out.next hb3
  clear HK hb3 h0L
  go_wp2_with fail
  refine Loose.regionC_of (fun W => RsK w W b0 b1 b2 a1 a2 a b c d) (by kernel_rfl) (by kernel_rfl) hK ?_
  intro W hK
  have h0L : Loose.All [(⟨w.heap.size, 0, none⟩, .float .f32 b0), (⟨w.heap.size, 1, none⟩, .float .f32 b1), (⟨w.heap.size, 2, none⟩, .float .f32 b2), (⟨w.heap.size, 3, none⟩, .float .f32 a1), (⟨w.heap.size, 4, none⟩, .float .f32 a2), (⟨w.heap.size + 1, 0, none⟩, .float .f32 a), (⟨w.heap.size + 1, 1, none⟩, .float .f32 b), (⟨w.heap.size + 1, 2, none⟩, .float .f32 c), (⟨w.heap.size + 1, 3, none⟩, .float .f32 d)] W := ⟨hK.p0, hK.p1, hK.p2, hK.p3, hK.p4, hK.m0, hK.m1, hK.m2, hK.m3, trivial⟩
  refine ⟨_, h0L, ?_⟩
  have HK := Lib.hid hK
  clear hK
  apply Exists.intro
  repeat
    first
      | (apply Loose.walk_skip; exact rfl; simp only [Act.put, List.setIfInBounds_toArray, List.set_cons_zero, List.set_cons_succ])
      | (apply Loose.quiet h0L; exact rfl; exact rfl; intro K hK; go_big_quiet_op; go_big_quiet_on)
      | (apply Loose.quiet h0L; exact rfl; exact rfl; intro K hK; go_big_quiet_op; apply Exists.intro; refine ⟨fun w' hw' => ?_, ?_⟩
         · (first | exact rfl | (have l := hw'.all; simp only [Loose.All] at l; go_simp; rfl))
         go_big_quiet_on)
      | (apply Loose.fl32; exact rfl; (intro w' hw'; apply Exists.intro; apply Exists.intro; refine ⟨?_, ?_⟩; (go_simp; exact ⟨rfl, rfl⟩); exact Fl.fr (by assumption) (by assumption) _ _); intro r_ f_; simp only [Act.put, List.setIfInBounds_toArray, List.set_cons_zero, List.set_cons_succ])
      | (apply Loose.exact_ h0L; exact rfl; (intro w' hw'; first | (go_simp; rfl) | (have l := hw'.all; simp only [Loose.All] at l; go_simp; rfl)); simp only [Act.put, List.setIfInBounds_toArray, List.set_cons_zero, List.set_cons_succ])
  apply Loose.free (g := (fun v => v = .agg #[.float .f32 b0, .float .f32 b1, .float .f32 b2, .float .f32 a1, .float .f32 a2]))
  · exact rfl
  · intro w' hw'
    apply Loose.call hw'
    · go_simp; exact ⟨⟨rfl, rfl⟩, rfl⟩
    · rfl
    · refine (laws_toFilter _).mono ?_
      rintro e w2 ⟨rfl, hb⟩
      exact ⟨_, rfl, hb, rfl⟩
  rintro v rfl
  simp only [Act.put, List.setIfInBounds_toArray, List.set_cons_zero, List.set_cons_succ]
  repeat
    first
      | (apply Loose.walk_skip; exact rfl; simp only [Act.put, List.setIfInBounds_toArray, List.set_cons_zero, List.set_cons_succ])
      | (apply Loose.quiet h0L; exact rfl; exact rfl; intro K hK; go_big_quiet_op; go_big_quiet_on)
      | (apply Loose.quiet h0L; exact rfl; exact rfl; intro K hK; go_big_quiet_op; apply Exists.intro; refine ⟨fun w' hw' => ?_, ?_⟩
         · (first | exact rfl | (have l := hw'.all; simp only [Loose.All] at l; go_simp; rfl))
         go_big_quiet_on)
      | (apply Loose.fl32; exact rfl; (intro w' hw'; apply Exists.intro; apply Exists.intro; refine ⟨?_, ?_⟩; (go_simp; exact ⟨rfl, rfl⟩); exact Fl.fr (by assumption) (by assumption) _ _); intro r_ f_; simp only [Act.put, List.setIfInBounds_toArray, List.set_cons_zero, List.set_cons_succ])
      | (apply Loose.exact_ h0L; exact rfl; (intro w' hw'; first | (go_simp; rfl) | (have l := hw'.all; simp only [Loose.All] at l; go_simp; rfl)); simp only [Act.put, List.setIfInBounds_toArray, List.set_cons_zero, List.set_cons_succ])
  apply Loose.free (g := (fun v => v = .agg #[.float .f32 a, .float .f32 b, .float .f32 c, .float .f32 d]))
  · exact rfl
  · intro w' hw'
    apply Loose.call hw'
    · go_simp; exact ⟨⟨rfl, rfl⟩, rfl⟩
    · rfl
    · refine (laws_toMemory _).mono ?_
      rintro e w2 ⟨rfl, hb⟩
      exact ⟨_, rfl, hb, rfl⟩
  rintro v rfl
  simp only [Act.put, List.setIfInBounds_toArray, List.set_cons_zero, List.set_cons_succ]
  repeat
    first
      | (apply Loose.walk_skip; exact rfl; simp only [Act.put, List.setIfInBounds_toArray, List.set_cons_zero, List.set_cons_succ])
      | (apply Loose.quiet h0L; exact rfl; exact rfl; intro K hK; go_big_quiet_op; go_big_quiet_on)
      | (apply Loose.quiet h0L; exact rfl; exact rfl; intro K hK; go_big_quiet_op; apply Exists.intro; refine ⟨fun w' hw' => ?_, ?_⟩
         · (first | exact rfl | (have l := hw'.all; simp only [Loose.All] at l; go_simp; rfl))
         go_big_quiet_on)
      | (apply Loose.fl32; exact rfl; (intro w' hw'; apply Exists.intro; apply Exists.intro; refine ⟨?_, ?_⟩; (go_simp; exact ⟨rfl, rfl⟩); exact Fl.fr (by assumption) (by assumption) _ _); intro r_ f_; simp only [Act.put, List.setIfInBounds_toArray, List.set_cons_zero, List.set_cons_succ])
      | (apply Loose.exact_ h0L; exact rfl; (intro w' hw'; first | (go_simp; rfl) | (have l := hw'.all; simp only [Loose.All] at l; go_simp; rfl)); simp only [Act.put, List.setIfInBounds_toArray, List.set_cons_zero, List.set_cons_succ])
  apply Loose.free (g := (fun v => v = .tuple #[.int .i64 R.1, .bool R.2]))
  · exact rfl
  · intro w' hw'
    apply Loose.call hw'
    · go_simp; exact ⟨⟨rfl, rfl⟩, rfl⟩
    · rfl
    · refine (CI _).mono ?_
      rintro e w2 ⟨rfl, hb⟩
      exact ⟨_, rfl, hb, rfl⟩
  rintro v rfl
  simp only [Act.put, List.setIfInBounds_toArray, List.set_cons_zero, List.set_cons_succ]
  repeat
    first
      | (apply Loose.walk_skip; exact rfl; simp only [Act.put, List.setIfInBounds_toArray, List.set_cons_zero, List.set_cons_succ])
      | (apply Loose.quiet h0L; exact rfl; exact rfl; intro K hK; go_big_quiet_op; go_big_quiet_on)
      | (apply Loose.quiet h0L; exact rfl; exact rfl; intro K hK; go_big_quiet_op; apply Exists.intro; refine ⟨fun w' hw' => ?_, ?_⟩
         · (first | exact rfl | (have l := hw'.all; simp only [Loose.All] at l; go_simp; rfl))
         go_big_quiet_on)
      | (apply Loose.fl32; exact rfl; (intro w' hw'; apply Exists.intro; apply Exists.intro; refine ⟨?_, ?_⟩; (go_simp; exact ⟨rfl, rfl⟩); exact Fl.fr (by assumption) (by assumption) _ _); intro r_ f_; simp only [Act.put, List.setIfInBounds_toArray, List.set_cons_zero, List.set_cons_succ])
      | (apply Loose.exact_ h0L; exact rfl; (intro w' hw'; first | (go_simp; rfl) | (have l := hw'.all; simp only [Loose.All] at l; go_simp; rfl)); simp only [Act.put, List.setIfInBounds_toArray, List.set_cons_zero, List.set_cons_succ])
  apply Loose.done
  rintro w3 - hb3 -
  have hK := HK.out.next hb3
  clear HK hb3 h0L
  go_wp2
  go_ret
  exact ⟨rfl, hK.bel⟩
end Go.Proofs.Ytlenpecnfilkjaa
