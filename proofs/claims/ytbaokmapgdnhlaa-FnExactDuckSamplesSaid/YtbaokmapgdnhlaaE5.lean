/- Squeezes: the program. Conditions: none beside the contracts' own. -/
import Derived.Test.YtbaokmapgdnhlaaE4
set_option linter.unusedVariables false
set_option linter.unusedSimpArgs false
namespace Go.Proofs.Ytbaokmapgdnhlaa
open Go.RowKit
set_option maxHeartbeats 3200000 in
set_option maxRecDepth 100000 in
theorem impl_DuckSamples {a r l t u : Nat} {Ac R L T U : Option Nat} {A B : Option Addr} {n c m d : Nat} {xs ys : List Nat} (w : World) (ha : Fl .f32 a Ac) (hr : Fl .f32 r R) (hl : Fl .f32 l L) (ht : Fl .f32 t T) (hu : Fl .f32 u U) (h : Rd w A n xs) (hn : n ≤ 1048576) (h' : Rd w B m ys) (hm : m ≤ 1048576) :
    Calls Try.prog 45 #[.agg #[.float .f32 a, .float .f32 r, .float .f32 l, .float .f32 t, .float .f32 u], .slice A n c, .slice B m d] w (RSQ (duckNC n m Ac R L T U (clss xs) (clss ys)) (duckOk n m) w) := by
  have hal := fun o o' => ((Below.refl _ w).alloc (Nat.le_refl _) o).alloc (by simp) o'
  unfold duckNC
  cases hf : duckOk n m <;> simp only [Bool.false_eq_true, if_true, if_false]
  · rcases duck_not hf with h1 | ⟨h1, h2⟩
    all_goals
      clear hf
      go_enter Try.func45, Try.ntmps45
      go_wp2_with (go_at_call 61; refine (impl_areSamples hn _).mono ?_; rintro e w' ⟨rfl, rfl⟩)
      refine bodyPost_ret (v := .tuple #[.slice none 0 0, .agg #[.float .f32 0, .float .f32 0, .float .f32 0, .float .f32 0, .float .f32 0], .bool false]) ?_ rfl ⟨_, [], _, _, _, _, _, rfl, .nil _ _ _, rfl, by simp, zero_fl, zero_fl, zero_fl, zero_fl, zero_fl, hal _ _⟩
      simp [results, Try.results45, go_sem]
  · obtain ⟨h1, rfl⟩ := duck_ok hf
    clear hf
    obtain ⟨Wb, hWb⟩ : ∃ W, W = (w.alloc (.cells #[.float .f32 a, .float .f32 r, .float .f32 l, .float .f32 t, .float .f32 u] 68)).alloc (.cells #[.float .f32 0, .float .f32 0, .float .f32 0, .float .f32 0, .float .f32 0] 68) := ⟨_, rfl⟩
    have hB0 : Below w.heap.size w Wb := by rw [hWb]; exact hal _ _
    have hzb : Wb.heap.size = w.heap.size + 2 := by rw [hWb]; simp
    have hF0 : SqI w Wb a r l t u := by
      rw [hWb]
      refine ⟨?_, ?_, ?_, ?_, ?_, ?_, ?_, ?_, ?_, ?_, ?_, ?_, ?_, ?_, ?_, ?_⟩ <;> simp [go_sem]
    have HX := Lib.hid h.len
    have HY := Lib.hid h'.len
    go_enter Try.func45, Try.ntmps45
    go_wp2_with fail
    rw [← hWb]
    clear hWb hal
    go_wp2_with (go_at_call 61; refine (impl_areSamples hn _).mono ?_; rintro e w' ⟨rfl, rfl⟩)
    clear h1
    go_loopw [9, 25] (fun v i w' => ∃ k zs lv, k ≤ m ∧ i = .int .i64 (k : Nat) ∧ Of w' Wb.heap.size v zs ∧ SqI w w' a r lv t u ∧ Fl .f32 lv (sqzT Ac R L T U (((clss xs).zip (clss ys)).take k)).1 ∧ Hid (clss zs = (sqzT Ac R L T U (((clss xs).zip (clss ys)).take k)).2) ∧ Wb.heap.size ≤ w'.heap.size ∧ Below w.heap.size w w') (fun _ i _ => m - (intOf i).toNat)
    case atStart => exact ⟨0, [], l, Nat.zero_le _, rfl, .nil _ _ _, hF0, hl, Lib.hid rfl, Nat.le_refl _, hB0⟩
    case round =>
      obtain ⟨k, zs, lv, hk, rfl, ho, hF, hlv, hz, hsz, hb⟩ := hrel
      by_cases hlt : k < m
      · obtain ⟨ad, x, X, rfl, hc, hx, hxk, hX⟩ := (h.below hb).at_ hlt
        obtain ⟨bd, y, Y, rfl, hd, hy, hyk, hY⟩ := (h'.below hb).at_ hlt
        have hzl := len_of hz.out (m := 1048576) (by rw [sqzT_len, List.length_take]; omega)
        have hst : sqzT Ac R L T U (((clss xs).zip (clss ys)).take (k + 1)) = sqzS Ac R T U (sqzT Ac R L T U (((clss xs).zip (clss ys)).take k)) (X, Y) := by rw [zip_snoc hX hY, sqzT_snoc]
        have HS := Lib.hid hst
        clear hst hX hY h h' hxk hyk
        obtain ⟨e0, e1, e2, e3, e4, f2, -, -, -, -, -, -, -, -, -, -⟩ := id hF
        go_wp2_with fail
        refine (impl_Follower_step _ ha hr hlv hy e0 e1 e2 f2).mono ?_
        rintro e W2 ⟨rfl, z, q, hz2, hW2⟩
        have hF2 : SqI w W2 a r z t u := by rw [hW2]; exact (hF.set (y := z)).drewN _
        have ho2 := (ho.put (a := ⟨w.heap.size, 2, none⟩) (by simp; omega) (.float .f32 z)).drewN q
        rw [← hW2] at ho2
        have hb2 : Below w.heap.size w W2 := by rw [hW2]; exact below_drewN (hb.setCell (by simp) _) _
        have hsz2 : Wb.heap.size ≤ W2.heap.size := by rw [hW2]; simpa using hsz
        clear hW2 hF ho hb hsz e0 e1 e2 e3 e4 f2 hc hd hlv
        obtain ⟨e0, e1, e2, e3, e4, f2, -, -, -, -, -, -, -, -, -, -⟩ := id hF2
        go_wp2_with fail
        refine (impl_GainFor hz2 ht hu _).mono ?_
        rintro e w4 ⟨g, q4, rfl, hg, hw4⟩
        have hF3 := hF2.drewN q4
        have ho3 := ho2.drewN q4
        have hb3 := below_drewN hb2 q4
        have hsz3 : Wb.heap.size ≤ (W2.drewN q4).heap.size := hsz2
        rw [← hw4] at hF3 ho3 hb3 hsz3
        clear hw4 hF2 ho2 hb2 hsz2 e0 e1 e2 e3 e4 f2
        have HFL := Lib.hid (fun W => hx.fr hg .mul W)
        go_wp2_with (at_builtin; refine ap_float (w0 := w4) Wb.heap.size rfl _ _ 25 22 rfl Try.underlying25 info_f32 _ zs _ rfl rfl (by exact ho3.drewN _) (HFL.out _).wf (below_drewN (Below.refl _ _) _) (by simpa using hsz3) (by omega) ?_; intro v1 w3 ho4 hb4 hg4 hat)
        have hF4 := (hF3.drewN _).grown hg4 (by simp; omega) (fun j e => by have := ho3.base j e; omega)
        have hb5 := (below_drewN hb3 _).grown hg4 (by simp; omega) (fun j e => by have := ho3.base j e; omega)
        have hs5 := hg4.size
        refine ⟨⟨k + 1, _, z, by omega, by go_num, ho4, hF4, ?_, Lib.hid ?_, Nat.le_trans hsz3 (by simpa using hs5), hb5⟩, by simp [intOf]; omega⟩
        · rw [HS.out]; exact hz2
        · rw [HS.out, sqzS]; dsimp only; rw [← hz.out]; exact clss_push rfl (HFL.out _)
      · obtain ⟨A7, c7, rfl⟩ := ho.shape
        have hz1 := hz.out
        rw [zip_all HX.out HY.out hk hlt] at hz1 hlv
        have HZ := Lib.hid hz1
        clear hz1 hz hF0
        go_wp2_with fail
        have HF := Lib.hid hF
        have HO := Lib.hid ho
        have h0L : Loose.All [(⟨w.heap.size, 0, none⟩, .float .f32 a), (⟨w.heap.size, 1, none⟩, .float .f32 r), (⟨w.heap.size, 2, none⟩, .float .f32 lv), (⟨w.heap.size, 3, none⟩, .float .f32 t), (⟨w.heap.size, 4, none⟩, .float .f32 u)] _ := ⟨hF.c0, hF.c1, hF.c2, hF.c3, hF.c4, trivial⟩
        refine Loose.regionT 3 [(⟨w.heap.size, 0, none⟩, .float .f32 a), (⟨w.heap.size, 1, none⟩, .float .f32 r), (⟨w.heap.size, 2, none⟩, .float .f32 lv), (⟨w.heap.size, 3, none⟩, .float .f32 t), (⟨w.heap.size, 4, none⟩, .float .f32 u)] (by kernel_rfl) (by kernel_rfl) h0L ?_
        simp only [List.take_succ_cons, List.take_zero, List.drop_succ_cons, List.drop_zero]
        clear hF ho
        apply Exists.intro
        repeat
          first
            | (apply Loose.skipT; exact rfl; simp only [Act.put, List.setIfInBounds_toArray, List.set_cons_zero, List.set_cons_succ])
            | (apply Loose.quietT h0L; exact rfl; exact rfl; intro K hK; go_big_quiet_op; go_big_quiet_on)
            | (apply Loose.quietT h0L; exact rfl; exact rfl; intro K hK; go_big_quiet_op; apply Exists.intro; refine ⟨fun w' hw' => ?_, ?_⟩
               · (first | exact rfl | (have l := hw'.all; simp only [Loose.All] at l; go_simp; rfl))
               go_big_quiet_on)
            | (apply Loose.fl32T; exact rfl; (intro w' hw'; apply Exists.intro; apply Exists.intro; refine ⟨?_, ?_⟩; (go_simp; exact ⟨rfl, rfl⟩); exact Fl.fr (by assumption) (by assumption) _ _); intro r_ f_; simp only [Act.put, List.setIfInBounds_toArray, List.set_cons_zero, List.set_cons_succ])
            | (apply Loose.exactT h0L; exact rfl; (intro w' hw'; first | (go_simp; rfl) | (have l := hw'.all; simp only [Loose.All] at l; go_simp; rfl)); simp only [Act.put, List.setIfInBounds_toArray, List.set_cons_zero, List.set_cons_succ])
        apply Loose.doneT
        rintro w3 - hb3 -
        obtain ⟨-, -, -, -, -, -, r0, r1, r2, r3, r4, g0, g1, g2, g3, g4⟩ := HF.out.below hb3 (by omega)
        have ho := HO.out.below hb3
        replace hb := below_next hb (by omega) hb3
        clear HF HO h0L hb3
        go_wp2
        refine bodyPost_ret (v := .tuple #[.slice A7 zs.length c7, .agg #[.float .f32 a, .float .f32 r, .float .f32 lv, .float .f32 t, .float .f32 u], .bool true]) ?_ rfl ⟨_, _, _, _, _, _, _, rfl, ?_, HZ.out, len_of HZ.out (by rw [sqzT_len, List.length_zip, clss_length, HX.out]; omega), ha, hr, hlv, ht, hu, ((((hb.setCell (by simp) _).setCell (by simp) _).setCell (by simp) _).setCell (by simp) _).setCell (by simp) _⟩
        · simp [results, Try.results45, go_sem, r0, r1, r2, r3, r4]
        · exact (((((ho.put (by simp; omega) _).put (by simp; omega) _).put (by simp; omega) _).put (by simp; omega) _).put (by simp; omega) _).low (by omega)
set_option maxHeartbeats 3200000 in
set_option maxRecDepth 100000 in
theorem impl_RunSqueeze {a r l t u : Nat} {Ac R L T U : Option Nat} {A : Option Addr} {n c : Nat} {xs : List Nat} (w : World) (ha : Fl .f32 a Ac) (hr : Fl .f32 r R) (hl : Fl .f32 l L) (ht : Fl .f32 t T) (hu : Fl .f32 u U) (h : Rd w A n xs) (hn : n ≤ 1048576) :
    Calls Try.prog 42 #[.agg #[.float .f32 a, .float .f32 r, .float .f32 l, .float .f32 t, .float .f32 u], .slice A n c] w (RSQ (sqNC n Ac R L T U (clss xs)) (few n) w) := by
  have hal := fun o o' => ((Below.refl _ w).alloc (Nat.le_refl _) o).alloc (by simp) o'
  obtain ⟨Wb, hWb⟩ : ∃ W, W = (w.alloc (.cells #[.float .f32 a, .float .f32 r, .float .f32 l, .float .f32 t, .float .f32 u] 68)).alloc (.cells #[.float .f32 0, .float .f32 0, .float .f32 0, .float .f32 0, .float .f32 0] 68) := ⟨_, rfl⟩
  have hB0 : Below w.heap.size w Wb := by rw [hWb]; exact hal _ _
  have hzb : Wb.heap.size = w.heap.size + 2 := by rw [hWb]; simp
  have hF0 : SqI w Wb a r l t u := by
    rw [hWb]
    refine ⟨?_, ?_, ?_, ?_, ?_, ?_, ?_, ?_, ?_, ?_, ?_, ?_, ?_, ?_, ?_, ?_⟩ <;> simp [go_sem]
  obtain ⟨e0, e1, e2, e3, e4, -, -, -, -, -, -, -, -, -, -, -⟩ := id hF0
  have CD : ∀ W, Below w.heap.size w W → Calls Try.prog 45 #[.agg #[.float .f32 a, .float .f32 r, .float .f32 l, .float .f32 t, .float .f32 u], .slice A n c, .slice A n c] W (RSQ (sqNC n Ac R L T U (clss xs)) (few n) W) := fun W hb => by
    have := impl_DuckSamples (c := c) (d := c) W ha hr hl ht hu (h.below hb) hn (h.below hb) hn
    rwa [(duck_self n Ac R L T U (clss xs)).1, (duck_self n Ac R L T U (clss xs)).2] at this
  have HF := Lib.hid hF0
  clear h hF0
  go_enter Try.func42, Try.ntmps42
  go_wp2_with fail
  rw [← hWb]
  clear hWb hal
  go_wp2_with fail
  refine (CD _ hB0).mono ?_
  rintro e w1 ⟨v, zs, m0, m1, m2, m3, m4, rfl, ho, hz, hzl, f0, f1, f2, f3, f4, hb1⟩
  obtain ⟨-, -, -, -, -, -, r0, r1, r2, r3, r4, g0, g1, g2, g3, g4⟩ := HF.out.below hb1 (by omega)
  have hbel := Lib.hid (below_next hB0 (by omega) hb1)
  have HZ := Lib.hid hz
  clear HF e0 e1 e2 e3 e4 hB0 hb1 hz CD
  go_wp2
  refine bodyPost_ret (v := .tuple #[v, .agg #[.float .f32 m0, .float .f32 m1, .float .f32 m2, .float .f32 m3, .float .f32 m4], .bool (few n)]) ?_ rfl ⟨_, _, _, _, _, _, _, rfl, ?_, HZ.out, hzl, f0, f1, f2, f3, f4, ((((hbel.out.setCell (by simp) _).setCell (by simp) _).setCell (by simp) _).setCell (by simp) _).setCell (by simp) _⟩
  · simp [results, Try.results42, go_sem, r0, r1, r2, r3, r4]
  · exact (((((ho.put (by simp; omega) _).put (by simp; omega) _).put (by simp; omega) _).put (by simp; omega) _).put (by simp; omega) _).low (by omega)
end Go.Proofs.Ytbaokmapgdnhlaa
