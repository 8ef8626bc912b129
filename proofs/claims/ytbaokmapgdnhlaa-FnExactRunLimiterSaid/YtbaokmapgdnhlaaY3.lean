/- Limiters: the program. Conditions: none beside the contracts' own. -/
import Derived.Test.YtbaokmapgdnhlaaY2
set_option linter.unusedVariables false
set_option linter.unusedSimpArgs false
namespace Go.Proofs.Ytbaokmapgdnhlaa
open Go.RowKit
set_option maxHeartbeats 6400000 in
set_option maxRecDepth 100000 in
theorem impl_RunLimiter {l r g : Nat} {L R G : Option Nat} {A A' : Option Addr} {n m c c' : Nat} {xs ys : List Nat} (w : World) (hl : Fl .f32 l L) (hr : Fl .f32 r R) (hg : Fl .f32 g G) (h : Rd w A n xs) (hn : n ≤ 1048576) (h' : Rd w A' m ys) (hm : m ≤ 1048576) :
    Calls Try.prog 49 #[.agg #[.float .f32 l, .float .f32 r, .float .f32 g, .slice A n c], .slice A' m c'] w (RLim (limRes n m L R G (clss xs) (clss ys)) (limRunOk n m L) w) := by
  have hal := fun o o' => ((Below.refl _ w).alloc (Nat.le_refl _) o).alloc (by simp) o'
  have hK : LmK w ((w.alloc (.cells #[.float .f32 l, .float .f32 r, .float .f32 g, .slice A n c] 79)).alloc (.cells #[.float .f32 0, .float .f32 0, .float .f32 0, .slice none 0 0] 79)) [.float .f32 l, .float .f32 r, .float .f32 g, .slice A n c] [.float .f32 0, .float .f32 0, .float .f32 0, .slice none 0 0] := LmK.start w _ _ _ _
  have hok : limRunOk n m L = ((few m && limitC L) && decide (n ≤ 64)) := rfl
  cases c1 : few m <;> cases c2 : limitC L <;> simp only [c1, c2, Bool.and_true, Bool.true_and, Bool.and_false, Bool.false_and] at hok
  case true.true =>
    by_cases h64 : n ≤ 64
    · rw [decide_eq_true h64] at hok
      have hne : ¬ ((64 : Int) < (n : Int)) := by omega
      have HOK := Lib.hid hok
      have HRS := Lib.hid (limRes_yes (R := R) (G := G) (A := clss xs) (X := clss ys) hok)
      have HX := Lib.hid h.len
      have HY := Lib.hid h'.len
      clear hok
      go_enter Try.func49, Try.ntmps49
      go_wp2_with fail
      generalize World.alloc (World.alloc w _) _ = W0 at *
      have hp0 := hK.cp 0 _ rfl
      have hp3 := hK.cp 3 _ rfl
      go_wp2_with (first | (go_at_call 61; refine (impl_areSamples hm _).mono ?_; rintro e w' ⟨rfl, rfl⟩) | (go_at_call 90; refine (impl_isLimit hl _).mono ?_; rintro e w' ⟨rfl, q, rfl⟩))
      refine (impl_copyNumbers _ (h.below (below_drewN hK.bel _)) hn).mono ?_
      rintro e w1 ⟨v0, rfl, ho0, hb1⟩
      obtain ⟨A1, c1', rfl⟩ := ho0.shape_n HX.out
      have hz0 : w.heap.size + 2 ≤ (W0.drewN q).heap.size := hK.sz
      have hF0 : LmK w w1 [.float .f32 l, .float .f32 r, .float .f32 g, .slice A n c] [.float .f32 0, .float .f32 0, .float .f32 0, .slice none 0 0] := (hK.drewN q).below hb1
      have ho1 := Lib.hid ((ho0.low hz0).put (a := ⟨w.heap.size, 3, none⟩) (by simp) (.slice A1 n c1'))
      have hF1 := Lib.hid (hF0.set 3 (.slice A1 n c1') (by simp))
      have q3 := hF0.fp 3
      have p3 := hF0.cp 3 _ rfl
      clear hK hp0 hp3 hal c1 c2 hne hz0 hF0 ho0 hb1
      go_upto_region 4 with fail
      generalize World.setCell w1 _ _ = W1 at *
      clear q3 p3
      go_wp2_with fail
      go_loopw [7, 36] (fun v i w' => ∃ k ls zs gg A1 c1 V VS, k ≤ m ∧ i = .int .i64 (k : Nat) ∧ Of w' (w.heap.size + 2) v zs ∧ Of w' (w.heap.size + 2) V VS ∧ (v.ownBlock = none ∨ v.ownBlock ≠ V.ownBlock) ∧ LmK w w' [.float .f32 l, .float .f32 r, .float .f32 gg, .slice A1 n c1] [.float .f32 0, .float .f32 0, .float .f32 0, .slice none 0 0] ∧ Fl .f32 gg (limT L R G (clss xs) ((clss ys).take k)).1 ∧ Hid (∀ W, Of W (w.heap.size + 2) V VS → Rd W A1 n ls) ∧ Hid (clss ls = (limT L R G (clss xs) ((clss ys).take k)).2.1 ∧ clss zs = (limT L R G (clss xs) ((clss ys).take k)).2.2 ∧ ls.length = n)) (fun _ i _ => m - (intOf i).toNat)
      case atStart => exact ⟨0, xs, [], g, A1, c1', _, _, Nat.zero_le _, rfl, .nil _ _ _, ho1.out, .inl rfl, hF1.out, hg, Lib.hid (fun W e => e.rd HX.out), Lib.hid ⟨rfl, rfl, HX.out⟩⟩
      case round =>
        clear ho1 hF1
        obtain ⟨k, ls, zs, gg, A1, c1, V, VS, hk, rfl, hv, hV, hap, hF, hgg, HR, hz⟩ := hrel
        by_cases hlt : k < m
        · obtain ⟨ad, x, X, rfl, hc, hx, hxk, hX⟩ := (h'.below hF.bel).at_ hlt
          have HS := Lib.hid (show limT L R G (clss xs) ((clss ys).take (k + 1)) = limS L R (limT L R G (clss xs) ((clss ys).take k)) X by rw [clss_snoc hX, limT_snoc])
          have HLS := Lib.hid hz.out.2.2
          have HL1 := Lib.hid (show (ls ++ [x]).length = n + 1 by rw [List.length_append, hz.out.2.2]; rfl)
          have HALL := Lib.hid (show (limT L R G (clss xs) ((clss ys).take k)).2.1 ++ [X] = clss (ls ++ [x]) by rw [← hz.out.1, clss_push rfl hx])
          have hsz := hF.sz
          replace hz := Lib.hid (show True ∧ clss zs = (limT L R G (clss xs) ((clss ys).take k)).2.2 from ⟨trivial, hz.out.2.1⟩)
          have p3 := hF.cp 3 _ rfl
          clear hX h h' hxk hap
          go_wp2_with fail
          refine (impl_copyNumbers _ (HR.out _ hV) hn).mono ?_
          rintro e w0 ⟨v0, rfl, ho0, hb0⟩
          clear hc p3 HR
          go_wp2_with (at_builtin; refine ap_float (w0 := wr) wr.heap.size rfl _ _ 25 22 rfl Try.underlying25 info_f32 _ ls x rfl rfl (by exact ho0) hx.wf (by exact hb0) (by exact hb0.size) (by rw [HLS.out]; omega) ?_; intro a1 w1 ho1 hb1 hg1 hat1; obtain ⟨A2, d2, rfl⟩ := ho1.shape_n HL1.out)
          have hap1 := Lib.hid (own_apart (vi := u7) (vj := .slice A2 (n + 1) d2) hv.lt ho1.base (Nat.le_refl _))
          have hv1 := hv.below hb1
          have hF1 := hF.below hb1
          replace ho1 := ho1.low hsz
          clear hv hV hF hb1 hg1 hat1 hsz ho0 hb0
          refine (impl_peakOf _ (ho1.rd HL1.out) (by omega)).mono ?_
          rintro e w2 ⟨pv, d, rfl, hp, rfl⟩
          obtain ⟨bd, xx, XX, e0, -, -, -, -⟩ := (ho1.rd HL1.out).at_ (k := 0) (by omega)
          cases e0
          have hcc := ho1.cap_n HL1.out
          have hF2 := Lib.hid (hF1.drewN d)
          have ho2 := Lib.hid (ho1.drewN d)
          have hv2 := Lib.hid (hv1.drewN d)
          clear hF1 ho1 hv1
          generalize World.drewN w1 d = W2 at *
          have p0 := hF2.out.cp 0 _ rfl
          have p1 := hF2.out.cp 1 _ rfl
          have p2 := hF2.out.cp 2 _ rfl
          have p3 := hF2.out.cp 3 _ rfl
          have q2 := hF2.out.fp 2
          have q3 := hF2.out.fp 3
          have o1 := Fl.ord hp hl
          obtain ⟨G1, hG1⟩ : ∃ T, T = fadd (limT L R G (clss xs) ((clss ys).take k)).1 R := ⟨_, rfl⟩
          have HG : Hid (∀ W, Fl .f32 (fr .add .f32 gg r W) G1) := Lib.hid (fun W => by rw [hG1]; exact hgg.fr hr .add W)
          have HG1 := Lib.hid hG1
          clear hG1
          obtain ⟨TT, hTT⟩ : ∃ T, T = limTC L (peakT (clss (ls ++ [x]))) := ⟨_, rfl⟩
          have HTT := Lib.hid hTT
          cases cc : (ford .f32 (peakT (clss (ls ++ [x]))) L == some .gt)
          · have ht : Fl .f32 1065353216 TT := by rw [hTT, limTC, cc]; exact .of_lit (by decide) (by decide)
            clear hTT
            go_upto_region 13 with fail
            clear o1 cc
            go_upto_region 14 with fail
            generalize hgv : fr .add .f32 gg r _ = gv
            have hgA : Fl .f32 gv G1 := by rw [← hgv]; exact HG.out _
            clear hgv p1
            have O2 := Fl.ord ht hgA
            have O3 := Fl.ord hgA hgA
            cases k2 : (ford .f32 TT G1 == some .lt)
            · cases k3 : (ford .f32 G1 G1 != some .eq)
              · have hgf := hgA
                have HGC := Lib.hid (show limGC TT G1 = G1 by unfold limGC; rw [k2, k3]; rfl)
                by_cases hk2 : d2 = 1
                · have HN := Lib.hid (show n = 0 by omega)
                  subst hk2
                  go_upto_region 18 with fail
                  refine Loose.regionT_of (fun W => LmK w W [.float .f32 l, .float .f32 r, .float .f32 gv, .slice (some bd) n 0] [.float .f32 0, .float .f32 0, .float .f32 0, .slice none 0 0] ∧ Of W (w.heap.size + 2) (.slice (some bd) (n + 1) 1) (ls ++ [x]) ∧ Of W (w.heap.size + 2) u7 zs) 10 (by kernel_rfl) (by kernel_rfl) ⟨(by rw [HN.out]; exact ((hF2.out.drewN _).set 2 _ (by simp)).set 3 _ (by simp)), ((ho2.out.drewN _).put (by simp) _).put (by simp) _, ((hv2.out.drewN _).put (by simp) _).put (by simp) _⟩ ?_
                  clear hF2 ho2 hv2 O2 O3 p0 p2 p3 q2 q3
                  rintro W3 ⟨hF3, ho3, hv3⟩
                  obtain ⟨bd', x0, X0, e0, hc0, hx0, hxk0, hX0⟩ := (ho3.rd HL1.out).at_ (k := 0) (by omega)
                  cases e0
                  have hc0' : W3.cell? bd = some (.float .f32 x0) := by simpa [Addr.add] using hc0
                  have h0L : Loose.All [(⟨w.heap.size, 0, none⟩, .float .f32 l), (bd.add 0, .float .f32 x0), (bd, .float .f32 x0)] W3 := ⟨hF3.cp 0 _ rfl, hc0, hc0', trivial⟩
                  refine ⟨_, h0L, ?_⟩
                  simp only [List.take_succ_cons, List.take_zero, List.drop_succ_cons, List.drop_zero]
                  have HF := Lib.hid hF3
                  have HO := Lib.hid ho3
                  have HV := Lib.hid hv3
                  have HX0 := Lib.hid hX0
                  clear hF3 ho3 hv3 hc0 hc0' hxk0 hX0
                  apply Exists.intro
                  repeat
                    first
                      | (apply Loose.skipT; exact rfl; simp only [Act.put, List.setIfInBounds_toArray, List.set_cons_zero, List.set_cons_succ])
                      | (apply Loose.quietT h0L; exact rfl; exact rfl; intro K hK; go_big_quiet_op; go_big_quiet_on)
                      | (apply Loose.quietT h0L; exact rfl; exact rfl; intro K hK; go_big_quiet_op; apply Exists.intro; refine ⟨fun w' hw' => ?_, ?_⟩
                         · (first | exact rfl | (have l := hw'.all; simp only [Loose.All] at l; go_simp; rfl))
                         go_big_quiet_on)
                      | (apply Loose.fl32T; exact rfl; (intro w' hw'; apply Exists.intro; apply Exists.intro; refine ⟨?_, ?_⟩; (go_simp; exact ⟨rfl, rfl⟩); exact Fl.fr (by assumption) (by assumption) _ _); intro r_ f_; simp only [Act.put, List.setIfInBounds_toArray, List.set_cons_zero, List.set_cons_succ])
                      | (apply Loose.exactT h0L; exact rfl; (intro w' hw'; first | (go_simp; rfl) | (have l := hw'.all; simp only [Loose.All] at l; go_simp; rfl)); simp only [Act.put, List.setIfInBounds_toArray, List.set_cons_zero, List.set_cons_succ])
                  apply Loose.flcallT
                  · exact rfl
                  · intro w' hw'; go_simp; exact ⟨rfl, rfl⟩
                  · intro w' hw'; exact (fun W => impl_clipped f_ hl W) _
                  intro r_z f_z
                  simp only [Act.put, List.setIfInBounds_toArray, List.set_cons_zero, List.set_cons_succ]
                  apply Loose.build1T (e := 22)
                  · exact rfl
                  · intro w' hw'
                    refine ⟨_, f_z, ?_⟩
                    go_simp
                  intro ap
                  simp only [Act.put, List.setIfInBounds_toArray, List.set_cons_zero, List.set_cons_succ]
                  apply Loose.doneT
                  rintro w3 - hb3 ⟨-, p, hp', hrp⟩
                  have hF4 := HF.out.below hb3
                  have ho4 := HO.out.below hb3
                  have hv4 := HV.out.below hb3
                  clear HF HO HV h0L hb3
                  have hzl := len_of hz.out.2 (m := 1048576) (by rw [limT_len, List.length_take]; omega)
                  have hlx : ((ls ++ [x]).drop 1).length = n := by rw [List.length_drop, HL1.out] <;> omega
                  have hT : (ls ++ [x]).drop 1 = [] := by have := HLS.out; rw [HN.out] at this; rw [List.eq_nil_of_length_eq_zero this]; rfl
                  have HRD := Lib.hid (fun (W : World) (e : Of W (w.heap.size + 2) (.slice (some bd) (n + 1) 1) (ls ++ [x])) => show Rd W (some bd) n ((ls ++ [x]).drop 1) by rw [hT, HN.out]; exact Rd.zero _ _)
                  clear hT
                  have HLX := Lib.hid hlx
                  clear hlx
                  go_wp2_with (at_builtin; refine ap_slice (w.heap.size + 2) rfl _ _ 25 22 rfl Try.underlying25 info_f32 u7 zs [p] _ _ _ rfl rfl hv4 hrp hF4.sz (by omega) (by decide) ?_; intro v1 w4 hv5 hg5 hat5)
                  refine ⟨⟨k + 1, (ls ++ [x]).drop 1, _, gv, some bd, 0, _, _, by omega, by go_num, hv5, ho4.other hg5 (ne_swap' hap1.out), apart_new hap1.out hat5 ho4.lt, hF4.grown hg5 hv4.base, ?_, HRD, Lib.hid ⟨?_, ?_, HLX.out⟩⟩, by simp [intOf]; omega⟩
                  · rw [HS.out, limS, limG1]; dsimp only; rw [HALL.out, ← HTT.out, ← HG1.out, HGC.out]; exact hgf
                  · rw [HS.out, limS]; dsimp only; rw [HALL.out, clss_drop]
                  · rw [HS.out, limS, limG1]; dsimp only; rw [HALL.out, ← HTT.out, ← HG1.out, HGC.out, HX0.out, ← hz.out.2]; exact clss_push rfl hp'
                · go_upto_region 18 with fail
                  refine Loose.regionT_of (fun W => LmK w W [.float .f32 l, .float .f32 r, .float .f32 gv, .slice (some (bd.add 1)) n (d2 - 1)] [.float .f32 0, .float .f32 0, .float .f32 0, .slice none 0 0] ∧ Of W (w.heap.size + 2) (.slice (some bd) (n + 1) d2) (ls ++ [x]) ∧ Of W (w.heap.size + 2) u7 zs) 10 (by kernel_rfl) (by kernel_rfl) ⟨((hF2.out.drewN _).set 2 _ (by simp)).set 3 _ (by simp), ((ho2.out.drewN _).put (by simp) _).put (by simp) _, ((hv2.out.drewN _).put (by simp) _).put (by simp) _⟩ ?_
                  clear hF2 ho2 hv2 O2 O3 p0 p2 p3 q2 q3
                  rintro W3 ⟨hF3, ho3, hv3⟩
                  obtain ⟨bd', x0, X0, e0, hc0, hx0, hxk0, hX0⟩ := (ho3.rd HL1.out).at_ (k := 0) (by omega)
                  cases e0
                  have hc0' : W3.cell? bd = some (.float .f32 x0) := by simpa [Addr.add] using hc0
                  have h0L : Loose.All [(⟨w.heap.size, 0, none⟩, .float .f32 l), (bd.add 0, .float .f32 x0), (bd, .float .f32 x0)] W3 := ⟨hF3.cp 0 _ rfl, hc0, hc0', trivial⟩
                  refine ⟨_, h0L, ?_⟩
                  simp only [List.take_succ_cons, List.take_zero, List.drop_succ_cons, List.drop_zero]
                  have HF := Lib.hid hF3
                  have HO := Lib.hid ho3
                  have HV := Lib.hid hv3
                  have HX0 := Lib.hid hX0
                  clear hF3 ho3 hv3 hc0 hc0' hxk0 hX0
                  apply Exists.intro
                  repeat
                    first
                      | (apply Loose.skipT; exact rfl; simp only [Act.put, List.setIfInBounds_toArray, List.set_cons_zero, List.set_cons_succ])
                      | (apply Loose.quietT h0L; exact rfl; exact rfl; intro K hK; go_big_quiet_op; go_big_quiet_on)
                      | (apply Loose.quietT h0L; exact rfl; exact rfl; intro K hK; go_big_quiet_op; apply Exists.intro; refine ⟨fun w' hw' => ?_, ?_⟩
                         · (first | exact rfl | (have l := hw'.all; simp only [Loose.All] at l; go_simp; rfl))
                         go_big_quiet_on)
                      | (apply Loose.fl32T; exact rfl; (intro w' hw'; apply Exists.intro; apply Exists.intro; refine ⟨?_, ?_⟩; (go_simp; exact ⟨rfl, rfl⟩); exact Fl.fr (by assumption) (by assumption) _ _); intro r_ f_; simp only [Act.put, List.setIfInBounds_toArray, List.set_cons_zero, List.set_cons_succ])
                      | (apply Loose.exactT h0L; exact rfl; (intro w' hw'; first | (go_simp; rfl) | (have l := hw'.all; simp only [Loose.All] at l; go_simp; rfl)); simp only [Act.put, List.setIfInBounds_toArray, List.set_cons_zero, List.set_cons_succ])
                  apply Loose.flcallT
                  · exact rfl
                  · intro w' hw'; go_simp; exact ⟨rfl, rfl⟩
                  · intro w' hw'; exact (fun W => impl_clipped f_ hl W) _
                  intro r_z f_z
                  simp only [Act.put, List.setIfInBounds_toArray, List.set_cons_zero, List.set_cons_succ]
                  apply Loose.build1T (e := 22)
                  · exact rfl
                  · intro w' hw'
                    refine ⟨_, f_z, ?_⟩
                    go_simp
                  intro ap
                  simp only [Act.put, List.setIfInBounds_toArray, List.set_cons_zero, List.set_cons_succ]
                  apply Loose.doneT
                  rintro w3 - hb3 ⟨-, p, hp', hrp⟩
                  have hF4 := HF.out.below hb3
                  have ho4 := HO.out.below hb3
                  have hv4 := HV.out.below hb3
                  clear HF HO HV h0L hb3
                  have hzl := len_of hz.out.2 (m := 1048576) (by rw [limT_len, List.length_take]; omega)
                  have hlx : ((ls ++ [x]).drop 1).length = n := by rw [List.length_drop, HL1.out] <;> omega
                  have HRD := Lib.hid (fun (W : World) (e : Of W (w.heap.size + 2) (.slice (some bd) (n + 1) d2) (ls ++ [x])) => show Rd W (some (bd.add 1)) n ((ls ++ [x]).drop 1) by have := (e.rd HL1.out).tail 1 (by omega); simpa using this)
                  have HLX := Lib.hid hlx
                  clear hlx
                  go_wp2_with (at_builtin; refine ap_slice (w.heap.size + 2) rfl _ _ 25 22 rfl Try.underlying25 info_f32 u7 zs [p] _ _ _ rfl rfl hv4 hrp hF4.sz (by omega) (by decide) ?_; intro v1 w4 hv5 hg5 hat5)
                  refine ⟨⟨k + 1, (ls ++ [x]).drop 1, _, gv, some (bd.add 1), d2 - 1, _, _, by omega, by go_num, hv5, ho4.other hg5 (ne_swap' hap1.out), apart_new hap1.out hat5 ho4.lt, hF4.grown hg5 hv4.base, ?_, HRD, Lib.hid ⟨?_, ?_, HLX.out⟩⟩, by simp [intOf]; omega⟩
                  · rw [HS.out, limS, limG1]; dsimp only; rw [HALL.out, ← HTT.out, ← HG1.out, HGC.out]; exact hgf
                  · rw [HS.out, limS]; dsimp only; rw [HALL.out, clss_drop]
                  · rw [HS.out, limS, limG1]; dsimp only; rw [HALL.out, ← HTT.out, ← HG1.out, HGC.out, HX0.out, ← hz.out.2]; exact clss_push rfl hp'
              · have hgf := ht
                have HGC := Lib.hid (show limGC TT G1 = TT by unfold limGC; rw [k2, k3]; rfl)
                by_cases hk2 : d2 = 1
                · have HN := Lib.hid (show n = 0 by omega)
                  subst hk2
                  go_upto_region 18 with fail
                  refine Loose.regionT_of (fun W => LmK w W [.float .f32 l, .float .f32 r, .float .f32 1065353216, .slice (some bd) n 0] [.float .f32 0, .float .f32 0, .float .f32 0, .slice none 0 0] ∧ Of W (w.heap.size + 2) (.slice (some bd) (n + 1) 1) (ls ++ [x]) ∧ Of W (w.heap.size + 2) u7 zs) 10 (by kernel_rfl) (by kernel_rfl) ⟨(by rw [HN.out]; exact ((hF2.out.drewN _).set 2 _ (by simp)).set 3 _ (by simp)), ((ho2.out.drewN _).put (by simp) _).put (by simp) _, ((hv2.out.drewN _).put (by simp) _).put (by simp) _⟩ ?_
                  clear hF2 ho2 hv2 O2 O3 p0 p2 p3 q2 q3
                  rintro W3 ⟨hF3, ho3, hv3⟩
                  obtain ⟨bd', x0, X0, e0, hc0, hx0, hxk0, hX0⟩ := (ho3.rd HL1.out).at_ (k := 0) (by omega)
                  cases e0
                  have hc0' : W3.cell? bd = some (.float .f32 x0) := by simpa [Addr.add] using hc0
                  have h0L : Loose.All [(⟨w.heap.size, 0, none⟩, .float .f32 l), (bd.add 0, .float .f32 x0), (bd, .float .f32 x0)] W3 := ⟨hF3.cp 0 _ rfl, hc0, hc0', trivial⟩
                  refine ⟨_, h0L, ?_⟩
                  simp only [List.take_succ_cons, List.take_zero, List.drop_succ_cons, List.drop_zero]
                  have HF := Lib.hid hF3
                  have HO := Lib.hid ho3
                  have HV := Lib.hid hv3
                  have HX0 := Lib.hid hX0
                  clear hF3 ho3 hv3 hc0 hc0' hxk0 hX0
                  apply Exists.intro
                  repeat
                    first
                      | (apply Loose.skipT; exact rfl; simp only [Act.put, List.setIfInBounds_toArray, List.set_cons_zero, List.set_cons_succ])
                      | (apply Loose.quietT h0L; exact rfl; exact rfl; intro K hK; go_big_quiet_op; go_big_quiet_on)
                      | (apply Loose.quietT h0L; exact rfl; exact rfl; intro K hK; go_big_quiet_op; apply Exists.intro; refine ⟨fun w' hw' => ?_, ?_⟩
                         · (first | exact rfl | (have l := hw'.all; simp only [Loose.All] at l; go_simp; rfl))
                         go_big_quiet_on)
                      | (apply Loose.fl32T; exact rfl; (intro w' hw'; apply Exists.intro; apply Exists.intro; refine ⟨?_, ?_⟩; (go_simp; exact ⟨rfl, rfl⟩); exact Fl.fr (by assumption) (by assumption) _ _); intro r_ f_; simp only [Act.put, List.setIfInBounds_toArray, List.set_cons_zero, List.set_cons_succ])
                      | (apply Loose.exactT h0L; exact rfl; (intro w' hw'; first | (go_simp; rfl) | (have l := hw'.all; simp only [Loose.All] at l; go_simp; rfl)); simp only [Act.put, List.setIfInBounds_toArray, List.set_cons_zero, List.set_cons_succ])
                  apply Loose.flcallT
                  · exact rfl
                  · intro w' hw'; go_simp; exact ⟨rfl, rfl⟩
                  · intro w' hw'; exact (fun W => impl_clipped f_ hl W) _
                  intro r_z f_z
                  simp only [Act.put, List.setIfInBounds_toArray, List.set_cons_zero, List.set_cons_succ]
                  apply Loose.build1T (e := 22)
                  · exact rfl
                  · intro w' hw'
                    refine ⟨_, f_z, ?_⟩
                    go_simp
                  intro ap
                  simp only [Act.put, List.setIfInBounds_toArray, List.set_cons_zero, List.set_cons_succ]
                  apply Loose.doneT
                  rintro w3 - hb3 ⟨-, p, hp', hrp⟩
                  have hF4 := HF.out.below hb3
                  have ho4 := HO.out.below hb3
                  have hv4 := HV.out.below hb3
                  clear HF HO HV h0L hb3
                  have hzl := len_of hz.out.2 (m := 1048576) (by rw [limT_len, List.length_take]; omega)
                  have hlx : ((ls ++ [x]).drop 1).length = n := by rw [List.length_drop, HL1.out] <;> omega
                  have hT : (ls ++ [x]).drop 1 = [] := by have := HLS.out; rw [HN.out] at this; rw [List.eq_nil_of_length_eq_zero this]; rfl
                  have HRD := Lib.hid (fun (W : World) (e : Of W (w.heap.size + 2) (.slice (some bd) (n + 1) 1) (ls ++ [x])) => show Rd W (some bd) n ((ls ++ [x]).drop 1) by rw [hT, HN.out]; exact Rd.zero _ _)
                  clear hT
                  have HLX := Lib.hid hlx
                  clear hlx
                  go_wp2_with (at_builtin; refine ap_slice (w.heap.size + 2) rfl _ _ 25 22 rfl Try.underlying25 info_f32 u7 zs [p] _ _ _ rfl rfl hv4 hrp hF4.sz (by omega) (by decide) ?_; intro v1 w4 hv5 hg5 hat5)
                  refine ⟨⟨k + 1, (ls ++ [x]).drop 1, _, 1065353216, some bd, 0, _, _, by omega, by go_num, hv5, ho4.other hg5 (ne_swap' hap1.out), apart_new hap1.out hat5 ho4.lt, hF4.grown hg5 hv4.base, ?_, HRD, Lib.hid ⟨?_, ?_, HLX.out⟩⟩, by simp [intOf]; omega⟩
                  · rw [HS.out, limS, limG1]; dsimp only; rw [HALL.out, ← HTT.out, ← HG1.out, HGC.out]; exact hgf
                  · rw [HS.out, limS]; dsimp only; rw [HALL.out, clss_drop]
                  · rw [HS.out, limS, limG1]; dsimp only; rw [HALL.out, ← HTT.out, ← HG1.out, HGC.out, HX0.out, ← hz.out.2]; exact clss_push rfl hp'
                · go_upto_region 18 with fail
                  refine Loose.regionT_of (fun W => LmK w W [.float .f32 l, .float .f32 r, .float .f32 1065353216, .slice (some (bd.add 1)) n (d2 - 1)] [.float .f32 0, .float .f32 0, .float .f32 0, .slice none 0 0] ∧ Of W (w.heap.size + 2) (.slice (some bd) (n + 1) d2) (ls ++ [x]) ∧ Of W (w.heap.size + 2) u7 zs) 10 (by kernel_rfl) (by kernel_rfl) ⟨((hF2.out.drewN _).set 2 _ (by simp)).set 3 _ (by simp), ((ho2.out.drewN _).put (by simp) _).put (by simp) _, ((hv2.out.drewN _).put (by simp) _).put (by simp) _⟩ ?_
                  clear hF2 ho2 hv2 O2 O3 p0 p2 p3 q2 q3
                  rintro W3 ⟨hF3, ho3, hv3⟩
                  obtain ⟨bd', x0, X0, e0, hc0, hx0, hxk0, hX0⟩ := (ho3.rd HL1.out).at_ (k := 0) (by omega)
                  cases e0
                  have hc0' : W3.cell? bd = some (.float .f32 x0) := by simpa [Addr.add] using hc0
                  have h0L : Loose.All [(⟨w.heap.size, 0, none⟩, .float .f32 l), (bd.add 0, .float .f32 x0), (bd, .float .f32 x0)] W3 := ⟨hF3.cp 0 _ rfl, hc0, hc0', trivial⟩
                  refine ⟨_, h0L, ?_⟩
                  simp only [List.take_succ_cons, List.take_zero, List.drop_succ_cons, List.drop_zero]
                  have HF := Lib.hid hF3
                  have HO := Lib.hid ho3
                  have HV := Lib.hid hv3
                  have HX0 := Lib.hid hX0
                  clear hF3 ho3 hv3 hc0 hc0' hxk0 hX0
                  apply Exists.intro
                  repeat
                    first
                      | (apply Loose.skipT; exact rfl; simp only [Act.put, List.setIfInBounds_toArray, List.set_cons_zero, List.set_cons_succ])
                      | (apply Loose.quietT h0L; exact rfl; exact rfl; intro K hK; go_big_quiet_op; go_big_quiet_on)
                      | (apply Loose.quietT h0L; exact rfl; exact rfl; intro K hK; go_big_quiet_op; apply Exists.intro; refine ⟨fun w' hw' => ?_, ?_⟩
                         · (first | exact rfl | (have l := hw'.all; simp only [Loose.All] at l; go_simp; rfl))
                         go_big_quiet_on)
                      | (apply Loose.fl32T; exact rfl; (intro w' hw'; apply Exists.intro; apply Exists.intro; refine ⟨?_, ?_⟩; (go_simp; exact ⟨rfl, rfl⟩); exact Fl.fr (by assumption) (by assumption) _ _); intro r_ f_; simp only [Act.put, List.setIfInBounds_toArray, List.set_cons_zero, List.set_cons_succ])
                      | (apply Loose.exactT h0L; exact rfl; (intro w' hw'; first | (go_simp; rfl) | (have l := hw'.all; simp only [Loose.All] at l; go_simp; rfl)); simp only [Act.put, List.setIfInBounds_toArray, List.set_cons_zero, List.set_cons_succ])
                  apply Loose.flcallT
                  · exact rfl
                  · intro w' hw'; go_simp; exact ⟨rfl, rfl⟩
                  · intro w' hw'; exact (fun W => impl_clipped f_ hl W) _
                  intro r_z f_z
                  simp only [Act.put, List.setIfInBounds_toArray, List.set_cons_zero, List.set_cons_succ]
                  apply Loose.build1T (e := 22)
                  · exact rfl
                  · intro w' hw'
                    refine ⟨_, f_z, ?_⟩
                    go_simp
                  intro ap
                  simp only [Act.put, List.setIfInBounds_toArray, List.set_cons_zero, List.set_cons_succ]
                  apply Loose.doneT
                  rintro w3 - hb3 ⟨-, p, hp', hrp⟩
                  have hF4 := HF.out.below hb3
                  have ho4 := HO.out.below hb3
                  have hv4 := HV.out.below hb3
                  clear HF HO HV h0L hb3
                  have hzl := len_of hz.out.2 (m := 1048576) (by rw [limT_len, List.length_take]; omega)
                  have hlx : ((ls ++ [x]).drop 1).length = n := by rw [List.length_drop, HL1.out] <;> omega
                  have HRD := Lib.hid (fun (W : World) (e : Of W (w.heap.size + 2) (.slice (some bd) (n + 1) d2) (ls ++ [x])) => show Rd W (some (bd.add 1)) n ((ls ++ [x]).drop 1) by have := (e.rd HL1.out).tail 1 (by omega); simpa using this)
                  have HLX := Lib.hid hlx
                  clear hlx
                  go_wp2_with (at_builtin; refine ap_slice (w.heap.size + 2) rfl _ _ 25 22 rfl Try.underlying25 info_f32 u7 zs [p] _ _ _ rfl rfl hv4 hrp hF4.sz (by omega) (by decide) ?_; intro v1 w4 hv5 hg5 hat5)
                  refine ⟨⟨k + 1, (ls ++ [x]).drop 1, _, 1065353216, some (bd.add 1), d2 - 1, _, _, by omega, by go_num, hv5, ho4.other hg5 (ne_swap' hap1.out), apart_new hap1.out hat5 ho4.lt, hF4.grown hg5 hv4.base, ?_, HRD, Lib.hid ⟨?_, ?_, HLX.out⟩⟩, by simp [intOf]; omega⟩
                  · rw [HS.out, limS, limG1]; dsimp only; rw [HALL.out, ← HTT.out, ← HG1.out, HGC.out]; exact hgf
                  · rw [HS.out, limS]; dsimp only; rw [HALL.out, clss_drop]
                  · rw [HS.out, limS, limG1]; dsimp only; rw [HALL.out, ← HTT.out, ← HG1.out, HGC.out, HX0.out, ← hz.out.2]; exact clss_push rfl hp'
            · have hgf := ht
              have HGC := Lib.hid (show limGC TT G1 = TT by unfold limGC; rw [k2]; rfl)
              by_cases hk2 : d2 = 1
              · have HN := Lib.hid (show n = 0 by omega)
                subst hk2
                go_upto_region 18 with fail
                refine Loose.regionT_of (fun W => LmK w W [.float .f32 l, .float .f32 r, .float .f32 1065353216, .slice (some bd) n 0] [.float .f32 0, .float .f32 0, .float .f32 0, .slice none 0 0] ∧ Of W (w.heap.size + 2) (.slice (some bd) (n + 1) 1) (ls ++ [x]) ∧ Of W (w.heap.size + 2) u7 zs) 10 (by kernel_rfl) (by kernel_rfl) ⟨(by rw [HN.out]; exact ((hF2.out.drewN _).set 2 _ (by simp)).set 3 _ (by simp)), ((ho2.out.drewN _).put (by simp) _).put (by simp) _, ((hv2.out.drewN _).put (by simp) _).put (by simp) _⟩ ?_
                clear hF2 ho2 hv2 O2 O3 p0 p2 p3 q2 q3
                rintro W3 ⟨hF3, ho3, hv3⟩
                obtain ⟨bd', x0, X0, e0, hc0, hx0, hxk0, hX0⟩ := (ho3.rd HL1.out).at_ (k := 0) (by omega)
                cases e0
                have hc0' : W3.cell? bd = some (.float .f32 x0) := by simpa [Addr.add] using hc0
                have h0L : Loose.All [(⟨w.heap.size, 0, none⟩, .float .f32 l), (bd.add 0, .float .f32 x0), (bd, .float .f32 x0)] W3 := ⟨hF3.cp 0 _ rfl, hc0, hc0', trivial⟩
                refine ⟨_, h0L, ?_⟩
                simp only [List.take_succ_cons, List.take_zero, List.drop_succ_cons, List.drop_zero]
                have HF := Lib.hid hF3
                have HO := Lib.hid ho3
                have HV := Lib.hid hv3
                have HX0 := Lib.hid hX0
                clear hF3 ho3 hv3 hc0 hc0' hxk0 hX0
                apply Exists.intro
                repeat
                  first
                    | (apply Loose.skipT; exact rfl; simp only [Act.put, List.setIfInBounds_toArray, List.set_cons_zero, List.set_cons_succ])
                    | (apply Loose.quietT h0L; exact rfl; exact rfl; intro K hK; go_big_quiet_op; go_big_quiet_on)
                    | (apply Loose.quietT h0L; exact rfl; exact rfl; intro K hK; go_big_quiet_op; apply Exists.intro; refine ⟨fun w' hw' => ?_, ?_⟩
                       · (first | exact rfl | (have l := hw'.all; simp only [Loose.All] at l; go_simp; rfl))
                       go_big_quiet_on)
                    | (apply Loose.fl32T; exact rfl; (intro w' hw'; apply Exists.intro; apply Exists.intro; refine ⟨?_, ?_⟩; (go_simp; exact ⟨rfl, rfl⟩); exact Fl.fr (by assumption) (by assumption) _ _); intro r_ f_; simp only [Act.put, List.setIfInBounds_toArray, List.set_cons_zero, List.set_cons_succ])
                    | (apply Loose.exactT h0L; exact rfl; (intro w' hw'; first | (go_simp; rfl) | (have l := hw'.all; simp only [Loose.All] at l; go_simp; rfl)); simp only [Act.put, List.setIfInBounds_toArray, List.set_cons_zero, List.set_cons_succ])
                apply Loose.flcallT
                · exact rfl
                · intro w' hw'; go_simp; exact ⟨rfl, rfl⟩
                · intro w' hw'; exact (fun W => impl_clipped f_ hl W) _
                intro r_z f_z
                simp only [Act.put, List.setIfInBounds_toArray, List.set_cons_zero, List.set_cons_succ]
                apply Loose.build1T (e := 22)
                · exact rfl
                · intro w' hw'
                  refine ⟨_, f_z, ?_⟩
                  go_simp
                intro ap
                simp only [Act.put, List.setIfInBounds_toArray, List.set_cons_zero, List.set_cons_succ]
                apply Loose.doneT
                rintro w3 - hb3 ⟨-, p, hp', hrp⟩
                have hF4 := HF.out.below hb3
                have ho4 := HO.out.below hb3
                have hv4 := HV.out.below hb3
                clear HF HO HV h0L hb3
                have hzl := len_of hz.out.2 (m := 1048576) (by rw [limT_len, List.length_take]; omega)
                have hlx : ((ls ++ [x]).drop 1).length = n := by rw [List.length_drop, HL1.out] <;> omega
                have hT : (ls ++ [x]).drop 1 = [] := by have := HLS.out; rw [HN.out] at this; rw [List.eq_nil_of_length_eq_zero this]; rfl
                have HRD := Lib.hid (fun (W : World) (e : Of W (w.heap.size + 2) (.slice (some bd) (n + 1) 1) (ls ++ [x])) => show Rd W (some bd) n ((ls ++ [x]).drop 1) by rw [hT, HN.out]; exact Rd.zero _ _)
                clear hT
                have HLX := Lib.hid hlx
                clear hlx
                go_wp2_with (at_builtin; refine ap_slice (w.heap.size + 2) rfl _ _ 25 22 rfl Try.underlying25 info_f32 u7 zs [p] _ _ _ rfl rfl hv4 hrp hF4.sz (by omega) (by decide) ?_; intro v1 w4 hv5 hg5 hat5)
                refine ⟨⟨k + 1, (ls ++ [x]).drop 1, _, 1065353216, some bd, 0, _, _, by omega, by go_num, hv5, ho4.other hg5 (ne_swap' hap1.out), apart_new hap1.out hat5 ho4.lt, hF4.grown hg5 hv4.base, ?_, HRD, Lib.hid ⟨?_, ?_, HLX.out⟩⟩, by simp [intOf]; omega⟩
                · rw [HS.out, limS, limG1]; dsimp only; rw [HALL.out, ← HTT.out, ← HG1.out, HGC.out]; exact hgf
                · rw [HS.out, limS]; dsimp only; rw [HALL.out, clss_drop]
                · rw [HS.out, limS, limG1]; dsimp only; rw [HALL.out, ← HTT.out, ← HG1.out, HGC.out, HX0.out, ← hz.out.2]; exact clss_push rfl hp'
              · go_upto_region 18 with fail
                refine Loose.regionT_of (fun W => LmK w W [.float .f32 l, .float .f32 r, .float .f32 1065353216, .slice (some (bd.add 1)) n (d2 - 1)] [.float .f32 0, .float .f32 0, .float .f32 0, .slice none 0 0] ∧ Of W (w.heap.size + 2) (.slice (some bd) (n + 1) d2) (ls ++ [x]) ∧ Of W (w.heap.size + 2) u7 zs) 10 (by kernel_rfl) (by kernel_rfl) ⟨((hF2.out.drewN _).set 2 _ (by simp)).set 3 _ (by simp), ((ho2.out.drewN _).put (by simp) _).put (by simp) _, ((hv2.out.drewN _).put (by simp) _).put (by simp) _⟩ ?_
                clear hF2 ho2 hv2 O2 O3 p0 p2 p3 q2 q3
                rintro W3 ⟨hF3, ho3, hv3⟩
                obtain ⟨bd', x0, X0, e0, hc0, hx0, hxk0, hX0⟩ := (ho3.rd HL1.out).at_ (k := 0) (by omega)
                cases e0
                have hc0' : W3.cell? bd = some (.float .f32 x0) := by simpa [Addr.add] using hc0
                have h0L : Loose.All [(⟨w.heap.size, 0, none⟩, .float .f32 l), (bd.add 0, .float .f32 x0), (bd, .float .f32 x0)] W3 := ⟨hF3.cp 0 _ rfl, hc0, hc0', trivial⟩
                refine ⟨_, h0L, ?_⟩
                simp only [List.take_succ_cons, List.take_zero, List.drop_succ_cons, List.drop_zero]
                have HF := Lib.hid hF3
                have HO := Lib.hid ho3
                have HV := Lib.hid hv3
                have HX0 := Lib.hid hX0
                clear hF3 ho3 hv3 hc0 hc0' hxk0 hX0
                apply Exists.intro
                repeat
                  first
                    | (apply Loose.skipT; exact rfl; simp only [Act.put, List.setIfInBounds_toArray, List.set_cons_zero, List.set_cons_succ])
                    | (apply Loose.quietT h0L; exact rfl; exact rfl; intro K hK; go_big_quiet_op; go_big_quiet_on)
                    | (apply Loose.quietT h0L; exact rfl; exact rfl; intro K hK; go_big_quiet_op; apply Exists.intro; refine ⟨fun w' hw' => ?_, ?_⟩
                       · (first | exact rfl | (have l := hw'.all; simp only [Loose.All] at l; go_simp; rfl))
                       go_big_quiet_on)
                    | (apply Loose.fl32T; exact rfl; (intro w' hw'; apply Exists.intro; apply Exists.intro; refine ⟨?_, ?_⟩; (go_simp; exact ⟨rfl, rfl⟩); exact Fl.fr (by assumption) (by assumption) _ _); intro r_ f_; simp only [Act.put, List.setIfInBounds_toArray, List.set_cons_zero, List.set_cons_succ])
                    | (apply Loose.exactT h0L; exact rfl; (intro w' hw'; first | (go_simp; rfl) | (have l := hw'.all; simp only [Loose.All] at l; go_simp; rfl)); simp only [Act.put, List.setIfInBounds_toArray, List.set_cons_zero, List.set_cons_succ])
                apply Loose.flcallT
                · exact rfl
                · intro w' hw'; go_simp; exact ⟨rfl, rfl⟩
                · intro w' hw'; exact (fun W => impl_clipped f_ hl W) _
                intro r_z f_z
                simp only [Act.put, List.setIfInBounds_toArray, List.set_cons_zero, List.set_cons_succ]
                apply Loose.build1T (e := 22)
                · exact rfl
                · intro w' hw'
                  refine ⟨_, f_z, ?_⟩
                  go_simp
                intro ap
                simp only [Act.put, List.setIfInBounds_toArray, List.set_cons_zero, List.set_cons_succ]
                apply Loose.doneT
                rintro w3 - hb3 ⟨-, p, hp', hrp⟩
                have hF4 := HF.out.below hb3
                have ho4 := HO.out.below hb3
                have hv4 := HV.out.below hb3
                clear HF HO HV h0L hb3
                have hzl := len_of hz.out.2 (m := 1048576) (by rw [limT_len, List.length_take]; omega)
                have hlx : ((ls ++ [x]).drop 1).length = n := by rw [List.length_drop, HL1.out] <;> omega
                have HRD := Lib.hid (fun (W : World) (e : Of W (w.heap.size + 2) (.slice (some bd) (n + 1) d2) (ls ++ [x])) => show Rd W (some (bd.add 1)) n ((ls ++ [x]).drop 1) by have := (e.rd HL1.out).tail 1 (by omega); simpa using this)
                have HLX := Lib.hid hlx
                clear hlx
                go_wp2_with (at_builtin; refine ap_slice (w.heap.size + 2) rfl _ _ 25 22 rfl Try.underlying25 info_f32 u7 zs [p] _ _ _ rfl rfl hv4 hrp hF4.sz (by omega) (by decide) ?_; intro v1 w4 hv5 hg5 hat5)
                refine ⟨⟨k + 1, (ls ++ [x]).drop 1, _, 1065353216, some (bd.add 1), d2 - 1, _, _, by omega, by go_num, hv5, ho4.other hg5 (ne_swap' hap1.out), apart_new hap1.out hat5 ho4.lt, hF4.grown hg5 hv4.base, ?_, HRD, Lib.hid ⟨?_, ?_, HLX.out⟩⟩, by simp [intOf]; omega⟩
                · rw [HS.out, limS, limG1]; dsimp only; rw [HALL.out, ← HTT.out, ← HG1.out, HGC.out]; exact hgf
                · rw [HS.out, limS]; dsimp only; rw [HALL.out, clss_drop]
                · rw [HS.out, limS, limG1]; dsimp only; rw [HALL.out, ← HTT.out, ← HG1.out, HGC.out, HX0.out, ← hz.out.2]; exact clss_push rfl hp'
          · have HQ := Lib.hid (fun W => hl.fr hp .quo W)
            go_upto_region 13 with fail
            generalize htv : fr .quo .f32 l pv _ = tv
            have ht : Fl .f32 tv TT := by rw [hTT, limTC, cc, ← htv]; exact HQ.out _
            clear hTT htv o1 cc HQ
            go_upto_region 14 with fail
            generalize hgv : fr .add .f32 gg r _ = gv
            have hgA : Fl .f32 gv G1 := by rw [← hgv]; exact HG.out _
            clear hgv p1
            have O2 := Fl.ord ht hgA
            have O3 := Fl.ord hgA hgA
            cases k2 : (ford .f32 TT G1 == some .lt)
            · cases k3 : (ford .f32 G1 G1 != some .eq)
              · have hgf := hgA
                have HGC := Lib.hid (show limGC TT G1 = G1 by unfold limGC; rw [k2, k3]; rfl)
                by_cases hk2 : d2 = 1
                · have HN := Lib.hid (show n = 0 by omega)
                  subst hk2
                  go_upto_region 18 with fail
                  refine Loose.regionT_of (fun W => LmK w W [.float .f32 l, .float .f32 r, .float .f32 gv, .slice (some bd) n 0] [.float .f32 0, .float .f32 0, .float .f32 0, .slice none 0 0] ∧ Of W (w.heap.size + 2) (.slice (some bd) (n + 1) 1) (ls ++ [x]) ∧ Of W (w.heap.size + 2) u7 zs) 10 (by kernel_rfl) (by kernel_rfl) ⟨(by rw [HN.out]; exact ((hF2.out.drewN _).set 2 _ (by simp)).set 3 _ (by simp)), ((ho2.out.drewN _).put (by simp) _).put (by simp) _, ((hv2.out.drewN _).put (by simp) _).put (by simp) _⟩ ?_
                  clear hF2 ho2 hv2 O2 O3 p0 p2 p3 q2 q3
                  rintro W3 ⟨hF3, ho3, hv3⟩
                  obtain ⟨bd', x0, X0, e0, hc0, hx0, hxk0, hX0⟩ := (ho3.rd HL1.out).at_ (k := 0) (by omega)
                  cases e0
                  have hc0' : W3.cell? bd = some (.float .f32 x0) := by simpa [Addr.add] using hc0
                  have h0L : Loose.All [(⟨w.heap.size, 0, none⟩, .float .f32 l), (bd.add 0, .float .f32 x0), (bd, .float .f32 x0)] W3 := ⟨hF3.cp 0 _ rfl, hc0, hc0', trivial⟩
                  refine ⟨_, h0L, ?_⟩
                  simp only [List.take_succ_cons, List.take_zero, List.drop_succ_cons, List.drop_zero]
                  have HF := Lib.hid hF3
                  have HO := Lib.hid ho3
                  have HV := Lib.hid hv3
                  have HX0 := Lib.hid hX0
                  clear hF3 ho3 hv3 hc0 hc0' hxk0 hX0
                  apply Exists.intro
                  repeat
                    first
                      | (apply Loose.skipT; exact rfl; simp only [Act.put, List.setIfInBounds_toArray, List.set_cons_zero, List.set_cons_succ])
                      | (apply Loose.quietT h0L; exact rfl; exact rfl; intro K hK; go_big_quiet_op; go_big_quiet_on)
                      | (apply Loose.quietT h0L; exact rfl; exact rfl; intro K hK; go_big_quiet_op; apply Exists.intro; refine ⟨fun w' hw' => ?_, ?_⟩
                         · (first | exact rfl | (have l := hw'.all; simp only [Loose.All] at l; go_simp; rfl))
                         go_big_quiet_on)
                      | (apply Loose.fl32T; exact rfl; (intro w' hw'; apply Exists.intro; apply Exists.intro; refine ⟨?_, ?_⟩; (go_simp; exact ⟨rfl, rfl⟩); exact Fl.fr (by assumption) (by assumption) _ _); intro r_ f_; simp only [Act.put, List.setIfInBounds_toArray, List.set_cons_zero, List.set_cons_succ])
                      | (apply Loose.exactT h0L; exact rfl; (intro w' hw'; first | (go_simp; rfl) | (have l := hw'.all; simp only [Loose.All] at l; go_simp; rfl)); simp only [Act.put, List.setIfInBounds_toArray, List.set_cons_zero, List.set_cons_succ])
                  apply Loose.flcallT
                  · exact rfl
                  · intro w' hw'; go_simp; exact ⟨rfl, rfl⟩
                  · intro w' hw'; exact (fun W => impl_clipped f_ hl W) _
                  intro r_z f_z
                  simp only [Act.put, List.setIfInBounds_toArray, List.set_cons_zero, List.set_cons_succ]
                  apply Loose.build1T (e := 22)
                  · exact rfl
                  · intro w' hw'
                    refine ⟨_, f_z, ?_⟩
                    go_simp
                  intro ap
                  simp only [Act.put, List.setIfInBounds_toArray, List.set_cons_zero, List.set_cons_succ]
                  apply Loose.doneT
                  rintro w3 - hb3 ⟨-, p, hp', hrp⟩
                  have hF4 := HF.out.below hb3
                  have ho4 := HO.out.below hb3
                  have hv4 := HV.out.below hb3
                  clear HF HO HV h0L hb3
                  have hzl := len_of hz.out.2 (m := 1048576) (by rw [limT_len, List.length_take]; omega)
                  have hlx : ((ls ++ [x]).drop 1).length = n := by rw [List.length_drop, HL1.out] <;> omega
                  have hT : (ls ++ [x]).drop 1 = [] := by have := HLS.out; rw [HN.out] at this; rw [List.eq_nil_of_length_eq_zero this]; rfl
                  have HRD := Lib.hid (fun (W : World) (e : Of W (w.heap.size + 2) (.slice (some bd) (n + 1) 1) (ls ++ [x])) => show Rd W (some bd) n ((ls ++ [x]).drop 1) by rw [hT, HN.out]; exact Rd.zero _ _)
                  clear hT
                  have HLX := Lib.hid hlx
                  clear hlx
                  go_wp2_with (at_builtin; refine ap_slice (w.heap.size + 2) rfl _ _ 25 22 rfl Try.underlying25 info_f32 u7 zs [p] _ _ _ rfl rfl hv4 hrp hF4.sz (by omega) (by decide) ?_; intro v1 w4 hv5 hg5 hat5)
                  refine ⟨⟨k + 1, (ls ++ [x]).drop 1, _, gv, some bd, 0, _, _, by omega, by go_num, hv5, ho4.other hg5 (ne_swap' hap1.out), apart_new hap1.out hat5 ho4.lt, hF4.grown hg5 hv4.base, ?_, HRD, Lib.hid ⟨?_, ?_, HLX.out⟩⟩, by simp [intOf]; omega⟩
                  · rw [HS.out, limS, limG1]; dsimp only; rw [HALL.out, ← HTT.out, ← HG1.out, HGC.out]; exact hgf
                  · rw [HS.out, limS]; dsimp only; rw [HALL.out, clss_drop]
                  · rw [HS.out, limS, limG1]; dsimp only; rw [HALL.out, ← HTT.out, ← HG1.out, HGC.out, HX0.out, ← hz.out.2]; exact clss_push rfl hp'
                · go_upto_region 18 with fail
                  refine Loose.regionT_of (fun W => LmK w W [.float .f32 l, .float .f32 r, .float .f32 gv, .slice (some (bd.add 1)) n (d2 - 1)] [.float .f32 0, .float .f32 0, .float .f32 0, .slice none 0 0] ∧ Of W (w.heap.size + 2) (.slice (some bd) (n + 1) d2) (ls ++ [x]) ∧ Of W (w.heap.size + 2) u7 zs) 10 (by kernel_rfl) (by kernel_rfl) ⟨((hF2.out.drewN _).set 2 _ (by simp)).set 3 _ (by simp), ((ho2.out.drewN _).put (by simp) _).put (by simp) _, ((hv2.out.drewN _).put (by simp) _).put (by simp) _⟩ ?_
                  clear hF2 ho2 hv2 O2 O3 p0 p2 p3 q2 q3
                  rintro W3 ⟨hF3, ho3, hv3⟩
                  obtain ⟨bd', x0, X0, e0, hc0, hx0, hxk0, hX0⟩ := (ho3.rd HL1.out).at_ (k := 0) (by omega)
                  cases e0
                  have hc0' : W3.cell? bd = some (.float .f32 x0) := by simpa [Addr.add] using hc0
                  have h0L : Loose.All [(⟨w.heap.size, 0, none⟩, .float .f32 l), (bd.add 0, .float .f32 x0), (bd, .float .f32 x0)] W3 := ⟨hF3.cp 0 _ rfl, hc0, hc0', trivial⟩
                  refine ⟨_, h0L, ?_⟩
                  simp only [List.take_succ_cons, List.take_zero, List.drop_succ_cons, List.drop_zero]
                  have HF := Lib.hid hF3
                  have HO := Lib.hid ho3
                  have HV := Lib.hid hv3
                  have HX0 := Lib.hid hX0
                  clear hF3 ho3 hv3 hc0 hc0' hxk0 hX0
                  apply Exists.intro
                  repeat
                    first
                      | (apply Loose.skipT; exact rfl; simp only [Act.put, List.setIfInBounds_toArray, List.set_cons_zero, List.set_cons_succ])
                      | (apply Loose.quietT h0L; exact rfl; exact rfl; intro K hK; go_big_quiet_op; go_big_quiet_on)
                      | (apply Loose.quietT h0L; exact rfl; exact rfl; intro K hK; go_big_quiet_op; apply Exists.intro; refine ⟨fun w' hw' => ?_, ?_⟩
                         · (first | exact rfl | (have l := hw'.all; simp only [Loose.All] at l; go_simp; rfl))
                         go_big_quiet_on)
                      | (apply Loose.fl32T; exact rfl; (intro w' hw'; apply Exists.intro; apply Exists.intro; refine ⟨?_, ?_⟩; (go_simp; exact ⟨rfl, rfl⟩); exact Fl.fr (by assumption) (by assumption) _ _); intro r_ f_; simp only [Act.put, List.setIfInBounds_toArray, List.set_cons_zero, List.set_cons_succ])
                      | (apply Loose.exactT h0L; exact rfl; (intro w' hw'; first | (go_simp; rfl) | (have l := hw'.all; simp only [Loose.All] at l; go_simp; rfl)); simp only [Act.put, List.setIfInBounds_toArray, List.set_cons_zero, List.set_cons_succ])
                  apply Loose.flcallT
                  · exact rfl
                  · intro w' hw'; go_simp; exact ⟨rfl, rfl⟩
                  · intro w' hw'; exact (fun W => impl_clipped f_ hl W) _
                  intro r_z f_z
                  simp only [Act.put, List.setIfInBounds_toArray, List.set_cons_zero, List.set_cons_succ]
                  apply Loose.build1T (e := 22)
                  · exact rfl
                  · intro w' hw'
                    refine ⟨_, f_z, ?_⟩
                    go_simp
                  intro ap
                  simp only [Act.put, List.setIfInBounds_toArray, List.set_cons_zero, List.set_cons_succ]
                  apply Loose.doneT
                  rintro w3 - hb3 ⟨-, p, hp', hrp⟩
                  have hF4 := HF.out.below hb3
                  have ho4 := HO.out.below hb3
                  have hv4 := HV.out.below hb3
                  clear HF HO HV h0L hb3
                  have hzl := len_of hz.out.2 (m := 1048576) (by rw [limT_len, List.length_take]; omega)
                  have hlx : ((ls ++ [x]).drop 1).length = n := by rw [List.length_drop, HL1.out] <;> omega
                  have HRD := Lib.hid (fun (W : World) (e : Of W (w.heap.size + 2) (.slice (some bd) (n + 1) d2) (ls ++ [x])) => show Rd W (some (bd.add 1)) n ((ls ++ [x]).drop 1) by have := (e.rd HL1.out).tail 1 (by omega); simpa using this)
                  have HLX := Lib.hid hlx
                  clear hlx
                  go_wp2_with (at_builtin; refine ap_slice (w.heap.size + 2) rfl _ _ 25 22 rfl Try.underlying25 info_f32 u7 zs [p] _ _ _ rfl rfl hv4 hrp hF4.sz (by omega) (by decide) ?_; intro v1 w4 hv5 hg5 hat5)
                  refine ⟨⟨k + 1, (ls ++ [x]).drop 1, _, gv, some (bd.add 1), d2 - 1, _, _, by omega, by go_num, hv5, ho4.other hg5 (ne_swap' hap1.out), apart_new hap1.out hat5 ho4.lt, hF4.grown hg5 hv4.base, ?_, HRD, Lib.hid ⟨?_, ?_, HLX.out⟩⟩, by simp [intOf]; omega⟩
                  · rw [HS.out, limS, limG1]; dsimp only; rw [HALL.out, ← HTT.out, ← HG1.out, HGC.out]; exact hgf
                  · rw [HS.out, limS]; dsimp only; rw [HALL.out, clss_drop]
                  · rw [HS.out, limS, limG1]; dsimp only; rw [HALL.out, ← HTT.out, ← HG1.out, HGC.out, HX0.out, ← hz.out.2]; exact clss_push rfl hp'
              · have hgf := ht
                have HGC := Lib.hid (show limGC TT G1 = TT by unfold limGC; rw [k2, k3]; rfl)
                by_cases hk2 : d2 = 1
                · have HN := Lib.hid (show n = 0 by omega)
                  subst hk2
                  go_upto_region 18 with fail
                  refine Loose.regionT_of (fun W => LmK w W [.float .f32 l, .float .f32 r, .float .f32 tv, .slice (some bd) n 0] [.float .f32 0, .float .f32 0, .float .f32 0, .slice none 0 0] ∧ Of W (w.heap.size + 2) (.slice (some bd) (n + 1) 1) (ls ++ [x]) ∧ Of W (w.heap.size + 2) u7 zs) 10 (by kernel_rfl) (by kernel_rfl) ⟨(by rw [HN.out]; exact ((hF2.out.drewN _).set 2 _ (by simp)).set 3 _ (by simp)), ((ho2.out.drewN _).put (by simp) _).put (by simp) _, ((hv2.out.drewN _).put (by simp) _).put (by simp) _⟩ ?_
                  clear hF2 ho2 hv2 O2 O3 p0 p2 p3 q2 q3
                  rintro W3 ⟨hF3, ho3, hv3⟩
                  obtain ⟨bd', x0, X0, e0, hc0, hx0, hxk0, hX0⟩ := (ho3.rd HL1.out).at_ (k := 0) (by omega)
                  cases e0
                  have hc0' : W3.cell? bd = some (.float .f32 x0) := by simpa [Addr.add] using hc0
                  have h0L : Loose.All [(⟨w.heap.size, 0, none⟩, .float .f32 l), (bd.add 0, .float .f32 x0), (bd, .float .f32 x0)] W3 := ⟨hF3.cp 0 _ rfl, hc0, hc0', trivial⟩
                  refine ⟨_, h0L, ?_⟩
                  simp only [List.take_succ_cons, List.take_zero, List.drop_succ_cons, List.drop_zero]
                  have HF := Lib.hid hF3
                  have HO := Lib.hid ho3
                  have HV := Lib.hid hv3
                  have HX0 := Lib.hid hX0
                  clear hF3 ho3 hv3 hc0 hc0' hxk0 hX0
                  apply Exists.intro
                  repeat
                    first
                      | (apply Loose.skipT; exact rfl; simp only [Act.put, List.setIfInBounds_toArray, List.set_cons_zero, List.set_cons_succ])
                      | (apply Loose.quietT h0L; exact rfl; exact rfl; intro K hK; go_big_quiet_op; go_big_quiet_on)
                      | (apply Loose.quietT h0L; exact rfl; exact rfl; intro K hK; go_big_quiet_op; apply Exists.intro; refine ⟨fun w' hw' => ?_, ?_⟩
                         · (first | exact rfl | (have l := hw'.all; simp only [Loose.All] at l; go_simp; rfl))
                         go_big_quiet_on)
                      | (apply Loose.fl32T; exact rfl; (intro w' hw'; apply Exists.intro; apply Exists.intro; refine ⟨?_, ?_⟩; (go_simp; exact ⟨rfl, rfl⟩); exact Fl.fr (by assumption) (by assumption) _ _); intro r_ f_; simp only [Act.put, List.setIfInBounds_toArray, List.set_cons_zero, List.set_cons_succ])
                      | (apply Loose.exactT h0L; exact rfl; (intro w' hw'; first | (go_simp; rfl) | (have l := hw'.all; simp only [Loose.All] at l; go_simp; rfl)); simp only [Act.put, List.setIfInBounds_toArray, List.set_cons_zero, List.set_cons_succ])
                  apply Loose.flcallT
                  · exact rfl
                  · intro w' hw'; go_simp; exact ⟨rfl, rfl⟩
                  · intro w' hw'; exact (fun W => impl_clipped f_ hl W) _
                  intro r_z f_z
                  simp only [Act.put, List.setIfInBounds_toArray, List.set_cons_zero, List.set_cons_succ]
                  apply Loose.build1T (e := 22)
                  · exact rfl
                  · intro w' hw'
                    refine ⟨_, f_z, ?_⟩
                    go_simp
                  intro ap
                  simp only [Act.put, List.setIfInBounds_toArray, List.set_cons_zero, List.set_cons_succ]
                  apply Loose.doneT
                  rintro w3 - hb3 ⟨-, p, hp', hrp⟩
                  have hF4 := HF.out.below hb3
                  have ho4 := HO.out.below hb3
                  have hv4 := HV.out.below hb3
                  clear HF HO HV h0L hb3
                  have hzl := len_of hz.out.2 (m := 1048576) (by rw [limT_len, List.length_take]; omega)
                  have hlx : ((ls ++ [x]).drop 1).length = n := by rw [List.length_drop, HL1.out] <;> omega
                  have hT : (ls ++ [x]).drop 1 = [] := by have := HLS.out; rw [HN.out] at this; rw [List.eq_nil_of_length_eq_zero this]; rfl
                  have HRD := Lib.hid (fun (W : World) (e : Of W (w.heap.size + 2) (.slice (some bd) (n + 1) 1) (ls ++ [x])) => show Rd W (some bd) n ((ls ++ [x]).drop 1) by rw [hT, HN.out]; exact Rd.zero _ _)
                  clear hT
                  have HLX := Lib.hid hlx
                  clear hlx
                  go_wp2_with (at_builtin; refine ap_slice (w.heap.size + 2) rfl _ _ 25 22 rfl Try.underlying25 info_f32 u7 zs [p] _ _ _ rfl rfl hv4 hrp hF4.sz (by omega) (by decide) ?_; intro v1 w4 hv5 hg5 hat5)
                  refine ⟨⟨k + 1, (ls ++ [x]).drop 1, _, tv, some bd, 0, _, _, by omega, by go_num, hv5, ho4.other hg5 (ne_swap' hap1.out), apart_new hap1.out hat5 ho4.lt, hF4.grown hg5 hv4.base, ?_, HRD, Lib.hid ⟨?_, ?_, HLX.out⟩⟩, by simp [intOf]; omega⟩
                  · rw [HS.out, limS, limG1]; dsimp only; rw [HALL.out, ← HTT.out, ← HG1.out, HGC.out]; exact hgf
                  · rw [HS.out, limS]; dsimp only; rw [HALL.out, clss_drop]
                  · rw [HS.out, limS, limG1]; dsimp only; rw [HALL.out, ← HTT.out, ← HG1.out, HGC.out, HX0.out, ← hz.out.2]; exact clss_push rfl hp'
                · go_upto_region 18 with fail
                  refine Loose.regionT_of (fun W => LmK w W [.float .f32 l, .float .f32 r, .float .f32 tv, .slice (some (bd.add 1)) n (d2 - 1)] [.float .f32 0, .float .f32 0, .float .f32 0, .slice none 0 0] ∧ Of W (w.heap.size + 2) (.slice (some bd) (n + 1) d2) (ls ++ [x]) ∧ Of W (w.heap.size + 2) u7 zs) 10 (by kernel_rfl) (by kernel_rfl) ⟨((hF2.out.drewN _).set 2 _ (by simp)).set 3 _ (by simp), ((ho2.out.drewN _).put (by simp) _).put (by simp) _, ((hv2.out.drewN _).put (by simp) _).put (by simp) _⟩ ?_
                  clear hF2 ho2 hv2 O2 O3 p0 p2 p3 q2 q3
                  rintro W3 ⟨hF3, ho3, hv3⟩
                  obtain ⟨bd', x0, X0, e0, hc0, hx0, hxk0, hX0⟩ := (ho3.rd HL1.out).at_ (k := 0) (by omega)
                  cases e0
                  have hc0' : W3.cell? bd = some (.float .f32 x0) := by simpa [Addr.add] using hc0
                  have h0L : Loose.All [(⟨w.heap.size, 0, none⟩, .float .f32 l), (bd.add 0, .float .f32 x0), (bd, .float .f32 x0)] W3 := ⟨hF3.cp 0 _ rfl, hc0, hc0', trivial⟩
                  refine ⟨_, h0L, ?_⟩
                  simp only [List.take_succ_cons, List.take_zero, List.drop_succ_cons, List.drop_zero]
                  have HF := Lib.hid hF3
                  have HO := Lib.hid ho3
                  have HV := Lib.hid hv3
                  have HX0 := Lib.hid hX0
                  clear hF3 ho3 hv3 hc0 hc0' hxk0 hX0
                  apply Exists.intro
                  repeat
                    first
                      | (apply Loose.skipT; exact rfl; simp only [Act.put, List.setIfInBounds_toArray, List.set_cons_zero, List.set_cons_succ])
                      | (apply Loose.quietT h0L; exact rfl; exact rfl; intro K hK; go_big_quiet_op; go_big_quiet_on)
                      | (apply Loose.quietT h0L; exact rfl; exact rfl; intro K hK; go_big_quiet_op; apply Exists.intro; refine ⟨fun w' hw' => ?_, ?_⟩
                         · (first | exact rfl | (have l := hw'.all; simp only [Loose.All] at l; go_simp; rfl))
                         go_big_quiet_on)
                      | (apply Loose.fl32T; exact rfl; (intro w' hw'; apply Exists.intro; apply Exists.intro; refine ⟨?_, ?_⟩; (go_simp; exact ⟨rfl, rfl⟩); exact Fl.fr (by assumption) (by assumption) _ _); intro r_ f_; simp only [Act.put, List.setIfInBounds_toArray, List.set_cons_zero, List.set_cons_succ])
                      | (apply Loose.exactT h0L; exact rfl; (intro w' hw'; first | (go_simp; rfl) | (have l := hw'.all; simp only [Loose.All] at l; go_simp; rfl)); simp only [Act.put, List.setIfInBounds_toArray, List.set_cons_zero, List.set_cons_succ])
                  apply Loose.flcallT
                  · exact rfl
                  · intro w' hw'; go_simp; exact ⟨rfl, rfl⟩
                  · intro w' hw'; exact (fun W => impl_clipped f_ hl W) _
                  intro r_z f_z
                  simp only [Act.put, List.setIfInBounds_toArray, List.set_cons_zero, List.set_cons_succ]
                  apply Loose.build1T (e := 22)
                  · exact rfl
                  · intro w' hw'
                    refine ⟨_, f_z, ?_⟩
                    go_simp
                  intro ap
                  simp only [Act.put, List.setIfInBounds_toArray, List.set_cons_zero, List.set_cons_succ]
                  apply Loose.doneT
                  rintro w3 - hb3 ⟨-, p, hp', hrp⟩
                  have hF4 := HF.out.below hb3
                  have ho4 := HO.out.below hb3
                  have hv4 := HV.out.below hb3
                  clear HF HO HV h0L hb3
                  have hzl := len_of hz.out.2 (m := 1048576) (by rw [limT_len, List.length_take]; omega)
                  have hlx : ((ls ++ [x]).drop 1).length = n := by rw [List.length_drop, HL1.out] <;> omega
                  have HRD := Lib.hid (fun (W : World) (e : Of W (w.heap.size + 2) (.slice (some bd) (n + 1) d2) (ls ++ [x])) => show Rd W (some (bd.add 1)) n ((ls ++ [x]).drop 1) by have := (e.rd HL1.out).tail 1 (by omega); simpa using this)
                  have HLX := Lib.hid hlx
                  clear hlx
                  go_wp2_with (at_builtin; refine ap_slice (w.heap.size + 2) rfl _ _ 25 22 rfl Try.underlying25 info_f32 u7 zs [p] _ _ _ rfl rfl hv4 hrp hF4.sz (by omega) (by decide) ?_; intro v1 w4 hv5 hg5 hat5)
                  refine ⟨⟨k + 1, (ls ++ [x]).drop 1, _, tv, some (bd.add 1), d2 - 1, _, _, by omega, by go_num, hv5, ho4.other hg5 (ne_swap' hap1.out), apart_new hap1.out hat5 ho4.lt, hF4.grown hg5 hv4.base, ?_, HRD, Lib.hid ⟨?_, ?_, HLX.out⟩⟩, by simp [intOf]; omega⟩
                  · rw [HS.out, limS, limG1]; dsimp only; rw [HALL.out, ← HTT.out, ← HG1.out, HGC.out]; exact hgf
                  · rw [HS.out, limS]; dsimp only; rw [HALL.out, clss_drop]
                  · rw [HS.out, limS, limG1]; dsimp only; rw [HALL.out, ← HTT.out, ← HG1.out, HGC.out, HX0.out, ← hz.out.2]; exact clss_push rfl hp'
            · have hgf := ht
              have HGC := Lib.hid (show limGC TT G1 = TT by unfold limGC; rw [k2]; rfl)
              by_cases hk2 : d2 = 1
              · have HN := Lib.hid (show n = 0 by omega)
                subst hk2
                go_upto_region 18 with fail
                refine Loose.regionT_of (fun W => LmK w W [.float .f32 l, .float .f32 r, .float .f32 tv, .slice (some bd) n 0] [.float .f32 0, .float .f32 0, .float .f32 0, .slice none 0 0] ∧ Of W (w.heap.size + 2) (.slice (some bd) (n + 1) 1) (ls ++ [x]) ∧ Of W (w.heap.size + 2) u7 zs) 10 (by kernel_rfl) (by kernel_rfl) ⟨(by rw [HN.out]; exact ((hF2.out.drewN _).set 2 _ (by simp)).set 3 _ (by simp)), ((ho2.out.drewN _).put (by simp) _).put (by simp) _, ((hv2.out.drewN _).put (by simp) _).put (by simp) _⟩ ?_
                clear hF2 ho2 hv2 O2 O3 p0 p2 p3 q2 q3
                rintro W3 ⟨hF3, ho3, hv3⟩
                obtain ⟨bd', x0, X0, e0, hc0, hx0, hxk0, hX0⟩ := (ho3.rd HL1.out).at_ (k := 0) (by omega)
                cases e0
                have hc0' : W3.cell? bd = some (.float .f32 x0) := by simpa [Addr.add] using hc0
                have h0L : Loose.All [(⟨w.heap.size, 0, none⟩, .float .f32 l), (bd.add 0, .float .f32 x0), (bd, .float .f32 x0)] W3 := ⟨hF3.cp 0 _ rfl, hc0, hc0', trivial⟩
                refine ⟨_, h0L, ?_⟩
                simp only [List.take_succ_cons, List.take_zero, List.drop_succ_cons, List.drop_zero]
                have HF := Lib.hid hF3
                have HO := Lib.hid ho3
                have HV := Lib.hid hv3
                have HX0 := Lib.hid hX0
                clear hF3 ho3 hv3 hc0 hc0' hxk0 hX0
                apply Exists.intro
                repeat
                  first
                    | (apply Loose.skipT; exact rfl; simp only [Act.put, List.setIfInBounds_toArray, List.set_cons_zero, List.set_cons_succ])
                    | (apply Loose.quietT h0L; exact rfl; exact rfl; intro K hK; go_big_quiet_op; go_big_quiet_on)
                    | (apply Loose.quietT h0L; exact rfl; exact rfl; intro K hK; go_big_quiet_op; apply Exists.intro; refine ⟨fun w' hw' => ?_, ?_⟩
                       · (first | exact rfl | (have l := hw'.all; simp only [Loose.All] at l; go_simp; rfl))
                       go_big_quiet_on)
                    | (apply Loose.fl32T; exact rfl; (intro w' hw'; apply Exists.intro; apply Exists.intro; refine ⟨?_, ?_⟩; (go_simp; exact ⟨rfl, rfl⟩); exact Fl.fr (by assumption) (by assumption) _ _); intro r_ f_; simp only [Act.put, List.setIfInBounds_toArray, List.set_cons_zero, List.set_cons_succ])
                    | (apply Loose.exactT h0L; exact rfl; (intro w' hw'; first | (go_simp; rfl) | (have l := hw'.all; simp only [Loose.All] at l; go_simp; rfl)); simp only [Act.put, List.setIfInBounds_toArray, List.set_cons_zero, List.set_cons_succ])
                apply Loose.flcallT
                · exact rfl
                · intro w' hw'; go_simp; exact ⟨rfl, rfl⟩
                · intro w' hw'; exact (fun W => impl_clipped f_ hl W) _
                intro r_z f_z
                simp only [Act.put, List.setIfInBounds_toArray, List.set_cons_zero, List.set_cons_succ]
                apply Loose.build1T (e := 22)
                · exact rfl
                · intro w' hw'
                  refine ⟨_, f_z, ?_⟩
                  go_simp
                intro ap
                simp only [Act.put, List.setIfInBounds_toArray, List.set_cons_zero, List.set_cons_succ]
                apply Loose.doneT
                rintro w3 - hb3 ⟨-, p, hp', hrp⟩
                have hF4 := HF.out.below hb3
                have ho4 := HO.out.below hb3
                have hv4 := HV.out.below hb3
                clear HF HO HV h0L hb3
                have hzl := len_of hz.out.2 (m := 1048576) (by rw [limT_len, List.length_take]; omega)
                have hlx : ((ls ++ [x]).drop 1).length = n := by rw [List.length_drop, HL1.out] <;> omega
                have hT : (ls ++ [x]).drop 1 = [] := by have := HLS.out; rw [HN.out] at this; rw [List.eq_nil_of_length_eq_zero this]; rfl
                have HRD := Lib.hid (fun (W : World) (e : Of W (w.heap.size + 2) (.slice (some bd) (n + 1) 1) (ls ++ [x])) => show Rd W (some bd) n ((ls ++ [x]).drop 1) by rw [hT, HN.out]; exact Rd.zero _ _)
                clear hT
                have HLX := Lib.hid hlx
                clear hlx
                go_wp2_with (at_builtin; refine ap_slice (w.heap.size + 2) rfl _ _ 25 22 rfl Try.underlying25 info_f32 u7 zs [p] _ _ _ rfl rfl hv4 hrp hF4.sz (by omega) (by decide) ?_; intro v1 w4 hv5 hg5 hat5)
                refine ⟨⟨k + 1, (ls ++ [x]).drop 1, _, tv, some bd, 0, _, _, by omega, by go_num, hv5, ho4.other hg5 (ne_swap' hap1.out), apart_new hap1.out hat5 ho4.lt, hF4.grown hg5 hv4.base, ?_, HRD, Lib.hid ⟨?_, ?_, HLX.out⟩⟩, by simp [intOf]; omega⟩
                · rw [HS.out, limS, limG1]; dsimp only; rw [HALL.out, ← HTT.out, ← HG1.out, HGC.out]; exact hgf
                · rw [HS.out, limS]; dsimp only; rw [HALL.out, clss_drop]
                · rw [HS.out, limS, limG1]; dsimp only; rw [HALL.out, ← HTT.out, ← HG1.out, HGC.out, HX0.out, ← hz.out.2]; exact clss_push rfl hp'
              · go_upto_region 18 with fail
                refine Loose.regionT_of (fun W => LmK w W [.float .f32 l, .float .f32 r, .float .f32 tv, .slice (some (bd.add 1)) n (d2 - 1)] [.float .f32 0, .float .f32 0, .float .f32 0, .slice none 0 0] ∧ Of W (w.heap.size + 2) (.slice (some bd) (n + 1) d2) (ls ++ [x]) ∧ Of W (w.heap.size + 2) u7 zs) 10 (by kernel_rfl) (by kernel_rfl) ⟨((hF2.out.drewN _).set 2 _ (by simp)).set 3 _ (by simp), ((ho2.out.drewN _).put (by simp) _).put (by simp) _, ((hv2.out.drewN _).put (by simp) _).put (by simp) _⟩ ?_
                clear hF2 ho2 hv2 O2 O3 p0 p2 p3 q2 q3
                rintro W3 ⟨hF3, ho3, hv3⟩
                obtain ⟨bd', x0, X0, e0, hc0, hx0, hxk0, hX0⟩ := (ho3.rd HL1.out).at_ (k := 0) (by omega)
                cases e0
                have hc0' : W3.cell? bd = some (.float .f32 x0) := by simpa [Addr.add] using hc0
                have h0L : Loose.All [(⟨w.heap.size, 0, none⟩, .float .f32 l), (bd.add 0, .float .f32 x0), (bd, .float .f32 x0)] W3 := ⟨hF3.cp 0 _ rfl, hc0, hc0', trivial⟩
                refine ⟨_, h0L, ?_⟩
                simp only [List.take_succ_cons, List.take_zero, List.drop_succ_cons, List.drop_zero]
                have HF := Lib.hid hF3
                have HO := Lib.hid ho3
                have HV := Lib.hid hv3
                have HX0 := Lib.hid hX0
                clear hF3 ho3 hv3 hc0 hc0' hxk0 hX0
                apply Exists.intro
                repeat
                  first
                    | (apply Loose.skipT; exact rfl; simp only [Act.put, List.setIfInBounds_toArray, List.set_cons_zero, List.set_cons_succ])
                    | (apply Loose.quietT h0L; exact rfl; exact rfl; intro K hK; go_big_quiet_op; go_big_quiet_on)
                    | (apply Loose.quietT h0L; exact rfl; exact rfl; intro K hK; go_big_quiet_op; apply Exists.intro; refine ⟨fun w' hw' => ?_, ?_⟩
                       · (first | exact rfl | (have l := hw'.all; simp only [Loose.All] at l; go_simp; rfl))
                       go_big_quiet_on)
                    | (apply Loose.fl32T; exact rfl; (intro w' hw'; apply Exists.intro; apply Exists.intro; refine ⟨?_, ?_⟩; (go_simp; exact ⟨rfl, rfl⟩); exact Fl.fr (by assumption) (by assumption) _ _); intro r_ f_; simp only [Act.put, List.setIfInBounds_toArray, List.set_cons_zero, List.set_cons_succ])
                    | (apply Loose.exactT h0L; exact rfl; (intro w' hw'; first | (go_simp; rfl) | (have l := hw'.all; simp only [Loose.All] at l; go_simp; rfl)); simp only [Act.put, List.setIfInBounds_toArray, List.set_cons_zero, List.set_cons_succ])
                apply Loose.flcallT
                · exact rfl
                · intro w' hw'; go_simp; exact ⟨rfl, rfl⟩
                · intro w' hw'; exact (fun W => impl_clipped f_ hl W) _
                intro r_z f_z
                simp only [Act.put, List.setIfInBounds_toArray, List.set_cons_zero, List.set_cons_succ]
                apply Loose.build1T (e := 22)
                · exact rfl
                · intro w' hw'
                  refine ⟨_, f_z, ?_⟩
                  go_simp
                intro ap
                simp only [Act.put, List.setIfInBounds_toArray, List.set_cons_zero, List.set_cons_succ]
                apply Loose.doneT
                rintro w3 - hb3 ⟨-, p, hp', hrp⟩
                have hF4 := HF.out.below hb3
                have ho4 := HO.out.below hb3
                have hv4 := HV.out.below hb3
                clear HF HO HV h0L hb3
                have hzl := len_of hz.out.2 (m := 1048576) (by rw [limT_len, List.length_take]; omega)
                have hlx : ((ls ++ [x]).drop 1).length = n := by rw [List.length_drop, HL1.out] <;> omega
                have HRD := Lib.hid (fun (W : World) (e : Of W (w.heap.size + 2) (.slice (some bd) (n + 1) d2) (ls ++ [x])) => show Rd W (some (bd.add 1)) n ((ls ++ [x]).drop 1) by have := (e.rd HL1.out).tail 1 (by omega); simpa using this)
                have HLX := Lib.hid hlx
                clear hlx
                go_wp2_with (at_builtin; refine ap_slice (w.heap.size + 2) rfl _ _ 25 22 rfl Try.underlying25 info_f32 u7 zs [p] _ _ _ rfl rfl hv4 hrp hF4.sz (by omega) (by decide) ?_; intro v1 w4 hv5 hg5 hat5)
                refine ⟨⟨k + 1, (ls ++ [x]).drop 1, _, tv, some (bd.add 1), d2 - 1, _, _, by omega, by go_num, hv5, ho4.other hg5 (ne_swap' hap1.out), apart_new hap1.out hat5 ho4.lt, hF4.grown hg5 hv4.base, ?_, HRD, Lib.hid ⟨?_, ?_, HLX.out⟩⟩, by simp [intOf]; omega⟩
                · rw [HS.out, limS, limG1]; dsimp only; rw [HALL.out, ← HTT.out, ← HG1.out, HGC.out]; exact hgf
                · rw [HS.out, limS]; dsimp only; rw [HALL.out, clss_drop]
                · rw [HS.out, limS, limG1]; dsimp only; rw [HALL.out, ← HTT.out, ← HG1.out, HGC.out, HX0.out, ← hz.out.2]; exact clss_push rfl hp'
        · obtain rfl : k = m := by omega
          have hz1 := hz.out
          rw [clss_all HY.out (Nat.le_refl _) (by omega)] at hz1 hgg
          have p3 := hF.cp 3 _ rfl
          have HZ1 := Lib.hid hz1
          clear hz hz1 hap h h'
          go_wp2_with fail
          refine (impl_copyNumbers _ (HR.out _ hV) hn).mono ?_
          rintro e W4 ⟨u, rfl, hou, hb4⟩
          obtain ⟨A3, c3, rfl⟩ := hou.shape_n HZ1.out.2.2
          have HP := Lib.hid (own_apart (vi := u7) (vj := .slice A3 n c3) hv.lt hou.base (Nat.le_refl _))
          have hF0 := hF.below hb4
          have hF2 := Lib.hid (hF0.set 3 (.slice A3 n c3) (by simp))
          have ho2 := Lib.hid ((hou.low hF.sz).put (a := ⟨w.heap.size, 3, none⟩) (by simp) (.slice A3 n c3))
          have hv2 := Lib.hid ((hv.below hb4).put (a := ⟨w.heap.size, 3, none⟩) (by simp) (.slice A3 n c3))
          clear p3
          have p3 := hF0.cp 3 _ rfl
          have q3 := hF0.fp 3
          clear hF hV hv hF0 hou hb4 HR
          go_upto_region 21 with fail
          clear p3 q3
          refine Loose.regionT_of (fun W => LmK w W [.float .f32 l, .float .f32 r, .float .f32 gg, .slice A3 n c3] [.float .f32 0, .float .f32 0, .float .f32 0, .slice none 0 0] ∧ Of W (w.heap.size + 2) (.slice A3 n c3) ls ∧ Of W (w.heap.size + 2) u7 zs) 3 (by kernel_rfl) (by kernel_rfl) ⟨hF2.out, ho2.out, hv2.out⟩ ?_
          clear hF2 ho2 hv2
          rintro W3 ⟨hF3, ho3, hv3⟩
          have h0L : Loose.All [(⟨w.heap.size, 0, none⟩, .float .f32 l), (⟨w.heap.size, 1, none⟩, .float .f32 r), (⟨w.heap.size, 2, none⟩, .float .f32 gg), (⟨w.heap.size, 3, none⟩, .slice A3 n c3)] W3 := ⟨hF3.cp 0 _ rfl, hF3.cp 1 _ rfl, hF3.cp 2 _ rfl, hF3.cp 3 _ rfl, trivial⟩
          refine ⟨_, h0L, ?_⟩
          simp only [List.take_succ_cons, List.take_zero, List.drop_succ_cons, List.drop_zero]
          have HF := Lib.hid hF3
          have HO := Lib.hid ho3
          have HV := Lib.hid hv3
          clear hF3 ho3 hv3
          apply Exists.intro
          repeat
            first
              | (apply Loose.skipT; exact rfl; simp only [Act.put, List.setIfInBounds_toArray, List.set_cons_zero, List.set_cons_succ])
              | (apply Loose.quietT h0L; exact rfl; exact rfl; intro K hK; go_big_quiet_op; go_big_quiet_on)
              | (apply Loose.quietT h0L; exact rfl; exact rfl; intro K hK; go_big_quiet_op; apply Exists.intro; refine ⟨fun w' hw' => ?_, ?_⟩
                 · (first | exact rfl | (have l := hw'.all; simp only [Loose.All] at l; go_simp; rfl))
                 go_big_quiet_on)
              | (apply Loose.fl32T; exact rfl; (intro w' hw'; apply Exists.intro; apply Exists.intro; refine ⟨?_, ?_⟩; (go_simp; exact ⟨rfl, rfl⟩); exact Fl.fr (by assumption) (by assumption) _ _); intro r_ f_; simp only [Act.put, List.setIfInBounds_toArray, List.set_cons_zero, List.set_cons_succ])
              | (apply Loose.exactT h0L; exact rfl; (intro w' hw'; first | (go_simp; rfl) | (have l := hw'.all; simp only [Loose.All] at l; go_simp; rfl)); simp only [Act.put, List.setIfInBounds_toArray, List.set_cons_zero, List.set_cons_succ])
          apply Loose.doneT
          rintro w3 - hb3 -
          have hF4 := HF.out.below hb3
          have ho4 := HO.out.below hb3
          have hv4 := HV.out.below hb3
          clear HF HO HV h0L hb3
          have r0 := hF4.cr 0 _ rfl
          have r1 := hF4.cr 1 _ rfl
          have r2 := hF4.cr 2 _ rfl
          have r3 := hF4.cr 3 _ rfl
          have t0 := hF4.fr 0
          have t1 := hF4.fr 1
          have t2 := hF4.fr 2
          have t3 := hF4.fr 3
          go_wp2
          refine bodyPost_ret (v := .tuple #[u7, .agg #[.float .f32 l, .float .f32 r, .float .f32 gg, .slice A3 n c3], .bool true]) ?_ rfl ?_
          · simp [results, Try.results49, go_sem, r0, r1, r2, r3]
          · rw [HRS.out, HOK.out]
            refine ⟨_, _, _, _, _, _, _, rfl, ?_, HZ1.out.2.1, len_of HZ1.out.2.1 (by rw [limT_len, clss_length, HY.out]; exact hm), hl, hr, hgg, ?_, HZ1.out.1, by rw [HZ1.out.2.2]; omega, HP.out, (((hF4.bel.setCell (by simp) _).setCell (by simp) _).setCell (by simp) _).setCell (by simp) _⟩
            · exact ((((hv4.put (by simp) _).put (by simp) _).put (by simp) _).put (by simp) _).low (by omega)
            · exact ((((ho4.put (by simp) _).put (by simp) _).put (by simp) _).put (by simp) _).low (by omega)
    · rw [decide_eq_false h64] at hok
      have hne : (64 : Int) < (n : Int) := by omega
      go_enter Try.func49, Try.ntmps49
      go_wp2_with fail
      generalize World.alloc (World.alloc w _) _ = W0 at *
      have p0 := hK.cp 0 _ rfl
      have p3 := hK.cp 3 _ rfl
      have r0 := hK.cr 0 _ rfl
      have r1 := hK.cr 1 _ rfl
      have r2 := hK.cr 2 _ rfl
      have r3 := hK.cr 3 _ rfl
      have t0 := hK.fr 0
      have t1 := hK.fr 1
      have t2 := hK.fr 2
      have t3 := hK.fr 3
      go_wp2_with (first | (go_at_call 61; refine (impl_areSamples hm _).mono ?_; rintro e w' ⟨rfl, rfl⟩) | (go_at_call 90; refine (impl_isLimit hl _).mono ?_; rintro e w' ⟨rfl, q, rfl⟩))
      all_goals
        refine bodyPost_ret (v := .tuple #[.slice none 0 0, .agg #[.float .f32 0, .float .f32 0, .float .f32 0, .slice none 0 0], .bool false]) ?_ rfl ?_
        · simp [results, Try.results49, go_sem, r0, r1, r2, r3]
        · rw [limRes_no hok]
          try rw [hok]
          refine ⟨_, [], _, _, _, _, [], rfl, .nil _ _ _, rfl, by simp, zero_fl, zero_fl, zero_fl, .nil _ _ _, rfl, by simp, .inl rfl, ?_⟩
          first | exact (((hK.bel.setCell (by simp) _).setCell (by simp) _).setCell (by simp) _).setCell (by simp) _ | exact below_drewN ((((hK.bel.setCell (by simp) _).setCell (by simp) _).setCell (by simp) _).setCell (by simp) _) _ | exact hK.bel | exact below_drewN hK.bel _
  all_goals
    go_enter Try.func49, Try.ntmps49
    go_wp2_with fail
    generalize World.alloc (World.alloc w _) _ = W0 at *
    have p0 := hK.cp 0 _ rfl
    have p3 := hK.cp 3 _ rfl
    have r0 := hK.cr 0 _ rfl
    have r1 := hK.cr 1 _ rfl
    have r2 := hK.cr 2 _ rfl
    have r3 := hK.cr 3 _ rfl
    have t0 := hK.fr 0
    have t1 := hK.fr 1
    have t2 := hK.fr 2
    have t3 := hK.fr 3
    go_wp2_with (first | (go_at_call 61; refine (impl_areSamples hm _).mono ?_; rintro e w' ⟨rfl, rfl⟩) | (go_at_call 90; refine (impl_isLimit hl _).mono ?_; rintro e w' ⟨rfl, q, rfl⟩))
    all_goals
      refine bodyPost_ret (v := .tuple #[.slice none 0 0, .agg #[.float .f32 0, .float .f32 0, .float .f32 0, .slice none 0 0], .bool false]) ?_ rfl ?_
      · simp [results, Try.results49, go_sem, r0, r1, r2, r3]
      · rw [limRes_no hok]
        try rw [hok]
        refine ⟨_, [], _, _, _, _, [], rfl, .nil _ _ _, rfl, by simp, zero_fl, zero_fl, zero_fl, .nil _ _ _, rfl, by simp, .inl rfl, ?_⟩
        first | exact (((hK.bel.setCell (by simp) _).setCell (by simp) _).setCell (by simp) _).setCell (by simp) _ | exact below_drewN ((((hK.bel.setCell (by simp) _).setCell (by simp) _).setCell (by simp) _).setCell (by simp) _) _ | exact hK.bel | exact below_drewN hK.bel _
end Go.Proofs.Ytbaokmapgdnhlaa
