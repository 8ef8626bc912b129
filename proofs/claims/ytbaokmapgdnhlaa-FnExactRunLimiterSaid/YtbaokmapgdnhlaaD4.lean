/- The walk of the law on passes: the runs. Conditions: none beside the contracts' own. -/
import Derived.Test.YtbaokmapgdnhlaaD3
import Derived.Handy
import Derived.Deep.QuietTactic
import Derived.BigQuiet
set_option linter.unusedVariables false
set_option linter.unusedSimpArgs false
namespace Go.Proofs.Ytbaokmapgdnhlaa
open Go.RowKit
theorem qs {P : Program} {f : FuncId} {args : Array Value} {w : World} {n : Nat} {v : Value} (h : Calls P f args (w.drewN n) fun e w' => e = .returned v ∧ w.drewN n = w') : Calls P f args (w.drewN n) fun e w'' => e = .returned v ∧ ∃ m, w'' = w.drewN m :=
  h.mono fun _ _ ⟨he, hm⟩ => ⟨he, n, hm.symm⟩
set_option maxHeartbeats 1600000 in
theorem spec_RunPass {len : Int} {g : Nat} {G : Option Nat} {A A' : Option Addr} {n m c c' : Nat} {xs ys : List Nat} (w : World) (hg : Fl .f32 g G) (h : Rd w A n xs) (hn : n ≤ 1048576) (h' : Rd w A' m ys) (hm : m ≤ 1048576) :
    Calls Try.prog 13 #[.agg #[.int .i64 len, .float .f32 g], .slice A n c, .slice A' m c'] w (RSSB (passNC len n m G (clss xs) (clss ys)) (lineOk len n m) w) := by
  have hal := fun o => (Below.refl _ w).alloc (Nat.le_refl _) o
  unfold passNC
  cases hf : lineOk len n m <;> simp only [Bool.false_eq_true, if_true, if_false]
  · rcases line_not hf with h1 | ⟨h1, h2⟩ | ⟨h1, rfl, h2⟩
    all_goals
      clear hf
      go_enter Try.func13, Try.ntmps13
      go_wp2_with (first | (go_at_call 55; refine (spec_l03Length _ _).mono ?_; rintro e w' ⟨rfl, rfl⟩) | (go_at_call 56; refine (spec_l01Few hm _).mono ?_; rintro e w' ⟨rfl, rfl⟩))
      go_ret3
      exact ⟨_, _, _, _, rfl, .nil _ _ _, rfl, by simp, .nil _ _ _, rfl, by simp, .inl rfl, hal _⟩
  · obtain ⟨h1, rfl, hn0, hn64, h3⟩ := line_ok hf
    clear hf
    go_enter Try.func13, Try.ntmps13
    go_wp2_with fail
    obtain ⟨Wb, hWb⟩ : ∃ W, W = w.alloc (.cells #[.int .i64 (n : Int), .float .f32 g] 28) := ⟨_, rfl⟩
    rw [← hWb]
    have hB0 : Below w.heap.size w Wb := by rw [hWb]; exact hal _
    have hzb : Wb.heap.size = w.heap.size + 1 := by rw [hWb]; simp
    have hcb0 : Wb.cell? ⟨w.heap.size, 0, none⟩ = some (.int .i64 (n : Int)) := by rw [hWb]; simp [go_sem]
    have hcb : Wb.cell? ⟨w.heap.size, 1, none⟩ = some (.float .f32 g) := by rw [hWb]; simp [go_sem]
    have hlb : w.heap.size < Wb.heap.size := by omega
    have hr0 := h.below hB0
    have hr' := h'.below hB0
    have HX := Lib.hid h.len
    have HM := Lib.hid h'.len
    clear hWb hal h h' hzb
    go_wp2_with (first | (go_at_call 55; refine (spec_l03Length _ _).mono ?_; rintro e w' ⟨rfl, rfl⟩) | (go_at_call 56; refine (spec_l01Few hm _).mono ?_; rintro e w' ⟨rfl, rfl⟩))
    refine (spec_l03Own _ hr0 hn).mono ?_
    rintro e W1 ⟨v0, rfl, ho0, hb1⟩
    obtain ⟨A0, c0, rfl⟩ := ho0.shape_n HX.out
    have hs1 := hb1.size
    clear hcb0 hr0 h1 h3
    go_wp2_with fail
    go_loopw [10, 11] (fun v i w' => ∃ k zs ls, k ≤ m ∧ i = .int .i64 (k : Nat) ∧ Of w' Wb.heap.size v zs ∧ Of w' Wb.heap.size (.slice A0 n c0) ls ∧ (v.ownBlock = none ∨ v.ownBlock ≠ (Value.slice A0 n c0).ownBlock) ∧ Hid (clss zs = (passT G (clss xs) ((clss ys).take k)).1 ∧ clss ls = (passT G (clss xs) ((clss ys).take k)).2 ∧ ls.length = n) ∧ Below Wb.heap.size Wb w') (fun _ i _ => m - (intOf i).toNat)
    case atStart =>
      have hb2 : Below W1.heap.size W1 (W1.alloc (.cells #[] 22)) := (Below.refl _ _).alloc (Nat.le_refl _) _
      exact ⟨0, [], xs, Nat.zero_le _, rfl, .empty _ _ _ hs1, ho0.below hb2, own_apart' (Bi := W1.heap.size) (m := W1.heap.size) (fun k e => by simp [Value.ownBlock] at e; omega) ho0.lt (Nat.le_refl _), Lib.hid ⟨rfl, rfl, HX.out⟩, below_next hb1 hs1 hb2⟩
    case round =>
      obtain ⟨k, zs, ls, hk, rfl, ho, hoL, hd, hz, hb⟩ := hrel
      have hsz := hb.size
      by_cases hlt : k < m
      · obtain ⟨ad, x, X, rfl, hc, hx, hxk, hX⟩ := (hr'.below hb).at_ hlt
        have hzl := len_of hz.out.1 (m := 1048576) (by rw [passT_len, List.length_take]; omega)
        have hst : passT G (clss xs) ((clss ys).take (k + 1)) = passS G (passT G (clss xs) ((clss ys).take k)) X := by rw [clss_snoc hX, passT_snoc]
        have HS := Lib.hid hst
        have hcell := (cell_below (o := 1) hb hlb).trans hcb
        clear hst hX hr' ho0 hb1
        go_wp2_with fail
        refine (spec_l03Pass _ hoL hz.out.2.2 hn0 hn hg hx hcell hlb).mono ?_
        rintro e w2 ⟨r, ls1, rfl, hr, hoL1, hcl, hgr⟩
        have ho1 := ho.other hgr hd
        have hb1 := hb.grown hgr hsz hoL.base
        have hsz1 := hb1.size
        have hll : ls1.length = n := by have := congrArg List.length hcl; rw [clss_length] at this; rw [this]; simp [clss_length, hz.out.2.2]; omega
        have HLL := Lib.hid hll
        have HC := Lib.hid hcl
        clear hgr ho hoL hb hcell hsz hll hcl
        go_wp2_with (at_builtin; refine ap_float Wb.heap.size rfl _ _ 25 22 rfl Try.underlying25 info_f32 _ zs r rfl rfl (by exact ho1) hr.wf (by exact hb1) (by omega) (by omega) ?_; intro v1 w3 ho3 hb3 hg3 hat)
        refine ⟨⟨k + 1, _, ls1, by omega, by go_num, ho3, hoL1.other hg3 (ne_swap hd), apart_new hd hat hoL1.lt, Lib.hid ⟨?_, ?_, HLL.out⟩, hb3⟩, by simp [intOf]; omega⟩
        · rw [HS.out, passS]; dsimp only; rw [← hz.out.1, ← hz.out.2.1]; exact clss_push rfl hr
        · rw [HS.out, passS]; dsimp only; rw [← hz.out.2.1]; exact HC.out
      · go_wp2
        go_ret3
        have hz1 := hz.out
        rw [clss_all HM.out hk hlt] at hz1
        exact ⟨_, _, _, _, rfl, ho.low (Nat.le_of_lt hlb), hz1.1, len_of hz1.1 (by rw [passT_len, clss_length, HM.out]; exact hm), hoL.low (Nat.le_of_lt hlb), hz1.2.1, by have := hz1.2.2; omega, hd, below_next hB0 (Nat.le_of_lt hlb) hb⟩
set_option maxHeartbeats 1600000 in
theorem impl_RunPass {len : Int} {g : Nat} {G : Option Nat} {A A' : Option Addr} {n m c c' : Nat} {xs ys : List Nat} (w : World) (hg : Fl .f32 g G) (h : Rd w A n xs) (hn : n ≤ 1048576) (h' : Rd w A' m ys) (hm : m ≤ 1048576) :
    Calls Try.prog 16 #[.agg #[.int .i64 len, .float .f32 g], .slice A n c, .slice A' m c'] w (RSSB (passNC len n m G (clss xs) (clss ys)) (lineOk len n m) w) := by
  have hal := fun o => (Below.refl _ w).alloc (Nat.le_refl _) o
  unfold passNC
  cases hf : lineOk len n m <;> simp only [Bool.false_eq_true, if_true, if_false]
  · rcases line_not hf with h1 | ⟨h1, h2⟩ | ⟨h1, rfl, h2⟩
    all_goals
      clear hf
      go_enter Try.func16, Try.ntmps16
      go_wp2_with fail
      go_quiet (first
        | (go_at_call 59; refine qs (impl_isLength _ _))
        | (go_at_call 60; refine qs (impl_size _))
        | (go_at_call 61; refine qs (impl_areSamples hm _)))
      go_wp2
      go_ret3
      exact ⟨_, _, _, _, rfl, .nil _ _ _, rfl, by simp, .nil _ _ _, rfl, by simp, .inl rfl, below_drewN (hal _) _⟩
  · obtain ⟨h1, rfl, hn0, hn64, h3⟩ := line_ok hf
    clear hf
    go_enter Try.func16, Try.ntmps16
    go_wp2_with fail
    obtain ⟨Wb, hWb⟩ : ∃ W, W = w.alloc (.cells #[.int .i64 (n : Int), .float .f32 g] 28) := ⟨_, rfl⟩
    rw [← hWb]
    have hB0 : Below w.heap.size w Wb := by rw [hWb]; exact hal _
    have hzb : Wb.heap.size = w.heap.size + 1 := by rw [hWb]; simp
    have hcb0 : Wb.cell? ⟨w.heap.size, 0, none⟩ = some (.int .i64 (n : Int)) := by rw [hWb]; simp [go_sem]
    have hcb : Wb.cell? ⟨w.heap.size, 1, none⟩ = some (.float .f32 g) := by rw [hWb]; simp [go_sem]
    have hlb : w.heap.size < Wb.heap.size := by omega
    have hr0 := h.below hB0
    have hr' := h'.below hB0
    have HX := Lib.hid h.len
    have HM := Lib.hid h'.len
    clear hWb hal h h' hzb
    go_quiet (first
      | (go_at_call 59; refine qs (impl_isLength _ _))
      | (go_at_call 60; refine qs (impl_size _))
      | (go_at_call 61; refine qs (impl_areSamples hm _)))
    obtain ⟨Wc, hWc⟩ : ∃ W, W = Wb.drewN nq := ⟨_, rfl⟩
    rw [← hWc]
    replace hB0 : Below w.heap.size w Wc := by rw [hWc]; exact below_drewN hB0 _
    replace hcb0 : Wc.cell? ⟨w.heap.size, 0, none⟩ = some (.int .i64 (n : Int)) := by rw [hWc]; exact hcb0
    replace hcb : Wc.cell? ⟨w.heap.size, 1, none⟩ = some (.float .f32 g) := by rw [hWc]; exact hcb
    replace hlb : w.heap.size < Wc.heap.size := by rw [hWc]; simpa using hlb
    replace hr0 : Rd Wc A n xs := by rw [hWc]; exact hr0.drewN _
    replace hr' : Rd Wc A' m ys := by rw [hWc]; exact hr'.drewN _
    clear hWc h1 h3
    go_wp2_with fail
    refine (impl_copyNumbers _ hr0 hn).mono ?_
    rintro e W1 ⟨v0, rfl, ho0, hb1⟩
    have hs1 := hb1.size
    clear hr0
    go_wp2_with fail
    go_loopw [9, 10, 36] (fun u v i w' => ∃ k zs ls c0 A0, k ≤ m ∧ i = .int .i64 (k : Nat) ∧ u = .slice A0 n c0 ∧ Of w' Wc.heap.size v zs ∧ Of w' Wc.heap.size (.slice A0 n c0) ls ∧ (v.ownBlock = none ∨ v.ownBlock ≠ (Value.slice A0 n c0).ownBlock) ∧ Hid (clss zs = (passT G (clss xs) ((clss ys).take k)).1 ∧ clss ls = (passT G (clss xs) ((clss ys).take k)).2 ∧ ls.length = n) ∧ Below Wc.heap.size Wc w') (fun _ _ i _ => m - (intOf i).toNat)
    case atStart =>
      obtain ⟨A0, c0, rfl⟩ := ho0.shape_n HX.out
      exact ⟨0, [], xs, c0, A0, Nat.zero_le _, rfl, rfl, .nil _ _ _, ho0, .inl rfl, Lib.hid ⟨rfl, rfl, HX.out⟩, hb1⟩
    case round =>
      obtain ⟨k, zs, ls, c0, A0, hk, rfl, rfl, ho, hoL, hd, hz, hb⟩ := hrel
      have hsz := hb.size
      by_cases hlt : k < m
      · obtain ⟨ad, x, X, rfl, hc, hx, hxk, hX⟩ := (hr'.below hb).at_ hlt
        have hzl := len_of hz.out.1 (m := 1048576) (by rw [passT_len, List.length_take]; omega)
        have hst : passT G (clss xs) ((clss ys).take (k + 1)) = passS G (passT G (clss xs) ((clss ys).take k)) X := by rw [clss_snoc hX, passT_snoc]
        have HS := Lib.hid hst
        have hce0 := (cell_below (o := 0) hb hlb).trans hcb0
        have hce1 := (cell_below (o := 1) hb hlb).trans hcb
        clear hst hX hr' ho0 hb1
        go_wp2_with fail
        refine (impl_Pass_step _ (hoL.rd hz.out.2.2) (hoL.cap_n hz.out.2.2) hn0 hn hg hx).mono ?_
        rintro e w2 ⟨r, u1, ls1, rfl, hr, hoL1, hcl, hgr⟩
        have ho1 := ho.below hgr
        have hb1 := below_next hb hsz hgr
        have hsz1 := hb1.size
        have hll : ls1.length = n := by have := congrArg List.length hcl; rw [clss_length] at this; rw [this]; simp [clss_length, hz.out.2.2]; omega
        obtain ⟨A1, c1, rfl⟩ := hoL1.shape_n hll
        have hd1 := fresh_apart hoL1.base ho.lt
        have hoL2 := hoL1.low hsz
        have HLL := Lib.hid hll
        have HC := Lib.hid hcl
        clear hgr ho hoL hb hce0 hce1 hsz hll hcl hoL1 hd
        go_wp2_with (at_builtin; refine ap_float Wc.heap.size rfl _ _ 25 22 rfl Try.underlying25 info_f32 _ zs r rfl rfl (by exact ho1) hr.wf (by exact hb1) (by omega) (by omega) ?_; intro v1 w3 ho3 hb3 hg3 hat)
        refine ⟨⟨k + 1, _, ls1, c1, A1, by omega, by go_num, rfl, ho3, hoL2.other hg3 (ne_swap hd1), apart_new hd1 hat hoL2.lt, Lib.hid ⟨?_, ?_, HLL.out⟩, hb3⟩, by simp [intOf]; omega⟩
        · rw [HS.out, passS]; dsimp only; rw [← hz.out.1, ← hz.out.2.1]; exact clss_push rfl hr
        · rw [HS.out, passS]; dsimp only; rw [← hz.out.2.1]; exact HC.out
      · go_wp2
        go_ret3
        have hz1 := hz.out
        rw [clss_all HM.out hk hlt] at hz1
        exact ⟨_, _, _, _, rfl, ho.low (Nat.le_of_lt hlb), hz1.1, len_of hz1.1 (by rw [passT_len, clss_length, HM.out]; exact hm), hoL.low (Nat.le_of_lt hlb), hz1.2.1, by have := hz1.2.2; omega, hd, below_next hB0 (Nat.le_of_lt hlb) hb⟩
end Go.Proofs.Ytbaokmapgdnhlaa
