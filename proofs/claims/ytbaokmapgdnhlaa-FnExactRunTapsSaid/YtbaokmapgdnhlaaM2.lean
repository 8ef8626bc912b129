/- Taps: what they come to; the reference. Conditions: none beside the contracts' own. -/
import Derived.Test.YtbaokmapgdnhlaaM1
import Derived.Test.YtbaokmapgdnhlaaD4
import Derived.Test.YtbaokmapgdnhlaaZ4
import Derived.Test.YtbaokmapgdnhlaaL8
set_option linter.unusedVariables false
set_option linter.unusedSimpArgs false
namespace Go.Proofs.Ytbaokmapgdnhlaa
open Go.RowKit
theorem tapsC_true {n : Nat} {f : Nat → Int} (h : tapsC n f = true) : n ≤ 8 ∧ ∀ k, k < n → 0 ≤ f k ∧ f k ≤ 64 := by
  simp only [tapsC, Bool.and_eq_true, decide_eq_true_eq, upto, List.all_eq_true, List.mem_range] at h
  exact ⟨h.2, fun k hk => (inC_iff _ _ _).1 (h.1 k hk)⟩
def tapA (f0 : Nat → Int) (f1 : Nat → Nat) (L : List (Option Nat)) (i : Nat) : Nat → Option Nat
  | 0 => some 0
  | k + 1 => fadd (tapA f0 f1 L i k) (fmul (cls .f32 (f1 k)) ((L[64 + i - (f0 k).toNat]?).getD none))
def tapZ (f0 : Nat → Int) (f1 : Nat → Nat) (L : List (Option Nat)) (nT k : Nat) : List (Option Nat) := (List.range k).map (fun i => tapA f0 f1 L i nT)
theorem tapZ_len (f0 : Nat → Int) (f1 : Nat → Nat) (L : List (Option Nat)) (nT k : Nat) : (tapZ f0 f1 L nT k).length = k := by simp [tapZ]
theorem tapZ_snoc (f0 : Nat → Int) (f1 : Nat → Nat) (L : List (Option Nat)) (nT k : Nat) : tapZ f0 f1 L nT (k + 1) = tapZ f0 f1 L nT k ++ [tapA f0 f1 L k nT] := by simp [tapZ, List.range_succ]
def tapOk (nT n m : Nat) (f0 : Nat → Int) : Bool := tapsC nT f0 && decide (n = 64) && few m
def tapNC (nT n m : Nat) (f0 : Nat → Int) (f1 : Nat → Nat) (L X : List (Option Nat)) : List (Option Nat) × List (Option Nat) := if tapOk nT n m f0 = true then (tapZ f0 f1 (L ++ X) nT m, (L ++ X).drop m) else ([], [])
theorem tap_no {nT n m : Nat} {f0 : Nat → Int} {f1 : Nat → Nat} {L X : List (Option Nat)} (h : tapOk nT n m f0 = false) : tapNC nT n m f0 f1 L X = ([], []) := by unfold tapNC; rw [h]; rfl
theorem tap_yes {nT n m : Nat} {f0 : Nat → Int} {f1 : Nat → Nat} {L X : List (Option Nat)} (h : tapOk nT n m f0 = true) : tapNC nT n m f0 f1 L X = (tapZ f0 f1 (L ++ X) nT m, (L ++ X).drop m) := by unfold tapNC; rw [if_pos h]
theorem few_le {m : Nat} (h : few m = true) : m ≤ 256 := by simpa [few] using h
set_option maxHeartbeats 3200000 in
set_option maxRecDepth 100000 in
theorem spec_RunTaps {A0 A A' : Option Addr} {nT n m c0 c c' : Nat} {f0 : Nat → Int} {f1 : Nat → Nat} {xs ys : List Nat} (w : World) (h0 : RdTap w A0 nT f0 f1) (hnT : nT ≤ 1048576) (h : Rd w A n xs) (hn : n ≤ 1048576) (h' : Rd w A' m ys) (hm : m ≤ 1048576) :
    Calls Try.prog 26 #[.slice A0 nT c0, .slice A n c, .slice A' m c'] w (RSSB (tapNC nT n m f0 f1 (clss xs) (clss ys)) (tapOk nT n m f0) w) := by
  have hok : tapOk nT n m f0 = (tapsC nT f0 && decide (n = 64) && few m) := rfl
  by_cases c2 : n = 64
  · subst c2
    rw [decide_eq_true rfl, Bool.and_true] at hok
    cases c1 : tapsC nT f0 <;> cases c3 : few m <;> simp only [c1, c3, Bool.and_true, Bool.true_and, Bool.and_false, Bool.false_and] at hok
    case true.true =>
      have hm8 := few_le c3
      obtain ⟨hT8, hT⟩ := tapsC_true c1
      have HNC := Lib.hid (tap_yes (f1 := f1) (L := clss xs) (X := clss ys) hok)
      have HOK := Lib.hid hok
      have HXY := Lib.hid (show (xs ++ ys).length = 64 + m by rw [List.length_append, h.len, h'.len])
      have HX := Lib.hid h.len
      clear hok
      go_enter Try.func26, Try.ntmps26
      go_wp2_with (first
        | (go_at_call 73; refine (spec_l03Taps _ h0 hnT).mono ?_; rintro e w' ⟨rfl, rfl⟩)
        | (go_at_call 56; refine (spec_l01Few hm _).mono ?_; rintro e w' ⟨rfl, rfl⟩)
        | (go_at_call 57; refine (spec_l03Own _ h hn).mono ?_; rintro e W1 ⟨v0, rfl, ho0, hb1⟩)
        | (at_builtin; refine ap_slice w.heap.size rfl _ _ 25 22 rfl Try.underlying25 info_f32 v0 xs ys _ _ _ rfl rfl ho0 (h'.below hb1) hb1.size (by rw [HX.out]; decide) (by omega) ?_; intro v1 W2 ho1 hg1 hat1; obtain ⟨A1, c1', rfl⟩ := ho1.shape_n HXY.out))
      have HB2 := hb1.grown hg1 hb1.size ho0.base
      have hs2 := HB2.size
      clear c1 c3 ho0 hg1 hat1 hb1
      go_loopw [10, 34] (fun v i w' => ∃ k zs, k ≤ m ∧ i = .int .i64 (k : Nat) ∧ Of w' w.heap.size v zs ∧ Of w' w.heap.size (.slice A1 (64 + m) c1') (xs ++ ys) ∧ (v.ownBlock = none ∨ v.ownBlock ≠ (Value.slice A1 (64 + m) c1').ownBlock) ∧ Hid (clss zs = tapZ f0 f1 (clss xs ++ clss ys) nT k) ∧ Below w.heap.size w w') (fun _ i _ => m - (intOf i).toNat)
      case atStart =>
        have hb2 : Below W2.heap.size W2 (W2.alloc (.cells #[] 22)) := (Below.refl _ _).alloc (Nat.le_refl _) _
        exact ⟨0, [], Nat.zero_le _, rfl, .empty _ _ _ hs2, ho1.below hb2, own_apart' (Bi := W2.heap.size) (m := W2.heap.size) (fun k e => by simp [Value.ownBlock] at e; omega) ho1.lt (Nat.le_refl _), Lib.hid rfl, below_next HB2 hs2 hb2⟩
      case round =>
        obtain ⟨k, zs, hk, rfl, ho, hoL, hap, hz, hb⟩ := hrel
        have hsz := hb.size
        clear ho1 HB2 hs2
        by_cases hlt : k < m
        · go_wp2_with fail
          go_loopw [12, 39] (fun y i w' => ∃ q r, q ≤ nT ∧ i = .int .i64 (q : Nat) ∧ y = .float .f32 r ∧ Fl .f32 r (tapA f0 f1 (clss xs ++ clss ys) k q) ∧ Of w' w.heap.size u10 zs ∧ Of w' w.heap.size (.slice A1 (64 + m) c1') (xs ++ ys) ∧ Below w.heap.size w w') (fun _ i _ => nT - (intOf i).toNat)
          case atStart => exact ⟨0, 0, Nat.zero_le _, rfl, rfl, zero_fl, ho, hoL, hb⟩
          case round =>
            clear ho hoL hb hsz
            obtain ⟨q, r, hq, rfl, rfl, hr, ho, hoL, hb⟩ := hrel
            have hsz := hb.size
            by_cases hlq : q < nT
            · obtain ⟨ad, rfl, ct0, ct1⟩ := (h0.below hb).cell q hlq
              have hTq := hT q hlq
              obtain ⟨b, hbq⟩ : ∃ b : Nat, f0 q = (b : Int) := ⟨(f0 q).toNat, by omega⟩
              have hb64 : b ≤ 64 := by omega
              rw [hbq] at ct0
              rw [← add_off ad (q * 2) 1 (by decide)] at ct1
              obtain ⟨ld, z, Z, e1, hcL, hz', hzk, hZ⟩ := (hoL.rd HXY.out).at_ (k := 64 + k - b) (by omega)
              cases e1
              have hg := Fl.self (h0.wf1 q hlq)
              have HS := Lib.hid (show tapA f0 f1 (clss xs ++ clss ys) k (q + 1) = fadd (tapA f0 f1 (clss xs ++ clss ys) k q) (fmul (cls .f32 (f1 q)) Z) by rw [tapA, hbq, Int.toNat_natCast, ← clss_append, hZ]; rfl)
              have hi0 : ¬ ((64 : Int) + (k : Int) - (b : Int) < 0) := by omega
              have hi1 : (64 : Int) + (k : Int) - (b : Int) < ((64 + m : Nat) : Int) := by omega
              have hi2 : ((64 : Int) + (k : Int) - (b : Int)).toNat = 64 + k - b := by omega
              have HO := Lib.hid ho
              have HL := Lib.hid hoL
              have HB := Lib.hid hb
              have HZ := Lib.hid hsz
              have HQ := Lib.hid hbq
              clear ho hoL hb hsz h0 h h' hT hTq hbq hZ hzk
              go_wp2_with fail
              have h0L : Loose.All [(ad.add (q * 2), .int .i64 (b : Int)), (⟨(ad.add (q * 2)).block, (ad.add (q * 2)).off + 1, none⟩, .float .f32 (f1 q)), (ld.add (64 + k - b), .float .f32 z)] _ := ⟨ct0, ct1, hcL, trivial⟩
              refine Loose.regionC [(ad.add (q * 2), .int .i64 (b : Int)), (⟨(ad.add (q * 2)).block, (ad.add (q * 2)).off + 1, none⟩, .float .f32 (f1 q)), (ld.add (64 + k - b), .float .f32 z)] (by kernel_rfl) (by kernel_rfl) h0L ?_
              clear ct0 ct1 hcL
              apply Exists.intro
              repeat
                first
                  | (apply Loose.walk_skip; exact rfl; simp only [Act.put, List.setIfInBounds_toArray, List.set_cons_zero, List.set_cons_succ])
                  | (apply Loose.quiet h0L; exact rfl; exact rfl; intro K hK; go_big_quiet_op; go_big_quiet_on)
                  | (apply Loose.quiet h0L; exact rfl; exact rfl; intro K hK; go_big_quiet_op; apply Exists.intro; refine ⟨fun w' hw' => ?_, ?_⟩
                     · (first | exact rfl | (have l := hw'.all; simp only [Loose.All] at l; go_simp; rfl))
                     go_big_quiet_on)
                  | (apply Loose.fl32; exact rfl; (intro w' hw'; apply Exists.intro; apply Exists.intro; refine ⟨?_, ?_⟩; (go_simp; exact ⟨rfl, rfl⟩); exact Fl.fr (by assumption) (by assumption) _ _); intro r_ f_; simp only [Act.put, List.setIfInBounds_toArray, List.set_cons_zero, List.set_cons_succ])
                  | (apply Loose.exact_ h0L; exact rfl; (intro w' hw'; first | (go_simp; rfl) | (have l := hw'.all; simp only [Loose.All] at l; go_simp; rfl)); simp only [Act.put, List.setIfInBounds_toArray, List.set_cons_zero, List.set_cons_succ])
              apply Loose.done
              rintro w3 - hb3 -
              have H3 := Lib.hid hb3
              clear hb3
              go_wp2
              exact ⟨⟨q + 1, _, by omega, by go_num, rfl, by rw [HS.out]; assumption, HO.out.below H3.out, HL.out.below H3.out, below_next HB.out HZ.out H3.out⟩, by simp [intOf]; omega⟩
            · obtain rfl : q = nT := by omega
              have hzl := len_of hz.out (m := 1048576) (by rw [tapZ_len]; omega)
              go_wp2_with (at_builtin; refine ap_float (w0 := w) w.heap.size rfl _ _ 25 22 rfl Try.underlying25 info_f32 _ zs _ rfl rfl (by exact ho) hr.wf (by exact hb) (by omega) (by omega) ?_; intro v1 w3 ho3 hb3 hg3 hat)
              exact ⟨⟨k + 1, _, by omega, by go_num, ho3, hoL.other hg3 (ne_swap hap), apart_new hap hat hoL.lt, Lib.hid (by rw [tapZ_snoc]; exact clss_push hz.out hr), hb3⟩, by simp [intOf]; omega⟩
        · obtain rfl : k = m := by omega
          obtain ⟨ld, z, Z, e1, hcL, hz', hzk, hZ⟩ := (hoL.rd HXY.out).at_ (k := 0) (by omega)
          cases e1
          have hc1 := hoL.cap_n HXY.out
          have hrd : ∀ W, Below _ _ W → Rd W (some (ld.add k)) 64 ((xs ++ ys).drop k) := fun W e => by have := ((hoL.rd HXY.out).below e).tail k (by omega); rwa [Nat.add_sub_cancel] at this
          go_wp2_with fail
          refine (spec_l03Own _ (hrd _ (Below.refl _ _)) (by decide)).mono ?_
          rintro e W3 ⟨u, rfl, hou, hb3⟩
          go_wp2_with fail
          go_ret3
          rw [HNC.out, HOK.out]
          have hd := (clss_drop (xs ++ ys) k).trans (by rw [clss_append])
          exact ⟨_, _, _, _, rfl, ho.below hb3, hz.out, len_of hz.out (by rw [tapZ_len]; omega), hou.low hsz, hd, by rw [List.length_drop, HXY.out]; omega, fresh_apart hou.base ho.lt, below_next hb hsz hb3⟩
    all_goals
      go_enter Try.func26, Try.ntmps26
      go_wp2_with (first | (go_at_call 73; refine (spec_l03Taps _ h0 hnT).mono ?_; rintro e w' ⟨rfl, rfl⟩) | (go_at_call 56; refine (spec_l01Few hm _).mono ?_; rintro e w' ⟨rfl, rfl⟩))
      go_ret3
      rw [tap_no hok, hok]
      exact ⟨_, _, _, _, rfl, .nil _ _ _, rfl, by simp, .nil _ _ _, rfl, by simp, .inl rfl, Below.refl _ _⟩
  · rw [decide_eq_false c2, Bool.and_false, Bool.false_and] at hok
    have hne : ¬ ((n : Int) = 64) := by omega
    cases c1 : tapsC nT f0
    all_goals
      go_enter Try.func26, Try.ntmps26
      go_wp2_with (first | (go_at_call 73; refine (spec_l03Taps _ h0 hnT).mono ?_; rintro e w' ⟨rfl, rfl⟩) | (go_at_call 56; refine (spec_l01Few hm _).mono ?_; rintro e w' ⟨rfl, rfl⟩))
      go_ret3
      rw [tap_no hok, hok]
      exact ⟨_, _, _, _, rfl, .nil _ _ _, rfl, by simp, .nil _ _ _, rfl, by simp, .inl rfl, Below.refl _ _⟩
end Go.Proofs.Ytbaokmapgdnhlaa
