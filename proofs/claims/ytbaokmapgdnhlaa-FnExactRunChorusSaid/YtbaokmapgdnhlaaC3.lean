/- Choruses: the program. Conditions: none beside the contracts' own. -/
import Derived.Test.YtbaokmapgdnhlaaC2
set_option linter.unusedVariables false
set_option linter.unusedSimpArgs false
namespace Go.Proofs.Ytbaokmapgdnhlaa
open Go.RowKit
set_option maxHeartbeats 3200000 in
set_option maxRecDepth 100000 in
theorem impl_RunChorus {g : Nat} {G : Option Nat} {f : Int} {A0 A A' : Option Addr} {nT n m c0 c c' : Nat} {T : List Int} {xs ys : List Nat} (w : World) (h0 : RdI w A0 nT T) (hnT : nT ≤ 1048576) (hg : Fl .f32 g G) (h : Rd w A n xs) (hn : n ≤ 1048576) (h' : Rd w A' m ys) (hm : m ≤ 1048576) :
    Calls Try.prog 33 #[.slice A0 nT c0, .float .f32 g, .slice A n c, .int .i64 f, .slice A' m c'] w (RSSB (choNC nT n m f T G (clss xs) (clss ys)) (choOk nT n m f T) w) := by
  have hok : choOk nT n m f T = (inC nT 1 64 && inC n 1 64 && inC f 0 1000000000000000 && few m && T.all (fun x => inC x 1 n)) := rfl
  cases c1 : inC (nT : Int) 1 64 <;> cases c2 : inC (n : Int) 1 64 <;> cases c3 : inC f 0 1000000000000000 <;> cases c4 : few m <;> cases c5 : T.all (fun x => inC x 1 (n : Int)) <;> simp only [c1, c2, c3, c4, c5, Bool.and_true, Bool.true_and, Bool.and_false, Bool.false_and] at hok
  case true.true.true.true.true =>
    have k1 := (inC_iff _ _ _).1 c1
    have k2 := (inC_iff _ _ _).1 c2
    have k3 := (inC_iff _ _ _).1 c3
    obtain ⟨F, rfl⟩ : ∃ F : Nat, f = (F : Int) := ⟨f.toNat, by omega⟩
    have HNC := Lib.hid (show choNC nT n m (F : Int) T G (clss xs) (clss ys) = choT T G F (clss xs) (clss ys) by rw [cho_yes hok, Int.toNat_natCast])
    have HO1 := Lib.hid hok
    have HA := Lib.hid c5
    have CA : ∀ W, RdI W A0 nT T → Calls Try.prog 79 #[.slice A0 nT c0, .int .i64 1, .int .i64 (n : Int)] W (fun e w' => e = .returned (.bool true) ∧ W = w') := fun W hW => by rw [← c5]; exact impl_allWithin W hW hnT
    have HCA := Lib.hid (CA w h0)
    clear hok c5 CA
    have HX := Lib.hid h.len
    have HM := Lib.hid h'.len
    have HT := Lib.hid h0.len
    have hn0 : 0 < n := by omega
    have hT0 : 0 < nT := by omega
    go_enter Try.func33, Try.ntmps33
    go_wp2_with (first | (go_at_call 59; refine (impl_isLength _ _).mono ?_; rintro e w' ⟨rfl, rfl⟩) | (go_at_call 60; refine (impl_size _).mono ?_; rintro e w' ⟨rfl, rfl⟩) | (go_at_call 80; refine (impl_within _).mono ?_; rintro e w' ⟨rfl, rfl⟩) | (go_at_call 61; refine (impl_areSamples hm _).mono ?_; rintro e w' ⟨rfl, rfl⟩) | (go_at_call 79; refine HCA.out.mono ?_; rintro e w' ⟨rfl, rfl⟩))
    clear c1 c2 c3 c4
    refine (impl_copyNumbers _ h hn).mono ?_
    rintro e W1 ⟨v0, rfl, ho0, hb1⟩
    have hs1 := hb1.size
    clear h HCA
    go_wp2_with fail
    go_loopw [14, 15, 52] (fun u v i w' => ∃ k zs ls c0 A1, k ≤ m ∧ i = .int .i64 (k : Nat) ∧ u = .slice A1 n c0 ∧ Of w' w.heap.size v zs ∧ Of w' w.heap.size (.slice A1 n c0) ls ∧ (v.ownBlock = none ∨ v.ownBlock ≠ (Value.slice A1 n c0).ownBlock) ∧ Hid (clss zs = (choT T G F (clss xs) ((clss ys).take k)).1 ∧ clss ls = (choT T G F (clss xs) ((clss ys).take k)).2 ∧ ls.length = n) ∧ Below w.heap.size w w') (fun _ _ i _ => m - (intOf i).toNat)
    case atStart =>
      obtain ⟨A1, c0, rfl⟩ := ho0.shape_n HX.out
      exact ⟨0, [], xs, c0, A1, Nat.zero_le _, rfl, rfl, .nil _ _ _, ho0, .inl rfl, Lib.hid ⟨rfl, rfl, HX.out⟩, hb1⟩
    case round =>
      obtain ⟨k, zs, ls, cl, A1, hk, rfl, rfl, ho, hoL, hap, hz, hb⟩ := hrel
      have hsz := hb.size
      by_cases hlt : k < m
      · obtain ⟨ad, x, X, rfl, hc, hx, hxk, hX⟩ := (h'.below hb).at_ hlt
        obtain ⟨bd, q, rfl, hcT, hq1, hqn, hqK⟩ := cho_at (h0.below hb) hT0 HA.out F k
        obtain ⟨ld, y, Y, e1, hcL, hy, hyk, hY⟩ := (hoL.rd hz.out.2.2).at_ (k := n - q) (by omega)
        cases e1
        have hzl := len_of hz.out.1 (m := 1048576) (by rw [choT_len, List.length_take]; omega)
        have hst : choT T G F (clss xs) ((clss ys).take (k + 1)) = choS T G F (choT T G F (clss xs) ((clss ys).take k)) X := by rw [clss_snoc hX, choT_snoc]
        have HS := Lib.hid hst
        have HV := Lib.hid (fun w1 w2 => hx.fr (hg.fr hy .mul w1) .add w2)
        have hmod : 0 ≤ ((F : Int) + (k : Int)) % (nT : Int) ∧ ((F : Int) + (k : Int)) % (nT : Int) < (nT : Int) := ⟨Int.emod_nonneg _ (by omega), Int.emod_lt_of_pos _ (by omega)⟩
        have e1 : (choT T G F (clss xs) ((clss ys).take k)).1.length = k := by rw [choT_len, List.length_take, clss_length, HM.out]; omega
        have e2 : (choT T G F (clss xs) ((clss ys).take k)).2[(choT T G F (clss xs) ((clss ys).take k)).2.length - choK T F (choT T G F (clss xs) ((clss ys).take k)).1.length]? = some Y := by rw [e1, ← hz.out.2.1, clss_length, hz.out.2.2, hqK]; exact hY
        have E2 := Lib.hid e2
        clear hst hX h' ho0 hb1 h0 hxk hyk e1 e2 hY hqK
        go_wp2_with (first
          | (at_builtin; refine ap_float (w0 := w) w.heap.size rfl _ _ 25 22 rfl Try.underlying25 info_f32 _ zs _ rfl rfl (by exact ho.drewN _) (HV.out _ _).wf (below_drewN hb _) (by simpa using hsz) (by omega) ?_; intro v1 w3 ho3 hb3 hg3 hat; have hoL3 := (hoL.drewN _).other hg3 (ne_swap hap))
          | (go_at_call 60; refine (impl_size _).mono ?_; rintro e w' ⟨rfl, rfl⟩)
          | (go_at_call 81; refine (impl_take _ (hoL3.rd hz.out.2.2) (hoL3.cap_n hz.out.2.2) hn0 hn hx.wf).mono ?_; rintro e w4 ⟨u1, rfl, hoL4, hgr⟩))
        have hs3 : w.heap.size ≤ w3.heap.size := by have := hg3.size; simp at this; omega
        have hll : (ls.tail ++ [x]).length = n := by have := hz.out.2.2; simp; omega
        obtain ⟨A2, c2, rfl⟩ := hoL4.shape_n hll
        have hd4 := fresh_apart hoL4.base ho3.lt
        refine ⟨⟨k + 1, _, _, _, _, by omega, by go_num, rfl, ho3.below hgr, hoL4.low hs3, hd4, Lib.hid ⟨?_, ?_, hll⟩, below_next hb3 hs3 hgr⟩, by simp [intOf]; omega⟩
        · rw [HS.out, choS]; dsimp only; rw [E2.out, ← hz.out.1]; exact clss_push rfl (HV.out _ _)
        · rw [HS.out, choS]; dsimp only; rw [← hz.out.2.1]; exact clss_take1 hx
      · go_wp2
        go_ret3
        rw [HNC.out, HO1.out]
        have hz1 := hz.out
        rw [clss_all HM.out hk hlt] at hz1
        exact ⟨_, _, _, _, rfl, ho, hz1.1, len_of hz1.1 (by rw [choT_len, clss_length, HM.out]; exact hm), hoL, hz1.2.1, by have := hz1.2.2; omega, hap, hb⟩
  all_goals
    have CA := impl_allWithin (c := c0) (lo := 1) (hi := (n : Int)) w h0 hnT
    rw [c5] at CA
    go_enter Try.func33, Try.ntmps33
    go_wp2_with (first | (go_at_call 59; refine (impl_isLength _ _).mono ?_; rintro e w' ⟨rfl, rfl⟩) | (go_at_call 60; refine (impl_size _).mono ?_; rintro e w' ⟨rfl, rfl⟩) | (go_at_call 80; refine (impl_within _).mono ?_; rintro e w' ⟨rfl, rfl⟩) | (go_at_call 61; refine (impl_areSamples hm _).mono ?_; rintro e w' ⟨rfl, rfl⟩) | (go_at_call 79; refine CA.mono ?_; rintro e w' ⟨rfl, rfl⟩))
    go_ret3
    rw [cho_no hok, hok]
    exact ⟨_, _, _, _, rfl, .nil _ _ _, rfl, by simp, .nil _ _ _, rfl, by simp, .inl rfl, Below.refl _ _⟩
end Go.Proofs.Ytbaokmapgdnhlaa
