/- Choruses: what they come to; the reference. Conditions: none beside the contracts' own. -/
import Derived.Test.YtbaokmapgdnhlaaC1
import Derived.Test.YtbaokmapgdnhlaaD4
set_option linter.unusedVariables false
set_option linter.unusedSimpArgs false
namespace Go.Proofs.Ytbaokmapgdnhlaa
open Go.RowKit
theorem all_take {xs : List Int} {k : Nat} {x : Int} (p : Int → Bool) (hx : xs[k]? = some x) (h : (xs.take k).all p = true) : (xs.take (k + 1)).all p = p x ∧ (p x = false → xs.all p = false) := by
  obtain ⟨hk, rfl⟩ := List.getElem?_eq_some_iff.1 hx
  refine ⟨by rw [take_snoc xs k hk, List.all_append, h]; simp, fun hp => ?_⟩
  rw [List.all_eq_false]
  exact ⟨_, List.getElem_mem hk, by rw [hp]; decide⟩
set_option maxHeartbeats 400000 in
theorem impl_allWithin {A : Option Addr} {n c : Nat} {xs : List Int} {lo hi : Int} (w : World) (h : RdI w A n xs) (hn : n ≤ 1048576) : Calls Try.prog 79 #[.slice A n c, .int .i64 lo, .int .i64 hi] w fun e w' => e = .returned (.bool (xs.all fun x => inC x lo hi)) ∧ w = w' := by
  have HX := Lib.hid h.len
  go_enter Try.func79, Try.ntmps79
  go_wp2
  go_loop [11] (fun i => ∃ k, k ≤ n ∧ i = .int .i64 (k : Nat) ∧ Hid ((xs.take k).all (fun x => inC x lo hi) = true)) (fun i => n - (intOf i).toNat)
  case atStart => exact ⟨0, Nat.zero_le _, rfl, Lib.hid rfl⟩
  case round =>
    obtain ⟨k, hk, rfl, ht⟩ := hrel
    by_cases hlt : k < n
    · obtain ⟨ad, x, rfl, hc, hx⟩ := h.at_ hlt
      obtain ⟨a1, a2⟩ := all_take (fun x => inC x lo hi) hx ht.out
      have H1 := Lib.hid a1
      have H2 := Lib.hid a2
      clear a1 a2 h hx
      cases c : inC x lo hi
      · go_wp2_with (go_at_call 80; refine (impl_within _).mono ?_; rintro e w' ⟨rfl, rfl⟩)
        go_ret
        exact ⟨by rw [H2.out c]; rfl, rfl⟩
      · go_wp2_with (go_at_call 80; refine (impl_within _).mono ?_; rintro e w' ⟨rfl, rfl⟩)
        exact ⟨⟨k + 1, by omega, by go_num, Lib.hid (by rw [H1.out, c])⟩, by simp [intOf]; omega⟩
    · go_wp2
      go_ret
      obtain rfl : k = n := by omega
      have h1 := ht.out
      rw [List.take_of_length_le (by rw [HX.out]; exact Nat.le_refl _)] at h1
      exact ⟨by rw [h1]; rfl, rfl⟩
def choK (T : List Int) (f i : Nat) : Nat := ((T[(f + i) % T.length]?).getD 0).toNat
def choS (T : List Int) (M : Option Nat) (f : Nat) (s : List (Option Nat) × List (Option Nat)) (X : Option Nat) : List (Option Nat) × List (Option Nat) :=
  (s.1 ++ [fadd X (fmul M ((s.2[s.2.length - choK T f s.1.length]?).getD none))], s.2.tail ++ [X])
def choT (T : List Int) (M : Option Nat) (f : Nat) (L l : List (Option Nat)) : List (Option Nat) × List (Option Nat) := l.foldl (choS T M f) ([], L)
theorem choT_snoc (T : List Int) (M : Option Nat) (f : Nat) (L l : List (Option Nat)) (X : Option Nat) : choT T M f L (l ++ [X]) = choS T M f (choT T M f L l) X := by simp [choT]
theorem cho_len (T : List Int) (M : Option Nat) (f : Nat) (l : List (Option Nat)) : ∀ s : List (Option Nat) × List (Option Nat), (l.foldl (choS T M f) s).1.length = s.1.length + l.length := by
  induction l with
  | nil => intro s; simp
  | cons X l ih => intro s; rw [List.foldl_cons, ih]; simp [choS]; omega
theorem choT_len (T : List Int) (M : Option Nat) (f : Nat) (L l : List (Option Nat)) : (choT T M f L l).1.length = l.length := by rw [choT, cho_len]; simp
def choOk (nT n m : Nat) (f : Int) (T : List Int) : Bool := inC nT 1 64 && inC n 1 64 && inC f 0 1000000000000000 && few m && T.all (fun x => inC x 1 n)
def choNC (nT n m : Nat) (f : Int) (T : List Int) (M : Option Nat) (L X : List (Option Nat)) : List (Option Nat) × List (Option Nat) := if choOk nT n m f T = true then choT T M f.toNat L X else ([], [])
theorem cho_no {nT n m : Nat} {f : Int} {T : List Int} {M : Option Nat} {L X : List (Option Nat)} (h : choOk nT n m f T = false) : choNC nT n m f T M L X = ([], []) := by unfold choNC; rw [h]; rfl
theorem cho_yes {nT n m : Nat} {f : Int} {T : List Int} {M : Option Nat} {L X : List (Option Nat)} (h : choOk nT n m f T = true) : choNC nT n m f T M L X = choT T M f.toNat L X := by unfold choNC; rw [if_pos h]
/-- The table's element that a round takes. -/
theorem cho_at {w : World} {A : Option Addr} {nT n : Nat} {T : List Int} (h : RdI w A nT T) (h0 : 0 < nT) (ha : T.all (fun x => inC x 1 n) = true) (F k : Nat) :
    ∃ ad q, A = some ad ∧ w.cell? (ad.add ((F + k) % nT)) = some (.int .i64 ((q : Nat) : Int)) ∧ 1 ≤ q ∧ q ≤ n ∧ choK T F k = q := by
  obtain ⟨ad, x, e, hc, hx⟩ := h.at_ (Nat.mod_lt (F + k) h0)
  have hm : x ∈ T := List.mem_of_getElem? hx
  have := (inC_iff _ _ _).1 (List.all_eq_true.1 ha x hm)
  refine ⟨ad, x.toNat, e, by rw [hc]; congr 2; omega, by omega, by omega, ?_⟩
  unfold choK
  rw [h.len, hx]; rfl
set_option maxHeartbeats 3200000 in
set_option maxRecDepth 100000 in
theorem spec_RunChorus {g : Nat} {G : Option Nat} {f : Int} {A0 A A' : Option Addr} {nT n m c0 c c' : Nat} {T : List Int} {xs ys : List Nat} (w : World) (h0 : RdI w A0 nT T) (hnT : nT ≤ 1048576) (hg : Fl .f32 g G) (h : Rd w A n xs) (hn : n ≤ 1048576) (h' : Rd w A' m ys) (hm : m ≤ 1048576) :
    Calls Try.prog 31 #[.slice A0 nT c0, .float .f32 g, .slice A n c, .int .i64 f, .slice A' m c'] w (RSSB (choNC nT n m f T G (clss xs) (clss ys)) (choOk nT n m f T) w) := by
  have hok : choOk nT n m f T = (inC nT 1 64 && inC n 1 64 && inC f 0 1000000000000000 && few m && T.all (fun x => inC x 1 n)) := rfl
  cases c1 : inC (nT : Int) 1 64 <;> cases c2 : inC (n : Int) 1 64 <;> cases c3 : inC f 0 1000000000000000 <;> cases c4 : few m <;> simp only [c1, c2, c3, c4, Bool.and_true, Bool.true_and, Bool.and_false, Bool.false_and] at hok
  case true.true.true.true =>
    have HOK := Lib.hid hok
    clear hok
    have k1 := (inC_iff _ _ _).1 c1
    have k2 := (inC_iff _ _ _).1 c2
    have k3 := (inC_iff _ _ _).1 c3
    obtain ⟨F, rfl⟩ : ∃ F : Nat, f = (F : Int) := ⟨f.toNat, by omega⟩
    have HX := Lib.hid h.len
    have HM := Lib.hid h'.len
    have HT := Lib.hid h0.len
    go_enter Try.func31, Try.ntmps31
    go_wp2_with (first | (go_at_call 55; refine (spec_l03Length _ _).mono ?_; rintro e w' ⟨rfl, rfl⟩) | (go_at_call 77; refine (spec_l00In _).mono ?_; rintro e w' ⟨rfl, rfl⟩) | (go_at_call 56; refine (spec_l01Few hm _).mono ?_; rintro e w' ⟨rfl, rfl⟩))
    clear c1 c2 c3 c4
    go_loop [41] (fun i => ∃ k, k ≤ nT ∧ i = .int .i64 (k : Nat) ∧ Hid ((T.take k).all (fun x => inC x 1 n) = true)) (fun i => nT - (intOf i).toNat)
    case atStart => exact ⟨0, Nat.zero_le _, rfl, Lib.hid rfl⟩
    case round =>
    obtain ⟨k, hk, rfl, ht⟩ := hrel
    by_cases hlt : k < nT
    · obtain ⟨ad, x, rfl, hc, hx⟩ := h0.at_ hlt
      obtain ⟨a1, a2⟩ := all_take (fun x => inC x 1 n) hx ht.out
      have H1 := Lib.hid a1
      have H2 := Lib.hid a2
      clear a1 a2 h0 hx
      cases c : inC x 1 n
      · go_wp2_with (go_at_call 77; refine (spec_l00In _).mono ?_; rintro e w' ⟨rfl, rfl⟩)
        go_ret3
        rw [cho_no (HOK.out.trans (H2.out c)), HOK.out.trans (H2.out c)]
        exact ⟨_, _, _, _, rfl, .nil _ _ _, rfl, by simp, .nil _ _ _, rfl, by simp, .inl rfl, Below.refl _ _⟩
      · go_wp2_with (go_at_call 77; refine (spec_l00In _).mono ?_; rintro e w' ⟨rfl, rfl⟩)
        exact ⟨⟨k + 1, by omega, by go_num, Lib.hid (by rw [H1.out, c])⟩, by simp [intOf]; omega⟩
    · have hall : T.all (fun x => inC x 1 n) = true := by
        have h1 := ht.out
        rwa [List.take_of_length_le (by rw [HT.out]; omega)] at h1
      have HA := Lib.hid hall
      have HNC := Lib.hid (show choNC nT n m (F : Int) T G (clss xs) (clss ys) = choT T G F (clss xs) (clss ys) by rw [cho_yes (HOK.out.trans hall), Int.toNat_natCast])
      have HO1 := Lib.hid (HOK.out.trans hall)
      clear hall HOK
      have hn0 : 0 < n := by omega
      have hT0 : 0 < nT := by omega
      clear ht
      go_wp2_with fail
      clear hk hlt
      refine (spec_l03Own _ h hn).mono ?_
      rintro e W1 ⟨v0, rfl, ho0, hb1⟩
      obtain ⟨A1, c1, rfl⟩ := ho0.shape_n HX.out
      have hs1 := hb1.size
      clear h
      go_wp2_with fail
      go_loopw [15, 58] (fun v i w' => ∃ k zs ls, k ≤ m ∧ i = .int .i64 (k : Nat) ∧ Of w' w.heap.size v zs ∧ Of w' w.heap.size (.slice A1 n c1) ls ∧ (v.ownBlock = none ∨ v.ownBlock ≠ (Value.slice A1 n c1).ownBlock) ∧ Hid (clss zs = (choT T G F (clss xs) ((clss ys).take k)).1 ∧ clss ls = (choT T G F (clss xs) ((clss ys).take k)).2 ∧ ls.length = n) ∧ Below w.heap.size w w') (fun _ i _ => m - (intOf i).toNat)
      case atStart =>
        have hb2 : Below W1.heap.size W1 (W1.alloc (.cells #[] 22)) := (Below.refl _ _).alloc (Nat.le_refl _) _
        exact ⟨0, [], xs, Nat.zero_le _, rfl, .empty _ _ _ hs1, ho0.below hb2, own_apart' (Bi := W1.heap.size) (m := W1.heap.size) (fun k e => by simp [Value.ownBlock] at e; omega) ho0.lt (Nat.le_refl _), Lib.hid ⟨rfl, rfl, HX.out⟩, below_next hb1 hs1 hb2⟩
      case round =>
        obtain ⟨k, zs, ls, hk, rfl, ho, hoL, hap, hz, hb⟩ := hrel
        have hsz := hb.size
        by_cases hlt : k < m
        · obtain ⟨ad, x, X, rfl, hc, hx, hxk, hX⟩ := (h'.below hb).at_ hlt
          obtain ⟨bd, q, rfl, hcT, hq1, hqn, hqK⟩ := cho_at (h0.below hb) hT0 HA.out F k
          obtain ⟨ld, y, Y, e1, hcL, hy, hyk, hY⟩ := (hoL.rd hz.out.2.2).at_ (k := n - q) (by omega)
          cases e1
          have hzl := len_of hz.out.1 (m := 1048576) (by rw [choT_len, List.length_take]; omega)
          have hst : choT T G F (clss xs) ((clss ys).take (k + 1)) = choS T G F (choT T G F (clss xs) ((clss ys).take k)) X := by rw [clss_snoc hX, choT_snoc]
          have HS := Lib.hid hst
          have HRx := Lib.hid h'
          have HXK := Lib.hid hxk
          have HV := Lib.hid (fun w1 w2 => hx.fr (hg.fr hy .mul w1) .add w2)
          have hmod : 0 ≤ ((F : Int) + (k : Int)) % (nT : Int) ∧ ((F : Int) + (k : Int)) % (nT : Int) < (nT : Int) := ⟨Int.emod_nonneg _ (by omega), Int.emod_lt_of_pos _ (by omega)⟩
          have e1 : (choT T G F (clss xs) ((clss ys).take k)).1.length = k := by rw [choT_len, List.length_take, clss_length, HM.out]; omega
          have e2 : (choT T G F (clss xs) ((clss ys).take k)).2[(choT T G F (clss xs) ((clss ys).take k)).2.length - choK T F (choT T G F (clss xs) ((clss ys).take k)).1.length]? = some Y := by rw [e1, ← hz.out.2.1, clss_length, hz.out.2.2, hqK]; exact hY
          have E2 := Lib.hid e2
          clear hst hX h' ho0 hb1 h0 hxk hyk e1 e2 hY hqK
          go_wp2_with (first
            | (at_builtin; refine ap_float (w0 := w) w.heap.size rfl _ _ 25 22 rfl Try.underlying25 info_f32 _ zs _ rfl rfl (by exact ho.drewN _) (HV.out _ _).wf (below_drewN hb _) (by simpa using hsz) (by omega) ?_; intro v1 w3 ho3 hb3 hg3 hat; obtain ⟨ad', he, hc3⟩ := (HRx.out.below hb3).cell k x HXK.out; obtain rfl := Option.some.inj he)
            | (go_at_call 78; refine (spec_l03Take _ ((hoL.drewN _).other hg3 (ne_swap hap)) hz.out.2.2 hn0 hn hx.wf).mono ?_; rintro e w4 ⟨rfl, hoL4, hgr⟩))
          have hd3 := apart_new hap hat (hoL.drewN _).lt
          have hll : (ls.tail ++ [x]).length = n := by have := hz.out.2.2; simp; omega
          have hb4 := hb3.grown hgr (by have := hg3.size; simp at this; omega) hoL4.base
          refine ⟨⟨k + 1, _, _, by omega, by go_num, ho3.other hgr hd3, hoL4, hd3, Lib.hid ⟨?_, ?_, hll⟩, hb4⟩, by simp [intOf]; omega⟩
          · rw [HS.out, choS]; dsimp only; rw [E2.out, ← hz.out.1]; exact clss_push rfl (HV.out _ _)
          · rw [HS.out, choS]; dsimp only; rw [← hz.out.2.1]; exact clss_take1 hx
        · go_wp2
          go_ret3
          rw [HNC.out, HO1.out]
          have hz1 := hz.out
          rw [clss_all HM.out hk hlt] at hz1
          exact ⟨_, _, _, _, rfl, ho, hz1.1, len_of hz1.1 (by rw [choT_len, clss_length, HM.out]; exact hm), hoL, hz1.2.1, by have := hz1.2.2; omega, hap, hb⟩
  all_goals
    go_enter Try.func31, Try.ntmps31
    go_wp2_with (first | (go_at_call 55; refine (spec_l03Length _ _).mono ?_; rintro e w' ⟨rfl, rfl⟩) | (go_at_call 77; refine (spec_l00In _).mono ?_; rintro e w' ⟨rfl, rfl⟩) | (go_at_call 56; refine (spec_l01Few hm _).mono ?_; rintro e w' ⟨rfl, rfl⟩))
    go_ret3
    rw [cho_no hok, hok]
    exact ⟨_, _, _, _, rfl, .nil _ _ _, rfl, by simp, .nil _ _ _, rfl, by simp, .inl rfl, Below.refl _ _⟩
end Go.Proofs.Ytbaokmapgdnhlaa
