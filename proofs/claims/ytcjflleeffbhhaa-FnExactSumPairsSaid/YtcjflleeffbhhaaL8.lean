/- The walk of the law on sums of halves. Conditions: none. -/
import Derived.Test.YtcjflleeffbhhaaL2
import Derived.Deep.RegionWith
set_option linter.unusedVariables false
set_option linter.unusedSimpArgs false
namespace Go.Proofs.Ytcjflleeffbhhaa
open Go.RowKit

theorem addr_add_add (a : Addr) (h j : Nat) : (a.add h).add j = a.add (h + j) := by
  unfold Addr.add
  by_cases h1 : h = 0
  · subst h1; simp
  · by_cases h2 : j = 0
    · subst h2; simp [h1]
    · simp [h1, h2, Nat.add_assoc]
theorem Rd.head {w : World} {A : Option Addr} {n : Nat} {xs : List Nat} (h : Rd w A n xs) (k : Nat) (hk : k ≤ n) : Rd w A k (xs.take k) :=
  ⟨by rw [List.length_take, h.len]; omega, by have := h.most; omega, fun x hx => h.wf x (List.mem_of_mem_take hx), fun j x hx => by
    refine h.cell j x ?_
    rw [List.getElem?_take] at hx
    split at hx
    · exact hx
    · cases hx⟩
theorem Rd.tail {w : World} {ad : Addr} {n : Nat} {xs : List Nat} (h : Rd w (some ad) n xs) (k : Nat) (hk : k ≤ n) : Rd w (some (ad.add k)) (n - k) (xs.drop k) :=
  ⟨by rw [List.length_drop, h.len], by have := h.most; omega, fun x hx => h.wf x (List.mem_of_mem_drop hx), fun j x hx => by
    rw [List.getElem?_drop] at hx
    obtain ⟨ad', e, hc⟩ := h.cell _ x hx
    obtain rfl := Option.some.inj e
    exact ⟨_, rfl, by rw [addr_add_add]; exact hc⟩⟩
theorem Ow.cap {e : TypeId} {w : World} {B : Nat} {A : Option Addr} {n c : Nat} {xs : List Nat} (h : Ow e w B (.slice A n c) xs) : xs.length ≤ c := by
  rcases h.own.2 with ⟨h1, h2⟩ | ⟨g, cap, cur, h1, _, _, h2, _⟩
  · omega
  · injection h1 with _ _ h3
    subst h3; exact h2
theorem Ow.cap_n {e : TypeId} {w : World} {B : Nat} {A : Option Addr} {n c : Nat} {xs : List Nat} (h : Ow e w B (.slice A n c) xs) (hl : xs.length = n) : n ≤ c := by
  have := h.cap; omega
theorem Rd.same {w w' : World} {A : Option Addr} {n : Nat} {xs : List Nat} (h : Rd w A n xs) (e : w'.heap = w.heap) : Rd w' A n xs :=
  ⟨h.len, h.most, h.wf, fun j x hx => by
    obtain ⟨ad, e1, e2⟩ := h.cell j x hx
    exact ⟨ad, e1, by rw [← e2]; simp [World.cell?, e]⟩⟩
/-- The sum of halves, with so much fuel. -/
def pairF : Nat → List (Option Nat) → Option Nat
  | 0, _ => some 0
  | f + 1, l => if l.length = 0 then some 0 else if l.length = 1 then (l[0]?).getD none else fadd (pairF f (l.take ((l.length + 1) / 2))) (pairF f (l.drop ((l.length + 1) / 2)))
theorem clss_take (xs : List Nat) (k : Nat) : clss (xs.take k) = (clss xs).take k := by simp [clss]
theorem clss_drop (xs : List Nat) (k : Nat) : clss (xs.drop k) = (clss xs).drop k := by simp [clss]
set_option maxHeartbeats 3200000 in
set_option maxRecDepth 100000 in
theorem spec_l01SumPairs : ∀ (f : Nat) {A : Option Addr} {n c : Nat} {xs : List Nat} (w : World) (h : Rd w A n xs) (hn : n ≤ 1048576) (hc : n ≤ c) (hf : n ≤ f),
    Calls Try.prog 51 #[.slice A n c] w (RF .f32 (pairF (f + 1) (clss xs)) w) := by
  intro f
  induction f with
  | zero =>
    intro A n c xs w h hn hc hf
    obtain rfl : n = 0 := by omega
    have hl : (clss xs).length = 0 := by rw [clss_length, h.len]
    go_enter Try.func51, Try.ntmps51
    go_wp2
    go_ret
    exact ⟨_, 0, rfl, by simp only [pairF, hl, if_true]; exact .of_lit (by decide) (by decide), rfl⟩
  | succ f ih =>
    intro A n c xs w h hn hc hf
    have hl : (clss xs).length = n := by rw [clss_length, h.len]
    rw [pairF, hl]
    rcases Nat.lt_or_ge n 2 with h2 | h2
    · rcases Nat.eq_zero_or_pos n with h0 | h0
      · subst h0
        go_enter Try.func51, Try.ntmps51
        go_wp2
        go_ret
        exact ⟨_, 0, rfl, .of_lit (by decide) (by decide), rfl⟩
      · obtain rfl : n = 1 := by omega
        obtain ⟨ad, x, X, rfl, hc', hx, _, hX⟩ := h.at_ (k := 0) (by omega)
        rw [hX]
        have hc2 : w.cell? ad = some (.float .f32 x) := by simpa [Addr.add] using hc'
        go_enter Try.func51, Try.ntmps51
        go_wp2
        go_ret
        exact ⟨_, 0, rfl, hx, rfl⟩
    · rw [if_neg (by omega), if_neg (by omega)]
      obtain ⟨ad, x, X, rfl, _, _, _, _⟩ := h.at_ (k := 0) (by omega)
      obtain ⟨k, hk⟩ : ∃ k, k = (n + 1) / 2 := ⟨_, rfl⟩
      have hk1 : 0 < k ∧ k < n ∧ k ≤ f + 1 ∧ n - k ≤ f := by omega
      rw [← hk, ← clss_take, ← clss_drop]
      have h1 := h.head k (by omega)
      have h2' := h.tail k (by omega)
      have hq : ((n : Int) + 1) / 2 = (k : Int) := by omega
      have hck : ¬ (c = k) := by omega
      have C1 : ∀ w', w'.heap = w.heap → Calls Try.prog 51 #[.slice (some ad) k c] w' (RF .f32 (pairF (f + 1) (clss (xs.take k))) w') := fun w' e => ih w' (h1.same e) (by omega) (by omega) (by omega)
      have C2 : ∀ w', w'.heap = w.heap → Calls Try.prog 51 #[.slice (some (ad.add k)) (n - k) (c - k)] w' (RF .f32 (pairF (f + 1) (clss (xs.drop k))) w') := fun w' e => ih w' (h2'.same e) (by omega) (by omega) (by omega)
      clear ih h1 h2' h
      clear hk
      go_enter Try.func51, Try.ntmps51
      go_wp2_with fail
      go_region_with (go_at_call 51; (first
        | ((with_reducible refine (C1 _ ?_).mono ?_); rfl; rintro e w' ⟨r, m, rfl, hr1, rfl⟩)
        | ((with_reducible refine (C2 _ ?_).mono ?_); rfl; rintro e w' ⟨r, m, rfl, hr2, rfl⟩)))
      all_goals go_wp2
      all_goals go_ret
      all_goals exact ⟨_, _, rfl, (by repeat (first | (with_reducible assumption) | exact Fl.of_lit (by decide) (by decide) | apply Fl.fr | apply Fl.cw | apply Fl.cn)), rfl⟩
set_option maxHeartbeats 3200000 in
set_option maxRecDepth 100000 in
theorem impl_sumPairs : ∀ (f : Nat) {A : Option Addr} {n c : Nat} {xs : List Nat} (w : World) (h : Rd w A n xs) (hn : n ≤ 1048576) (hc : n ≤ c) (hf : n ≤ f),
    Calls Try.prog 52 #[.slice A n c] w (RF .f32 (pairF (f + 1) (clss xs)) w) := by
  intro f
  induction f with
  | zero =>
    intro A n c xs w h hn hc hf
    obtain rfl : n = 0 := by omega
    have hl : (clss xs).length = 0 := by rw [clss_length, h.len]
    go_enter Try.func52, Try.ntmps52
    go_wp2
    go_ret
    exact ⟨_, 0, rfl, by simp only [pairF, hl, if_true]; exact .of_lit (by decide) (by decide), rfl⟩
  | succ f ih =>
    intro A n c xs w h hn hc hf
    have hl : (clss xs).length = n := by rw [clss_length, h.len]
    rw [pairF, hl]
    rcases Nat.lt_or_ge n 2 with h2 | h2
    · rcases Nat.eq_zero_or_pos n with h0 | h0
      · subst h0
        go_enter Try.func52, Try.ntmps52
        go_wp2
        go_ret
        exact ⟨_, 0, rfl, .of_lit (by decide) (by decide), rfl⟩
      · obtain rfl : n = 1 := by omega
        obtain ⟨ad, x, X, rfl, hc', hx, _, hX⟩ := h.at_ (k := 0) (by omega)
        rw [hX]
        have hc2 : w.cell? ad = some (.float .f32 x) := by simpa [Addr.add] using hc'
        go_enter Try.func52, Try.ntmps52
        go_wp2
        go_ret
        exact ⟨_, 0, rfl, hx, rfl⟩
    · rw [if_neg (by omega), if_neg (by omega)]
      obtain ⟨ad, x, X, rfl, _, _, _, _⟩ := h.at_ (k := 0) (by omega)
      obtain ⟨k, hk⟩ : ∃ k, k = (n + 1) / 2 := ⟨_, rfl⟩
      have hk1 : 0 < k ∧ k < n ∧ k ≤ f + 1 ∧ n - k ≤ f := by omega
      rw [← hk, ← clss_take, ← clss_drop]
      have h1 := h.head k (by omega)
      have h2' := h.tail k (by omega)
      have hq : ((n : Int) + 1) / 2 = (k : Int) := by omega
      have hck : ¬ (c = k) := by omega
      have C1 : ∀ w', w'.heap = w.heap → Calls Try.prog 52 #[.slice (some ad) k c] w' (RF .f32 (pairF (f + 1) (clss (xs.take k))) w') := fun w' e => ih w' (h1.same e) (by omega) (by omega) (by omega)
      have C2 : ∀ w', w'.heap = w.heap → Calls Try.prog 52 #[.slice (some (ad.add k)) (n - k) (c - k)] w' (RF .f32 (pairF (f + 1) (clss (xs.drop k))) w') := fun w' e => ih w' (h2'.same e) (by omega) (by omega) (by omega)
      clear ih h1 h2' h
      clear hk
      go_enter Try.func52, Try.ntmps52
      go_wp2_with fail
      go_region_with (go_at_call 52; (first
        | ((with_reducible refine (C1 _ ?_).mono ?_); rfl; rintro e w' ⟨r, m, rfl, hr1, rfl⟩)
        | ((with_reducible refine (C2 _ ?_).mono ?_); rfl; rintro e w' ⟨r, m, rfl, hr2, rfl⟩)))
      all_goals go_wp2
      all_goals go_ret
      all_goals exact ⟨_, _, rfl, (by repeat (first | (with_reducible assumption) | exact Fl.of_lit (by decide) (by decide) | apply Fl.fr | apply Fl.cw | apply Fl.cn)), rfl⟩
def pairNC (n : Nat) (X : List (Option Nat)) : Option Nat := if few n = true then pairF (n + 1) X else some 0
set_option maxHeartbeats 400000 in
theorem spec_SumPairs {A : Option Addr} {n c : Nat} {xs : List Nat} (w : World) (h : Rd w A n xs) (hn : n ≤ 1048576) (hc : n ≤ c) : Calls Try.prog 20 #[.slice A n c] w (RFBM (pairNC n (clss xs)) (few n) w) := by
  unfold pairNC
  cases hf : few n <;> simp only [Bool.false_eq_true, if_true, if_false]
  · go_enter Try.func20, Try.ntmps20
    go_wp2_with (go_at_call 47; refine (spec_l01Few hn _).mono ?_; rintro e w' ⟨rfl, rfl⟩)
    go_ret2
    exact ⟨_, rfl, zero_fl, Below.refl _ _⟩
  · go_enter Try.func20, Try.ntmps20
    go_wp2_with (first | (go_at_call 47; refine (spec_l01Few hn _).mono ?_; rintro e w' ⟨rfl, rfl⟩) | (go_at_call 51; refine (spec_l01SumPairs n _ h hn hc (Nat.le_refl _)).mono ?_; rintro e w' ⟨r, m, rfl, hr, rfl⟩))
    go_ret2
    exact ⟨_, rfl, hr, below_draws _ _⟩
set_option maxHeartbeats 400000 in
theorem impl_SumPairs {A : Option Addr} {n c : Nat} {xs : List Nat} (w : World) (h : Rd w A n xs) (hn : n ≤ 1048576) (hc : n ≤ c) : Calls Try.prog 21 #[.slice A n c] w (RFBM (pairNC n (clss xs)) (few n) w) := by
  unfold pairNC
  cases hf : few n <;> simp only [Bool.false_eq_true, if_true, if_false]
  · go_enter Try.func21, Try.ntmps21
    go_wp2_with (go_at_call 49; refine (impl_areSamples hn _).mono ?_; rintro e w' ⟨rfl, rfl⟩)
    go_ret2
    exact ⟨_, rfl, zero_fl, Below.refl _ _⟩
  · go_enter Try.func21, Try.ntmps21
    go_wp2_with (first | (go_at_call 49; refine (impl_areSamples hn _).mono ?_; rintro e w' ⟨rfl, rfl⟩) | (go_at_call 52; refine (impl_sumPairs n _ h hn hc (Nat.le_refl _)).mono ?_; rintro e w' ⟨r, m, rfl, hr, rfl⟩))
    go_ret2
    exact ⟨_, rfl, hr, below_draws _ _⟩
set_option maxHeartbeats 4000000 in
set_option maxRecDepth 100000 in
theorem sumPairs_walk (a0 : Option Addr) (n0 c0 : Nat) (l0 : List Value) (w : World) (w0 : Row w [.f32] a0 n0 l0) :
    Calls Try.prog 4 #[.slice a0 n0 c0] w fun e w' => e = .returned (.bool true) ∧ Below w.heap.size w w' := by
  obtain ⟨x0, h0⟩ := w0.rd
  rcases Nat.lt_or_ge 1048576 n0 with hn0 | hn0
  · go_enter Try.func4, Try.ntmps4
    go_wp2_with fail
    go_ret
    exact ⟨rfl, Below.refl _ _⟩
  have hl0 := h0.len
  have HL0 := Lib.hid hl0; clear hl0
  have HB0 : Below w.heap.size w w := Below.refl _ _
  have hz0 : w.heap.size ≤ w.heap.size := Nat.le_refl _
  go_enter Try.func4, Try.ntmps4
  go_wp2_with fail
  refine (laws_toFloat32S _ (h0.below HB0) hn0).mono ?_
  rintro e_ W1 ⟨v1, rfl, HO1, hb1⟩
  obtain ⟨A1, c_1, rfl⟩ := HO1.shape_n HL0.out
  have hs1 : w.heap.size ≤ W1.heap.size := hb1.size
  have HB1 := below_next HB0 hz0 hb1
  have hz1 : w.heap.size ≤ W1.heap.size := Nat.le_trans hz0 hs1
  have ltA1 := HO1.lt
  have geA1 := HO1.base
  clear hb1
  go_wp2_with fail
  refine (spec_SumPairs _ (HO1.rd HL0.out) hn0 (HO1.cap_n HL0.out)).mono ?_
  rintro e_ W2 ⟨rw0, rfl, hrw0, hb2⟩
  have hs2 : W1.heap.size ≤ W2.heap.size := hb2.size
  have HB2 := below_next HB1 hz1 hb2
  have hz2 : w.heap.size ≤ W2.heap.size := Nat.le_trans hz1 hs2
  replace HO1 := HO1.below hb2
  clear hb2
  go_wp2_with fail
  refine (laws_toFloat32S _ (h0.below HB2) hn0).mono ?_
  rintro e_ W3 ⟨v2, rfl, HO2, hb3⟩
  obtain ⟨A2, c_2, rfl⟩ := HO2.shape_n HL0.out
  have hs3 : W2.heap.size ≤ W3.heap.size := hb3.size
  have HB3 := below_next HB2 hz2 hb3
  have hz3 : w.heap.size ≤ W3.heap.size := Nat.le_trans hz2 hs3
  replace HO1 := HO1.below hb3
  have ltA2 := HO2.lt
  have geA2 := HO2.base
  clear hb3
  go_wp2_with fail
  refine (impl_SumPairs _ (HO2.rd HL0.out) hn0 (HO2.cap_n HL0.out)).mono ?_
  rintro e_ W4 ⟨rg0, rfl, hrg0, hb4⟩
  have hs4 : W3.heap.size ≤ W4.heap.size := hb4.size
  have HB4 := below_next HB3 hz3 hb4
  have hz4 : w.heap.size ≤ W4.heap.size := Nat.le_trans hz3 hs4
  replace HO1 := HO1.below hb4
  replace HO2 := HO2.below hb4
  clear hb4
  go_wp2_with fail
  refine (RB.m (laws_sameFloat (hrg0.cw _) (hrw0.cw _) _)).mono ?_
  rintro e_ W5 ⟨rfl, hb5⟩
  replace hb5 := below_undrawn hb5
  have hs5 : W4.heap.size ≤ W5.heap.size := hb5.size
  have HB5 := below_next HB4 hz4 hb5
  have hz5 : w.heap.size ≤ W5.heap.size := Nat.le_trans hz4 hs5
  replace HO1 := HO1.below hb5
  replace HO2 := HO2.below hb5
  clear hb5
  go_wp2_with fail
  refine (laws_toFloat32S _ (h0.below HB5) hn0).mono ?_
  rintro e_ W6 ⟨v3, rfl, HO3, hb6⟩
  obtain ⟨A3, c_3, rfl⟩ := HO3.shape_n HL0.out
  have hs6 : W5.heap.size ≤ W6.heap.size := hb6.size
  have HB6 := below_next HB5 hz5 hb6
  have hz6 : w.heap.size ≤ W6.heap.size := Nat.le_trans hz5 hs6
  replace HO1 := HO1.below hb6
  replace HO2 := HO2.below hb6
  have ltA3 := HO3.lt
  have geA3 := HO3.base
  clear hb6
  go_wp2_with fail
  refine (RB.m (laws_eqFloat32S _ (HO2.rd HL0.out) (HO3.rd HL0.out) rfl (by omega))).mono ?_
  rintro e_ W7 ⟨rfl, hb7⟩
  have hs7 : W6.heap.size ≤ W7.heap.size := hb7.size
  have HB7 := below_next HB6 hz6 hb7
  have hz7 : w.heap.size ≤ W7.heap.size := Nat.le_trans hz6 hs7
  replace HO1 := HO1.below hb7
  replace HO2 := HO2.below hb7
  replace HO3 := HO3.below hb7
  clear hb7
  go_wp2_with fail
  go_ret
  exact ⟨rfl, HB7⟩
end Go.Proofs.Ytcjflleeffbhhaa
