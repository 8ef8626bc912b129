/- Texts, second part: texts of lists of numbers, and the law on them. Conditions: none beside the contracts' own. -/
import Derived.Test.YtajnncidkmafgaaW1
import Derived.Test.YtajnncidkmafgaaShelf
set_option linter.unusedVariables false
set_option linter.unusedSimpArgs false
namespace Go.Proofs.Ytajnncidkmafgaa
open Go.RowKit
def joinT (ls : List (List UInt8)) : List UInt8 := if ls = [] then [110, 111, 110, 101] else Lib.join ls [44]
theorem joinTail_append (sep : List UInt8) (a b : List (List UInt8)) : Lib.joinTail sep (a ++ b) = Lib.joinTail sep a ++ Lib.joinTail sep b := by simp [Lib.joinTail]
theorem join_snoc (ls : List (List UInt8)) (l sep : List UInt8) (h : ls ≠ []) : Lib.join (ls ++ [l]) sep = Lib.join ls sep ++ (sep ++ l) := by
  cases ls with
  | nil => exact absurd rfl h
  | cons x r => rw [List.cons_append, Lib.join_cons, Lib.join_cons, joinTail_append]; simp [Lib.joinTail]
theorem lens_le (m : Nat) : ∀ ls : List (List UInt8), (∀ l ∈ ls, l.length ≤ m) → Lib.lens ls ≤ m * ls.length
  | [], _ => by simp [Lib.lens]
  | x :: r, h => by
    have := lens_le m r (fun l hl => h l (List.mem_cons_of_mem _ hl))
    have hx := h x List.mem_cons_self
    simp only [Lib.lens, List.map_cons, List.sum_cons, List.length_cons] at this ⊢
    rw [Nat.mul_succ]; omega
theorem join_length_le (m : Nat) (ls : List (List UInt8)) (h : ∀ l ∈ ls, l.length ≤ m) : (Lib.join ls [44]).length ≤ (m + 1) * ls.length := by
  cases ls with
  | nil => simp [Lib.join, List.intercalate]
  | cons x r =>
    have := lens_le m r (fun l hl => h l (List.mem_cons_of_mem _ hl))
    have hx := h x List.mem_cons_self
    rw [Lib.join_cons, List.length_append, Lib.joinTail_length]
    simp only [List.length_cons, List.length_nil]
    have e : (m + 1) * r.length = m * r.length + r.length := Nat.succ_mul _ _
    rw [Nat.mul_succ]; omega
theorem tx_data (l : List UInt8) : (ByteArray.mk l.toArray).data.toList = l := by simp
set_option maxHeartbeats 400000 in
theorem impl_joined {w : World} {B m : Nat} {v : Value} {ls : List (List UInt8)} (ho : OwT w B v ls) (hn : ls.length ≤ 4194304) (hm : ∀ l ∈ ls, l.length ≤ m) (hm' : m ≤ 1000) :
    Calls Try.prog 22 #[v] w fun e w' => e = .returned (tx (joinT ls)) ∧ Below w.heap.size w w' := by
  obtain ⟨A, c, rfl, hc⟩ := row_shape ho
  rw [txs_length]
  by_cases hl : ls = []
  · subst hl
    go_enter Try.func22, Try.ntmps22
    go_wp2
    go_ret
    exact ⟨rfl, Below.refl _ _⟩
  · obtain ⟨g, rfl, hB, hg, hlc, hcell⟩ := hc (by simpa [txs] using hl)
    have hpos : 0 < ls.length := List.length_pos_iff.2 hl
    rw [txs_length] at hlc
    have hjl := join_length_le m ls hm
    have hmul : (m + 1) * ls.length ≤ 1001 * 4194304 := Nat.mul_le_mul (by omega) hn
    have hmap : (ls.map fun l => ByteArray.mk l.toArray).map (·.data.toList) = ls := by
      rw [List.map_map]
      exact (List.map_congr_left (fun l _ => tx_data l)).trans (List.map_id ls)
    have C := Try.strings_Join g 0 c (ls.map fun l => ByteArray.mk l.toArray) ⟨#[44]⟩ w (fun j x hx => by
      rw [List.getElem?_map] at hx
      obtain ⟨l, hl1, rfl⟩ := Option.map_eq_some_iff.1 hx
      rw [Nat.zero_add]
      exact hcell j _ (by simp [txs, hl1])) hg (by simp; omega) (by simpa using hlc) (by rw [hmap]; show (Lib.join ls [44]).length ≤ _; omega)
    rw [hmap, List.length_map] at C
    have HC := Lib.hid C
    clear C
    go_enter Try.func22, Try.ntmps22
    go_wp2_with (go_at_call 26; refine HC.out.mono ?_; rintro e w' ⟨rfl, hb⟩)
    go_ret
    exact ⟨by rw [joinT, if_neg hl]; rfl, hb⟩
/-- The texts of numbers, given by their classes. -/
def hexes (X : List (Option Nat)) : List (List UInt8) := X.map fun x => hexT (bitsC x) 8
theorem hexes_length (X : List (Option Nat)) : (hexes X).length = X.length := by simp [hexes]
theorem hexes_most (X : List (Option Nat)) : ∀ l ∈ hexes X, l.length ≤ 8 := by
  intro l hl
  obtain ⟨x, _, rfl⟩ := List.mem_map.1 hl
  rw [hexT_length]; omega
theorem hexes_snoc (X : List (Option Nat)) (x : Option Nat) : hexes (X ++ [x]) = hexes X ++ [hexT (bitsC x) 8] := by simp [hexes]
theorem run_add_tx (l m : List UInt8) (h : l.length + m.length ≤ 9223372036854775807) (W : World) : (Op.stringOp .add ⟨l.toArray⟩ ⟨m.toArray⟩).run Try.prog W = .ok (tx (l ++ m)) W := by
  rw [run_string_add_sum W _ _ (by
    have h0 : (ByteArray.mk l.toArray).size = l.length := by show l.toArray.size = _; simp
    have h1 : (ByteArray.mk m.toArray).size = m.length := by show m.toArray.size = _; simp
    rw [h0, h1]; exact h)]
  exact congrArg (fun z => Result.ok (Value.string z) W) (ByteArray.mk_append_mk l m)
theorem add_zero' (ad : Addr) : ad.add 0 = ad := by cases ad; unfold Addr.add; split <;> simp_all
set_option maxHeartbeats 400000 in
theorem spec_l01NText {A : Option Addr} {n c : Nat} {xs : List Nat} (w : World) (h : Rd w A n xs) (hn : n ≤ 1048576) :
    Calls Try.prog 19 #[.slice A n c] w fun e w' => e = .returned (tx (joinT (hexes (clss xs)))) ∧ Below w.heap.size w w' := by
  by_cases h0 : n = 0
  · subst h0
    obtain rfl : xs = [] := List.eq_nil_of_length_eq_zero h.len
    go_enter Try.func19, Try.ntmps19
    go_wp2
    go_ret
    exact ⟨rfl, Below.refl _ _⟩
  · have hpos : 0 < n := by omega
    obtain ⟨ad, x0, X0, rfl, hc0, hx0, hxk0, hX0⟩ := h.at_ hpos
    rw [add_zero'] at hc0
    have e1 : (clss xs).take 1 = [X0] := by have := clss_snoc hX0; simpa using this
    go_enter Try.func19, Try.ntmps19
    go_wp2_with (go_at_call 24; refine (spec_l01Hex hx0 _).mono ?_; rintro e w' ⟨rfl, hb0⟩)
    go_loopw [3, 4] (fun s i w' => ∃ k : Nat, 1 ≤ k ∧ k ≤ n ∧ s = tx (Lib.join (hexes ((clss xs).take k)) [44]) ∧ i = .int .i64 (k : Nat) ∧ Below w.heap.size w w') (fun _ i _ => n - (intOf i).toNat)
    case atStart => exact ⟨1, by omega, by omega, by rw [e1]; simp [hexes, Lib.join_one], rfl, hb0⟩
    case round =>
      obtain ⟨k, hk1, hk, rfl, rfl, hb⟩ := hrel
      by_cases hlt : k < n
      · obtain ⟨ad', x, X, hA, hc, hx, hxk, hX⟩ := (h.below hb).at_ hlt
        cases hA
        have hjl := join_length_le 8 _ (hexes_most ((clss xs).take k))
        rw [hexes_length, List.length_take] at hjl
        have hjl2 : (Lib.join (hexes ((clss xs).take k)) [44]).length ≤ 9437184 := by
          have : (8 + 1) * min k (clss xs).length ≤ 9 * 1048576 := Nat.mul_le_mul (by omega) (by omega)
          omega
        have ha1 : ∀ W, _ = Result.ok (tx (44 :: hexT (bitsC X) 8)) W := run_add_tx [44] (hexT (bitsC X) 8) (by rw [hexT_length]; decide)
        have ha2 := run_add_tx (Lib.join (hexes ((clss xs).take k)) [44]) (44 :: hexT (bitsC X) 8) (by rw [List.length_cons, hexT_length]; omega)
        have ej : Lib.join (hexes ((clss xs).take (k + 1))) [44] = Lib.join (hexes ((clss xs).take k)) [44] ++ (44 :: hexT (bitsC X) 8) := by
          rw [clss_snoc hX, hexes_snoc, join_snoc]
          · rfl
          · intro e
            have := congrArg List.length e
            rw [hexes_length, List.length_take, clss_length, h.len] at this
            simp at this; omega
        rw [← ej] at ha2
        generalize ej1 : Lib.join (hexes ((clss xs).take (k + 1))) [44] = T1 at ha2
        have EJ := Lib.hid ej1
        clear ej ej1 hjl hjl2
        go_wp2_with (go_at_call 24; refine (spec_l01Hex hx _).mono ?_; rintro e w' ⟨rfl, hb1⟩)
        exact ⟨⟨k + 1, by omega, by omega, by rw [EJ.out], by go_num, below_next hb hb.size hb1⟩, by simp [intOf]; omega⟩
      · obtain rfl : k = n := by omega
        go_wp2
        go_ret
        exact ⟨by rw [List.take_of_length_le (by rw [clss_length, h.len]; omega), joinT, if_neg (by intro e; have := congrArg List.length e; rw [hexes_length, clss_length, h.len] at this; simp at this; omega)]; rfl, hb⟩
def numsT (n : Nat) (X : List (Option Nat)) : List UInt8 := if few n = true then joinT (hexes X) else []
set_option maxHeartbeats 400000 in
theorem spec_NumbersText {A : Option Addr} {n c : Nat} {xs : List Nat} (w : World) (h : Rd w A n xs) (hn : n ≤ 1048576) :
    Calls Try.prog 10 #[.slice A n c] w fun e w' => e = .returned (.tuple #[tx (numsT n (clss xs)), .bool (few n)]) ∧ Below w.heap.size w w' := by
  unfold numsT
  cases hf : few n <;> simp only [Bool.false_eq_true, if_true, if_false]
  · go_enter Try.func10, Try.ntmps10
    go_wp2_with (go_at_call 18; refine (spec_l01Few hn _).mono ?_; rintro e w' ⟨rfl, rfl⟩)
    go_ret2
    exact ⟨rfl, Below.refl _ _⟩
  · go_enter Try.func10, Try.ntmps10
    go_wp2_with (first | (go_at_call 18; refine (spec_l01Few hn _).mono ?_; rintro e w' ⟨rfl, rfl⟩) | (go_at_call 19; refine (spec_l01NText _ h hn).mono ?_; rintro e w' ⟨rfl, hb⟩))
    go_ret2
    exact ⟨rfl, hb⟩
set_option maxHeartbeats 800000 in
theorem impl_NumbersText {A : Option Addr} {n c : Nat} {xs : List Nat} (w : World) (h : Rd w A n xs) (hn : n ≤ 1048576) :
    Calls Try.prog 12 #[.slice A n c] w fun e w' => e = .returned (.tuple #[tx (numsT n (clss xs)), .bool (few n)]) ∧ Below w.heap.size w w' := by
  unfold numsT
  cases hf : few n <;> simp only [Bool.false_eq_true, if_true, if_false]
  · go_enter Try.func12, Try.ntmps12
    go_wp2_with (go_at_call 20; refine (impl_areSamples hn _).mono ?_; rintro e w' ⟨rfl, rfl⟩)
    go_ret2
    exact ⟨rfl, Below.refl _ _⟩
  · go_enter Try.func12, Try.ntmps12
    go_wp2_with (go_at_call 20; refine (impl_areSamples hn _).mono ?_; rintro e w' ⟨rfl, rfl⟩)
    go_loopw [4, 12] (fun s i w' => ∃ k : Nat, k ≤ n ∧ OwT w' w.heap.size s (hexes ((clss xs).take k)) ∧ i = .int .i64 (k : Nat) ∧ Below w.heap.size w w') (fun _ i _ => n - (intOf i).toNat)
    case atStart => exact ⟨0, by omega, World.ownsRow_nil _ _ _ _, rfl, Below.refl _ _⟩
    case round =>
      obtain ⟨k, hk, ho, rfl, hb⟩ := hrel
      by_cases hlt : k < n
      · obtain ⟨ad, x, X, rfl, hc, hx, hxk, hX⟩ := (h.below hb).at_ hlt
        have eS := clss_snoc hX
        go_wp2_with (go_at_call 21; refine (impl_hexOf hx _).mono ?_; rintro e w1 ⟨rfl, hb1⟩; refine Hid.out ?_)
        refine Lib.hid ?_
        have ho1 := row_below ho hb1
        have hB1 := below_next hb hb.size hb1
        go_wp2_with (at_builtin; refine ap_val w.heap.size rfl _ _ 37 9 (.string ByteArray.empty) 16 rfl Try.underlying37 info_str rfl (by decide) u4 (txs (hexes ((clss xs).take k))) (tx (hexT (bitsC X) 8)) rfl rfl rfl ho1 hB1.size (by rw [txs_length, hexes_length, List.length_take]; omega) ?_; intro v1 w2 hown hg hat)
        rw [txs_snoc, ← hexes_snoc, ← eS] at hown
        have HB : Below w.heap.size w w2 := hB1.grown hg hB1.size (fun q hq => (row_lt ho1 q hq).1)
        exact ⟨⟨k + 1, by omega, hown, by go_num, HB⟩, by simp [intOf]; omega⟩
      · obtain rfl : k = n := by omega
        rw [List.take_of_length_le (by rw [clss_length, h.len]; omega)] at ho
        have C := impl_joined ho (by rw [hexes_length, clss_length, h.len]; omega) (hexes_most _) (by decide)
        go_wp2_with (go_at_call 22; refine C.mono ?_; rintro e w1 ⟨rfl, hb1⟩)
        go_ret2
        exact ⟨rfl, below_next hb hb.size hb1⟩
set_option maxHeartbeats 4000000 in
set_option maxRecDepth 100000 in
theorem numbersText_walk (a0 : Option Addr) (n0 c0 : Nat) (l0 : List Value) (w : World) (w0 : Row w [.f32] a0 n0 l0) :
    Calls Try.prog 5 #[.slice a0 n0 c0] w fun e w' => e = .returned (.bool true) ∧ Below w.heap.size w w' := by
  obtain ⟨x0, h0⟩ := w0.rd
  rcases Nat.lt_or_ge 1048576 n0 with hn0 | hn0
  · go_enter Try.func5, Try.ntmps5
    go_wp2_with fail
    go_ret
    exact ⟨rfl, by (repeat (first | exact Below.refl _ _ | (with_reducible assumption) | refine below_drewN ?_ _ | refine Below.drew ?_ | refine Below.alloc ?_ (by simp; try omega) _))⟩
  have hl0 := h0.len
  have HL0 := Lib.hid hl0; clear hl0
  have HB0 : Below w.heap.size w w := Below.refl _ _
  have hz0 : w.heap.size ≤ w.heap.size := Nat.le_refl _
  go_enter Try.func5, Try.ntmps5
  go_wp2_with fail
  refine (laws_toFloat32S _ (h0.below HB0) hn0).mono ?_
  rintro e_ W1 ⟨v1, rfl, HO1, hb1⟩
  obtain ⟨A1, c_1, rfl⟩ := HO1.shape_n HL0.out
  have hs1 : w.heap.size ≤ W1.heap.size := hb1.size
  have HB1 := below_next HB0 hz0 hb1
  have hz1 : w.heap.size ≤ W1.heap.size := Nat.le_trans hz0 hs1
  have ltA1 := HO1.lt
  have geA1 := HO1.base
  clear hb1
  go_wp2_with fail
  refine (spec_NumbersText _ (HO1.rd HL0.out) hn0).mono ?_
  rintro e_ W2 ⟨rfl, hb2⟩
  have hs2 : W1.heap.size ≤ W2.heap.size := hb2.size
  have HB2 := below_next HB1 hz1 hb2
  have hz2 : w.heap.size ≤ W2.heap.size := Nat.le_trans hz1 hs2
  replace HO1 := HO1.below hb2
  clear hb2
  go_wp2_with fail
  refine (laws_toFloat32S _ (h0.below HB2) hn0).mono ?_
  rintro e_ W3 ⟨v2, rfl, HO2, hb3⟩
  obtain ⟨A2, c_2, rfl⟩ := HO2.shape_n HL0.out
  have hs3 : W2.heap.size ≤ W3.heap.size := hb3.size
  have HB3 := below_next HB2 hz2 hb3
  have hz3 : w.heap.size ≤ W3.heap.size := Nat.le_trans hz2 hs3
  replace HO1 := HO1.below hb3
  have ltA2 := HO2.lt
  have geA2 := HO2.base
  clear hb3
  go_wp2_with fail
  refine (impl_NumbersText _ (HO2.rd HL0.out) hn0).mono ?_
  rintro e_ W4 ⟨rfl, hb4⟩
  have hs4 : W3.heap.size ≤ W4.heap.size := hb4.size
  have HB4 := below_next HB3 hz3 hb4
  have hz4 : w.heap.size ≤ W4.heap.size := Nat.le_trans hz3 hs4
  replace HO1 := HO1.below hb4
  replace HO2 := HO2.below hb4
  clear hb4
  go_wp2_with fail
  refine (laws_toFloat32S _ (h0.below HB4) hn0).mono ?_
  rintro e_ W5 ⟨v3, rfl, HO3, hb5⟩
  obtain ⟨A3, c_3, rfl⟩ := HO3.shape_n HL0.out
  have hs5 : W4.heap.size ≤ W5.heap.size := hb5.size
  have HB5 := below_next HB4 hz4 hb5
  have hz5 : w.heap.size ≤ W5.heap.size := Nat.le_trans hz4 hs5
  replace HO1 := HO1.below hb5
  replace HO2 := HO2.below hb5
  have ltA3 := HO3.lt
  have geA3 := HO3.base
  clear hb5
  go_wp2_with fail
  refine (RB.m (laws_eqFloat32S _ (HO2.rd HL0.out) (HO3.rd HL0.out) rfl (by omega))).mono ?_
  rintro e_ W6 ⟨rfl, hb6⟩
  have hs6 : W5.heap.size ≤ W6.heap.size := hb6.size
  have HB6 := below_next HB5 hz5 hb6
  have hz6 : w.heap.size ≤ W6.heap.size := Nat.le_trans hz5 hs6
  replace HO1 := HO1.below hb6
  replace HO2 := HO2.below hb6
  replace HO3 := HO3.below hb6
  clear hb6
  go_wp2_with fail
  go_ret
  exact ⟨rfl, HB6⟩
end Go.Proofs.Ytajnncidkmafgaa
