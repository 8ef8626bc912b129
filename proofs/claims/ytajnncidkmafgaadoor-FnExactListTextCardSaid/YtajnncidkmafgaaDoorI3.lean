/- Texts of lists of whole numbers: what they come to, and the law. Conditions: none beside the contracts' own. -/
import Derived.Test.YtajnncidkmafgaaDoorI2
set_option linter.unusedVariables false
set_option linter.unusedSimpArgs false
namespace Go.Proofs.YtajnncidkmafgaaDoor
open Go.RowKit
def decs (xs : List Int) : List (List UInt8) := xs.map Lib.itoa
theorem decs_length (xs : List Int) : (decs xs).length = xs.length := by simp [decs]
theorem decs_snoc (xs : List Int) (x : Int) : decs (xs ++ [x]) = decs xs ++ [Lib.itoa x] := by simp [decs]
/-- Whole numbers that are not too great. -/
def Fit (xs : List Int) : Prop := ∀ x ∈ xs, -1000000000000000 ≤ x ∧ x ≤ 1000000000000000
theorem fit_of {xs : List Int} (h : itemsC xs = true) : Fit xs ∧ xs.length ≤ 64 := by
  simp only [itemsC, Bool.and_eq_true, decide_eq_true_eq, List.all_eq_true] at h
  exact ⟨fun x hx => by have := h.2 x hx; simpa [inC] using this, h.1⟩
theorem decs_most {xs : List Int} (h : Fit xs) : ∀ l ∈ decs xs, l.length ≤ 21 := by
  intro l hl
  obtain ⟨x, hx, rfl⟩ := List.mem_map.1 hl
  have := h x hx
  exact Lib.itoa_length_le x (by omega) (by omega)
theorem fit_take {xs : List Int} (h : Fit xs) (k : Nat) : Fit (xs.take k) := fun x hx => h x (List.mem_of_mem_take hx)
theorem snoc_at {xs : List Int} {k : Nat} {x : Int} (hx : xs[k]? = some x) : xs.take (k + 1) = xs.take k ++ [x] := by
  obtain ⟨hk, rfl⟩ := List.getElem?_eq_some_iff.1 hx
  exact take_snoc xs k hk
set_option maxHeartbeats 400000 in
theorem spec_l01Text {A : Option Addr} {n c : Nat} {xs : List Int} (w : World) (h : RdI w A n xs) (hf : Fit xs) (hn : n ≤ 1048576) :
    Calls Tryd.prog 28 #[.slice A n c] w fun e w' => e = .returned (tx (joinT (decs xs))) ∧ Below w.heap.size w w' := by
  by_cases h0 : n = 0
  · subst h0
    obtain rfl : xs = [] := List.eq_nil_of_length_eq_zero h.len
    go_enter Tryd.func28, Tryd.ntmps28
    go_wp2
    go_ret
    exact ⟨rfl, Below.refl _ _⟩
  · have hpos : 0 < n := by omega
    have hlen := h.len
    obtain ⟨ad, x0, rfl, hc0, hx0⟩ := h.at_ hpos
    rw [add_zero'] at hc0
    have e1 : xs.take 1 = [x0] := by have := snoc_at hx0; simpa using this
    have hb0 := hf x0 (List.mem_of_getElem? hx0)
    have HF := Lib.hid hf
    clear hf
    go_enter Tryd.func28, Tryd.ntmps28
    go_wp2_with (go_at_call 25; refine (spec_l01Dec (by omega) (by omega) _).mono ?_; rintro e w' ⟨rfl, hb0⟩)
    go_loopw [3, 4] (fun s i w' => ∃ k : Nat, 1 ≤ k ∧ k ≤ n ∧ s = tx (Lib.join (decs (xs.take k)) [44]) ∧ i = .int .i64 (k : Nat) ∧ Below w.heap.size w w') (fun _ i _ => n - (intOf i).toNat)
    case atStart => exact ⟨1, by omega, by omega, by rw [e1]; simp [decs, Lib.join_one], rfl, by assumption⟩
    case round =>
      obtain ⟨k, hk1, hk, rfl, rfl, hb⟩ := hrel
      by_cases hlt : k < n
      · obtain ⟨ad', x, hA, hc, hX⟩ := (h.below hb).at_ hlt
        cases hA
        have hxb := HF.out x (List.mem_of_getElem? hX)
        have hil := Lib.itoa_length_le x (by omega) (by omega)
        have hjl := join_length_le 21 _ (decs_most (fit_take HF.out k))
        rw [decs_length, List.length_take] at hjl
        have hjl2 : (Lib.join (decs (xs.take k)) [44]).length ≤ 23068672 := by
          have : (21 + 1) * min k xs.length ≤ 22 * 1048576 := Nat.mul_le_mul (by omega) (by omega)
          omega
        have ha1 : ∀ W, _ = Result.ok (tx (44 :: Lib.itoa x)) W := run_add_tx [44] (Lib.itoa x) (by simp only [List.length_cons, List.length_nil]; omega)
        have ha2 := run_add_tx (Lib.join (decs (xs.take k)) [44]) (44 :: Lib.itoa x) (by rw [List.length_cons]; omega)
        have ej : Lib.join (decs (xs.take (k + 1))) [44] = Lib.join (decs (xs.take k)) [44] ++ (44 :: Lib.itoa x) := by
          rw [snoc_at hX, decs_snoc, join_snoc]
          · rfl
          · intro e
            have := congrArg List.length e
            rw [decs_length, List.length_take, hlen] at this
            simp at this; omega
        rw [← ej] at ha2
        generalize ej1 : Lib.join (decs (xs.take (k + 1))) [44] = T1 at ha2
        have EJ := Lib.hid ej1
        clear ej ej1 hjl hjl2 hil
        go_wp2_with (go_at_call 25; refine (spec_l01Dec (by omega) (by omega) _).mono ?_; rintro e w' ⟨rfl, hb1⟩)
        exact ⟨⟨k + 1, by omega, by omega, by rw [EJ.out], by go_num, below_next hb hb.size hb1⟩, by simp [intOf]; omega⟩
      · obtain rfl : k = n := by omega
        go_wp2
        go_ret
        exact ⟨by rw [List.take_of_length_le (by rw [hlen]; omega), joinT, if_neg (by intro e; have := congrArg List.length e; rw [decs_length, hlen] at this; simp at this; omega)]; rfl, hb⟩
set_option maxHeartbeats 800000 in
theorem impl_listText {A : Option Addr} {n c : Nat} {xs : List Int} (w : World) (h : RdI w A n xs) (hf : Fit xs) (hn : n ≤ 1048576) (ht : Pow w) :
    Calls Tryd.prog 30 #[.slice A n c] w fun e w' => e = .returned (tx (joinT (decs xs))) ∧ Below w.heap.size w w' := by
  have hlen := h.len
  have HF := Lib.hid hf
  have HT := Lib.hid ht
  clear hf ht
  go_enter Tryd.func30, Tryd.ntmps30
  go_wp2
  go_loopw [3, 8] (fun s i w' => ∃ k : Nat, k ≤ n ∧ OwT w' w.heap.size s (decs (xs.take k)) ∧ i = .int .i64 (k : Nat) ∧ Below w.heap.size w w') (fun _ i _ => n - (intOf i).toNat)
  case atStart => exact ⟨0, by omega, World.ownsRow_nil _ _ _ _, rfl, Below.refl _ _⟩
  case round =>
    obtain ⟨k, hk, ho, rfl, hb⟩ := hrel
    by_cases hlt : k < n
    · obtain ⟨ad, x, rfl, hc, hX⟩ := (h.below hb).at_ hlt
      have hxb := HF.out x (List.mem_of_getElem? hX)
      have eS := snoc_at hX
      have ht1 := HT.out.below hb
      go_wp2_with (go_at_call 9; refine (impl_Decimal (by omega) (by omega) _ ht1).mono ?_; rintro e w1 ⟨rfl, hb1⟩; refine Hid.out ?_)
      refine Lib.hid ?_
      have ho1 := row_below ho hb1
      have hB1 := below_next hb hb.size hb1
      go_wp2_with (at_builtin; refine ap_val w.heap.size rfl _ _ 48 9 (.string ByteArray.empty) 16 rfl Tryd.underlying48 info_str rfl (by decide) u3 (txs (decs (xs.take k))) (tx (Lib.itoa x)) rfl rfl rfl ho1 hB1.size (by rw [txs_length, decs_length, List.length_take]; omega) ?_; intro v1 w2 hown hg hat)
      rw [txs_snoc, ← decs_snoc, ← eS] at hown
      have HB : Below w.heap.size w w2 := hB1.grown hg hB1.size (fun q hq => (row_lt ho1 q hq).1)
      exact ⟨⟨k + 1, by omega, hown, by go_num, HB⟩, by simp [intOf]; omega⟩
    · obtain rfl : k = n := by omega
      rw [List.take_of_length_le (by rw [hlen]; omega)] at ho
      have C := impl_joined ho (by rw [decs_length, hlen]; omega) (decs_most HF.out) (by decide)
      go_wp2_with (go_at_call 42; refine C.mono ?_; rintro e w1 ⟨rfl, hb1⟩)
      go_ret
      exact ⟨rfl, below_next hb hb.size hb1⟩
def listT (xs : List Int) : List UInt8 := if itemsC xs = true then joinT (decs xs) else []
set_option maxHeartbeats 400000 in
theorem spec_ListText {A : Option Addr} {n c : Nat} {xs : List Int} (w : World) (h : RdI w A n xs) (hn : n ≤ 1048576) :
    Calls Tryd.prog 10 #[.slice A n c] w fun e w' => e = .returned (.tuple #[tx (listT xs), .bool (itemsC xs)]) ∧ Below w.heap.size w w' := by
  unfold listT
  cases hf : itemsC xs <;> simp only [Bool.false_eq_true, if_true, if_false]
  · go_enter Tryd.func10, Tryd.ntmps10
    go_wp2_with (go_at_call 27; refine (spec_l01List _ h hn).mono ?_; rintro e w' ⟨rfl, rfl⟩)
    go_ret2
    exact ⟨rfl, Below.refl _ _⟩
  · go_enter Tryd.func10, Tryd.ntmps10
    go_wp2_with (first | (go_at_call 27; refine (spec_l01List _ h hn).mono ?_; rintro e w' ⟨rfl, rfl⟩) | (go_at_call 28; refine (spec_l01Text _ h (fit_of hf).1 hn).mono ?_; rintro e w' ⟨rfl, hb⟩))
    go_ret2
    exact ⟨rfl, hb⟩
set_option maxHeartbeats 400000 in
theorem impl_ListText {A : Option Addr} {n c : Nat} {xs : List Int} (w : World) (h : RdI w A n xs) (hn : n ≤ 1048576) (ht : Pow w) :
    Calls Tryd.prog 12 #[.slice A n c] w fun e w' => e = .returned (.tuple #[tx (listT xs), .bool (itemsC xs)]) ∧ Below w.heap.size w w' := by
  unfold listT
  cases hf : itemsC xs <;> simp only [Bool.false_eq_true, if_true, if_false]
  · go_enter Tryd.func12, Tryd.ntmps12
    go_wp2_with (go_at_call 29; refine (impl_areItems _ h (by omega)).mono ?_; rintro e w' ⟨rfl, rfl⟩)
    go_ret2
    exact ⟨rfl, Below.refl _ _⟩
  · go_enter Tryd.func12, Tryd.ntmps12
    go_wp2_with (first | (go_at_call 29; refine (impl_areItems _ h (by omega)).mono ?_; rintro e w' ⟨rfl, rfl⟩) | (go_at_call 30; refine (impl_listText _ h (fit_of hf).1 hn ht).mono ?_; rintro e w' ⟨rfl, hb⟩))
    go_ret2
    exact ⟨rfl, hb⟩
end Go.Proofs.YtajnncidkmafgaaDoor
