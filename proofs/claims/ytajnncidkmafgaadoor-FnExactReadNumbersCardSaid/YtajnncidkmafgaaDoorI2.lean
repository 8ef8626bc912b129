/- Texts of lists of whole numbers, and the law on them. Conditions: none beside the contracts' own. -/
import Derived.Test.YtajnncidkmafgaaDoorI1
import Derived.Test.YtajnncidkmafgaaDoorW2
import Derived.Test.YtajnncidkmafgaaDoorX1
set_option linter.unusedVariables false
set_option linter.unusedSimpArgs false
namespace Go.Proofs.YtajnncidkmafgaaDoor
open Go.RowKit
def inC (n low high : Int) : Bool := decide (low ≤ n) && decide (n ≤ high)
set_option maxHeartbeats 400000 in
theorem spec_l00In (n low high : Int) (w : World) : Calls Tryd.prog 40 #[.int .i64 n, .int .i64 low, .int .i64 high] w fun e w' => e = .returned (.bool (inC n low high)) ∧ w = w' := by
  unfold inC
  go_enter Tryd.func40, Tryd.ntmps40
  go_wp2
  all_goals (go_ret; exact ⟨by simp_all <;> omega, rfl⟩)
set_option maxHeartbeats 400000 in
theorem impl_within (n low high : Int) (w : World) : Calls Tryd.prog 33 #[.int .i64 n, .int .i64 low, .int .i64 high] w fun e w' => e = .returned (.bool (inC n low high)) ∧ w = w' := by
  unfold inC
  go_enter Tryd.func33, Tryd.ntmps33
  go_wp2
  all_goals (go_ret; exact ⟨by simp_all <;> omega, rfl⟩)
theorem all_take {xs : List Int} {k : Nat} {x : Int} (p : Int → Bool) (hx : xs[k]? = some x) (h : (xs.take k).all p = true) : (xs.take (k + 1)).all p = p x ∧ (p x = false → xs.all p = false) := by
  obtain ⟨hk, rfl⟩ := List.getElem?_eq_some_iff.1 hx
  refine ⟨by rw [take_snoc xs k hk, List.all_append, h]; simp, fun hp => ?_⟩
  rw [List.all_eq_false]
  exact ⟨_, List.getElem_mem hk, by rw [hp]; decide⟩
set_option maxHeartbeats 400000 in
theorem impl_allWithin {A : Option Addr} {n c : Nat} {xs : List Int} {lo hi : Int} (w : World) (h : RdI w A n xs) (hn : n ≤ 1073741824) : Calls Tryd.prog 41 #[.slice A n c, .int .i64 lo, .int .i64 hi] w fun e w' => e = .returned (.bool (xs.all fun x => inC x lo hi)) ∧ w = w' := by
  have HX := Lib.hid h.len
  go_enter Tryd.func41, Tryd.ntmps41
  go_wp2
  go_loop [11] (fun i => ∃ k, k ≤ n ∧ i = .int .i64 (k : Nat) ∧ Hid ((xs.take k).all (fun x => inC x lo hi) = true)) (fun i => n - (intOf i).toNat)
  case atStart => exact ⟨0, Nat.zero_le _, rfl, Lib.hid rfl⟩
  case round =>
    obtain ⟨k, hk, rfl, ht⟩ := hrel
    by_cases hlt : k < n
    · obtain ⟨ad, x, rfl, hc, hx⟩ := h.at_ hlt
      obtain ⟨a1, a2⟩ := all_take (fun x => inC x lo hi) hx ht.out
      have H1 := Lib.hid a1
      have H2 := Lib.hid a2
      clear a1 a2 h hx
      cases c : inC x lo hi
      · go_wp2_with (go_at_call 33; refine (impl_within _ _ _ _).mono ?_; rintro e w' ⟨rfl, rfl⟩)
        go_ret
        exact ⟨by rw [H2.out c]; rfl, rfl⟩
      · go_wp2_with (go_at_call 33; refine (impl_within _ _ _ _).mono ?_; rintro e w' ⟨rfl, rfl⟩)
        exact ⟨⟨k + 1, by omega, by go_num, Lib.hid (by rw [H1.out, c])⟩, by simp [intOf]; omega⟩
    · go_wp2
      go_ret
      obtain rfl : k = n := by omega
      have h1 := ht.out
      rw [List.take_of_length_le (by rw [HX.out]; exact Nat.le_refl _)] at h1
      exact ⟨by rw [h1]; rfl, rfl⟩
/-- A list of few numbers that are not too great. -/
def itemsC (xs : List Int) : Bool := decide (xs.length ≤ 64) && xs.all fun x => inC x (-1000000000000000) 1000000000000000
set_option maxHeartbeats 400000 in
theorem impl_areItems {A : Option Addr} {n c : Nat} {xs : List Int} (w : World) (h : RdI w A n xs) (hn : n ≤ 1073741824) : Calls Tryd.prog 29 #[.slice A n c] w fun e w' => e = .returned (.bool (itemsC xs)) ∧ w = w' := by
  unfold itemsC
  have HL := h.len
  cases c1 : xs.all fun x => inC x (-1000000000000000) 1000000000000000
  · go_enter Tryd.func29, Tryd.ntmps29
    go_wp2_with (go_at_call 41; refine (impl_allWithin _ h hn).mono ?_; rintro e w' ⟨rfl, rfl⟩)
    all_goals (go_ret; exact ⟨by simp_all, rfl⟩)
  · go_enter Tryd.func29, Tryd.ntmps29
    go_wp2_with (go_at_call 41; refine (impl_allWithin _ h hn).mono ?_; rintro e w' ⟨rfl, rfl⟩)
    all_goals (go_ret; exact ⟨by simp_all <;> omega, rfl⟩)
set_option maxHeartbeats 400000 in
theorem spec_l01List {A : Option Addr} {n c : Nat} {xs : List Int} (w : World) (h : RdI w A n xs) (hn : n ≤ 1048576) : Calls Tryd.prog 27 #[.slice A n c] w fun e w' => e = .returned (.bool (itemsC xs)) ∧ w = w' := by
  have HX := Lib.hid h.len
  go_enter Tryd.func27, Tryd.ntmps27
  go_wp2
  go_loop [3] (fun i => ∃ k, k ≤ n ∧ i = .int .i64 (k : Nat) ∧ Hid ((xs.take k).all (fun x => inC x (-1000000000000000) 1000000000000000) = true)) (fun i => n - (intOf i).toNat)
  case atStart => exact ⟨0, Nat.zero_le _, rfl, Lib.hid rfl⟩
  case round =>
    obtain ⟨k, hk, rfl, ht⟩ := hrel
    by_cases hlt : k < n
    · obtain ⟨ad, x, rfl, hc, hx⟩ := h.at_ hlt
      obtain ⟨a1, a2⟩ := all_take (fun x => inC x (-1000000000000000) 1000000000000000) hx ht.out
      have H1 := Lib.hid a1
      have H2 := Lib.hid a2
      clear a1 a2 h hx
      cases c : inC x (-1000000000000000) 1000000000000000
      · go_wp2_with (go_at_call 40; refine (spec_l00In _ _ _ _).mono ?_; rintro e w' ⟨rfl, rfl⟩)
        go_ret
        exact ⟨by rw [itemsC, H2.out c, Bool.and_false]; rfl, rfl⟩
      · go_wp2_with (go_at_call 40; refine (spec_l00In _ _ _ _).mono ?_; rintro e w' ⟨rfl, rfl⟩)
        exact ⟨⟨k + 1, by omega, by go_num, Lib.hid (by rw [H1.out, c])⟩, by simp [intOf]; omega⟩
    · go_wp2
      go_ret
      obtain rfl : k = n := by omega
      have h1 := ht.out
      rw [List.take_of_length_le (by rw [HX.out]; exact Nat.le_refl _)] at h1
      exact ⟨by rw [itemsC, h1, HX.out, Bool.and_true]; exact ret_bool (by simp; omega), rfl⟩
end Go.Proofs.YtajnncidkmafgaaDoor
