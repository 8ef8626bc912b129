/- Rooms: the program; the law's conversions. Conditions: none beside the contracts' own. -/
import Derived.Test.YtlenpecnfilkjaaJ2
set_option linter.unusedVariables false
set_option linter.unusedSimpArgs false
namespace Go.Proofs.Ytlenpecnfilkjaa
open Go.RowKit
set_option maxHeartbeats 1600000 in
theorem impl_lengths {A B : Option Addr} {n m c d x y : Nat} {f0 : Nat → Int} {f1 f2 f3 : Nat → Nat} {f4 : Nat → Bool} {g0 : Nat → Int} {g1 : Nat → Nat} (w : World) (h : RdDelay w A n f0 f1 f2 f3 f4) (hn : n ≤ 1048576) (h' : RdPass w B m g0 g1) (hm : m ≤ 1048576) :
    Calls Try.prog 80 #[.agg #[.slice A n c, .slice B m d, .float .f32 x, .float .f32 y]] w fun e w' => ∃ v, e = .returned v ∧ OfI w' w.heap.size v (lens n f0 m g0) ∧ Below w.heap.size w w' := by
  obtain ⟨Wb, hWb⟩ : ∃ W, W = w.alloc (.cells #[.slice A n c, .slice B m d, .float .f32 x, .float .f32 y] 76) := ⟨_, rfl⟩
  have hB0 : Below w.heap.size w Wb := by rw [hWb]; exact (Below.refl _ w).alloc (Nat.le_refl _) _
  have hlb : w.heap.size < Wb.heap.size := by rw [hWb]; simp
  have hp0 : Wb.cell? ⟨w.heap.size, 0, none⟩ = some (.slice A n c) := by rw [hWb]; simp [go_sem]
  have hp1 : Wb.cell? ⟨w.heap.size, 1, none⟩ = some (.slice B m d) := by rw [hWb]; simp [go_sem]
  replace h := h.below hB0
  replace h' := h'.below hB0
  go_enter Try.func80, Try.ntmps80
  go_wp2_with fail
  rw [← hWb]
  clear hWb
  go_wp2_with fail
  go_loopw [3, 11] (fun v i w' => ∃ k, k ≤ n ∧ i = .int .i64 (k : Nat) ∧ OfI w' Wb.heap.size v ((List.range k).map f0) ∧ Below Wb.heap.size Wb w') (fun _ i _ => n - (intOf i).toNat)
  case atStart => exact ⟨0, Nat.zero_le _, rfl, .nil _ _ _, Below.refl _ _⟩
  case round =>
    obtain ⟨k, hk, rfl, ho, hb⟩ := hrel
    have hsz := hb.size
    by_cases hlt : k < n
    · obtain ⟨ad, rfl, c0, c1, c2, c3, c4⟩ := (h.below hb).cell k hlt
      have d1 := c1
      rw [← add_off ad (k * 5) 1 (by decide)] at d1
      have d2 := c2
      rw [← add_off ad (k * 5) 2 (by decide)] at d2
      have d3 := c3
      rw [← add_off ad (k * 5) 3 (by decide)] at d3
      have d4 := c4
      rw [← add_off ad (k * 5) 4 (by decide)] at d4
      clear h h' hp0 hp1
      go_wp2_with (at_builtin; refine ap_int (w0 := Wb) Wb.heap.size rfl _ _ 106 2 rfl Try.underlying106 info_i64 _ _ _ rfl (by go_simp) (by exact ho.below ((Below.refl _ _).alloc (Nat.le_refl _) _)) (by exact hb.alloc hsz _) (by simp; omega) (by simp; omega) ?_; intro v1 w3 ho3 hb3 hg3 hat)
      exact ⟨⟨k + 1, by omega, by go_num, by rw [List.range_succ, List.map_append]; exact ho3, hb3⟩, by simp [intOf]; omega⟩
    · obtain rfl : k = n := by omega
      rw [← lens_zero k f0 g0] at ho
      have hc1 := (cell_below (o := 1) hb hlb).trans hp1
      clear h hp0 hp1
      go_wp2_with fail
      go_loopw [3, 24] (fun v i w' => ∃ q, q ≤ m ∧ i = .int .i64 (q : Nat) ∧ OfI w' Wb.heap.size v (lens k f0 q g0) ∧ Below Wb.heap.size Wb w') (fun _ i _ => m - (intOf i).toNat)
      case atStart => exact ⟨0, Nat.zero_le _, rfl, ho, hb⟩
      case round =>
        clear ho hb hsz hc1
        obtain ⟨q, hq, rfl, ho, hb⟩ := hrel
        have hsz := hb.size
        by_cases hlq : q < m
        · obtain ⟨ad, rfl, c0, c1⟩ := (h'.below hb).cell q hlq
          have d1 := c1
          rw [← add_off ad (q * 2) 1 (by decide)] at d1
          clear h'
          go_wp2_with (at_builtin; refine ap_int (w0 := Wb) Wb.heap.size rfl _ _ 106 2 rfl Try.underlying106 info_i64 _ _ _ rfl (by go_simp) (by exact ho.below ((Below.refl _ _).alloc (Nat.le_refl _) _)) (by exact hb.alloc hsz _) (by simp; omega) (by rw [lens_len]; omega) ?_; intro v1 w3 ho3 hb3 hg3 hat)
          exact ⟨⟨q + 1, by omega, by go_num, by rw [lens_snoc]; exact ho3, hb3⟩, by simp [intOf]; omega⟩
        · obtain rfl : q = m := by omega
          go_wp2
          go_ret
          exact ⟨_, rfl, ho.low (Nat.le_of_lt hlb), below_next hB0 (Nat.le_of_lt hlb) hb⟩
set_option maxHeartbeats 800000 in
theorem impl_ValidRoom {A B : Option Addr} {n m c d x y : Nat} {f0 : Nat → Int} {f1 f2 f3 : Nat → Nat} {f4 : Nat → Bool} {g0 : Nat → Int} {g1 : Nat → Nat} (w : World) (h : RdDelay w A n f0 f1 f2 f3 f4) (hn : n ≤ 1048576) (h' : RdPass w B m g0 g1) (hm : m ≤ 1048576) :
    Calls Try.prog 44 #[.agg #[.slice A n c, .slice B m d, .float .f32 x, .float .f32 y]] w (RV (.bool (roomOk n m f0 g0)) w) := by
  have hal := fun o => (Below.refl _ w).alloc (Nat.le_refl _) o
  have hok : roomOk n m f0 g0 = ((upto n (fun k => inC (f0 k) 1 64) && upto m (fun k => inC (g0 k) 1 64)) && (inC n 1 4 && decide (m ≤ 3))) := rfl
  rw [← lens_all n f0 m g0 (fun x => inC x 1 64)] at hok
  cases c1 : inC (n : Int) 1 4
  · rw [c1, Bool.false_and, Bool.and_false] at hok
    rw [hok]
    go_enter Try.func44, Try.ntmps44
    go_wp2_with (first | (go_at_call 79; refine (impl_size _).mono ?_; rintro e w' ⟨rfl, rfl⟩) | (go_at_call 60; refine (impl_within _).mono ?_; rintro e w' ⟨rfl, rfl⟩))
    go_ret
    exact ⟨rfl, hal _⟩
  · rcases Nat.lt_or_ge 3 m with h3 | h3
    · rw [decide_eq_false (by omega), Bool.and_false, Bool.and_false] at hok
      rw [hok]
      go_enter Try.func44, Try.ntmps44
      go_wp2_with (first | (go_at_call 79; refine (impl_size _).mono ?_; rintro e w' ⟨rfl, rfl⟩) | (go_at_call 60; refine (impl_within _).mono ?_; rintro e w' ⟨rfl, rfl⟩))
      go_ret
      exact ⟨rfl, hal _⟩
    · rw [decide_eq_true h3, c1, Bool.and_true, Bool.and_true] at hok
      rw [hok]
      have HL := Lib.hid (lens_len n f0 m g0)
      have k1 := (inC_iff _ _ _).1 c1
      go_enter Try.func44, Try.ntmps44
      go_wp2_with (first | (go_at_call 79; refine (impl_size _).mono ?_; rintro e w' ⟨rfl, rfl⟩) | (go_at_call 60; refine (impl_within _).mono ?_; rintro e w' ⟨rfl, rfl⟩) | (go_at_call 80; refine (impl_lengths _ (h.below (hal _)) hn (h'.below (hal _)) hm).mono ?_; rintro e W1 ⟨v, rfl, ho, hb⟩; obtain ⟨A1, c1', rfl⟩ := ho.shape_n HL.out) | (go_at_call 69; refine (impl_allWithin _ (ho.rd HL.out) (by omega)).mono ?_; rintro e w' ⟨rfl, rfl⟩))
      go_ret
      exact ⟨rfl, below_next (hal _) (by simp) hb⟩
set_option maxHeartbeats 800000 in
theorem laws_szRoom {A B : Option Addr} {n m c d x y : Nat} (w : World) (hn : n ≤ maxLen) (hm : m ≤ maxLen) :
    Calls Try.prog 41 #[.agg #[.slice A n c, .slice B m d, .float .f32 x, .float .f32 y], .int .i64 1048576] w (RV (.int .i64 (if 1048576 < (n : Int) then -1 else if 1048576 - (n : Int) < (m : Int) then -1 else 1048576 - (n : Int) - m)) w) := by
  have hal := fun o => (Below.refl _ w).alloc (Nat.le_refl _) o
  rcases Nat.lt_or_ge 1048576 n with h1 | h1
  · rw [if_pos (by omega)]
    go_enter Try.func41, Try.ntmps41
    go_wp2_with fail
    refine (laws_szDelayS _ (by omega) hn).mono ?_
    rintro e w' ⟨rfl, rfl⟩
    rw [if_pos (by omega)]
    go_wp2_with fail
    go_ret
    exact ⟨rfl, hal _⟩
  · rw [if_neg (by omega)]
    by_cases h2 : 1048576 - (n : Int) < (m : Int)
    · rw [if_pos h2]
      go_enter Try.func41, Try.ntmps41
      go_wp2_with fail
      refine (laws_szDelayS _ (by omega) hn).mono ?_
      rintro e w' ⟨rfl, rfl⟩
      rw [if_neg (by omega)]
      go_wp2_with fail
      refine (laws_szPassS _ (by omega) hm).mono ?_
      rintro e w' ⟨rfl, rfl⟩
      rw [if_pos (by omega)]
      go_wp2_with fail
      go_ret
      exact ⟨rfl, hal _⟩
    · rw [if_neg h2]
      go_enter Try.func41, Try.ntmps41
      go_wp2_with fail
      refine (laws_szDelayS _ (by omega) hn).mono ?_
      rintro e w' ⟨rfl, rfl⟩
      rw [if_neg (by omega)]
      go_wp2_with fail
      refine (laws_szPassS _ (by omega) hm).mono ?_
      rintro e w' ⟨rfl, rfl⟩
      rw [if_neg (by omega)]
      go_wp2_with fail
      go_ret
      exact ⟨rfl, hal _⟩
end Go.Proofs.Ytlenpecnfilkjaa
