/- Lines of zeros, lines of finite samples. Conditions: none beside the contracts' own. -/
import Derived.Test.YtbaokmapgdnhlaaL9
set_option linter.unusedVariables false
set_option linter.unusedSimpArgs false
namespace Go.Proofs.Ytbaokmapgdnhlaa
open Go.RowKit
def zeroC (X : Option Nat) : Bool := ford .f32 X (some 0) == some .eq
theorem all_snoc (f : Option Nat → Bool) {xs : List Nat} {k : Nat} {X : Option Nat} (h : (clss xs)[k]? = some X) : ((clss xs).take (k + 1)).all f = (((clss xs).take k).all f && f X) := by rw [clss_snoc h]; simp
theorem all_not (f : Option Nat → Bool) {xs : List Nat} {k : Nat} {X : Option Nat} (h : (clss xs)[k]? = some X) (hf : f X = false) : (clss xs).all f = false := by
  rw [List.all_eq_false]
  exact ⟨X, List.mem_of_getElem? h, by simp [hf]⟩
set_option maxHeartbeats 800000 in
theorem spec_l03Zeros {A : Option Addr} {n c : Nat} {xs : List Nat} (w : World) (h : Rd w A n xs) (hn : n ≤ 1048576) : Calls Try.prog 69 #[.slice A n c] w (RB ((clss xs).all zeroC) w) := by
  go_enter Try.func69, Try.ntmps69
  go_wp2
  go_loopw [6] (fun i w' => ∃ k m, k ≤ n ∧ i = .int .i64 (k : Nat) ∧ Hid (((clss xs).take k).all zeroC = true) ∧ w' = w.drewN m) (fun i _ => n - (intOf i).toNat)
  case atStart => exact ⟨0, 0, Nat.zero_le _, rfl, Lib.hid (by simp), rfl⟩
  case round =>
    obtain ⟨k, m, hk, rfl, hz, rfl⟩ := hrel
    by_cases hlt : k < n
    · obtain ⟨ad, x, X, rfl, hc, hx, _, hX⟩ := h.at_ hlt
      have ho := Fl.ord hx zero_fl
      have HA := Lib.hid (all_snoc zeroC hX)
      have HN := Lib.hid (all_not zeroC hX)
      clear hX h
      cases hq : (ford .f32 X (some 0) == some .eq)
      · have hq2 : (ford .f32 X (some 0) != some .eq) = true := by unfold bne; rw [hq]; rfl
        go_wp2
        go_ret
        exact ⟨by rw [HN.out hq]; rfl, _, rfl⟩
      · have hq2 : (ford .f32 X (some 0) != some .eq) = false := by unfold bne; rw [hq]; rfl
        go_wp2
        exact ⟨⟨k + 1, _, by omega, by go_num, Lib.hid (by rw [HA.out, hz.out]; exact hq), rfl⟩, by simp [intOf]; omega⟩
    · go_wp2
      go_ret
      exact ⟨by have e1 := hz.out; rw [clss_all h.len hk hlt] at e1; rw [e1]; rfl, _, rfl⟩
set_option maxHeartbeats 800000 in
theorem impl_areZeros {A : Option Addr} {n c : Nat} {xs : List Nat} (w : World) (h : Rd w A n xs) (hn : n ≤ 1048576) : Calls Try.prog 72 #[.slice A n c] w (RB ((clss xs).all zeroC) w) := by
  go_enter Try.func72, Try.ntmps72
  go_wp2
  go_loopw [7] (fun i w' => ∃ k m, k ≤ n ∧ i = .int .i64 (k : Nat) ∧ Hid (((clss xs).take k).all zeroC = true) ∧ w' = w.drewN m) (fun i _ => n - (intOf i).toNat)
  case atStart => exact ⟨0, 0, Nat.zero_le _, rfl, Lib.hid (by simp), rfl⟩
  case round =>
    obtain ⟨k, m, hk, rfl, hz, rfl⟩ := hrel
    by_cases hlt : k < n
    · obtain ⟨ad, x, X, rfl, hc, hx, _, hX⟩ := h.at_ hlt
      have ho := Fl.ord hx zero_fl
      have HA := Lib.hid (all_snoc zeroC hX)
      have HN := Lib.hid (all_not zeroC hX)
      clear hX h
      cases hq : (ford .f32 X (some 0) == some .eq)
      · have hq2 : (ford .f32 X (some 0) != some .eq) = true := by unfold bne; rw [hq]; rfl
        go_wp2
        go_ret
        exact ⟨by rw [HN.out hq]; rfl, _, rfl⟩
      · have hq2 : (ford .f32 X (some 0) != some .eq) = false := by unfold bne; rw [hq]; rfl
        go_wp2
        exact ⟨⟨k + 1, _, by omega, by go_num, Lib.hid (by rw [HA.out, hz.out]; exact hq), rfl⟩, by simp [intOf]; omega⟩
    · go_wp2
      go_ret
      exact ⟨by have e1 := hz.out; rw [clss_all h.len hk hlt] at e1; rw [e1]; rfl, _, rfl⟩
set_option maxHeartbeats 800000 in
theorem impl_areFinite {A : Option Addr} {n c : Nat} {xs : List Nat} (w : World) (h : Rd w A n xs) (hn : n ≤ 1048576) : Calls Try.prog 71 #[.slice A n c] w (RB ((clss xs).all finC) w) := by
  go_enter Try.func71, Try.ntmps71
  go_wp2
  go_loopw [7] (fun i w' => ∃ k m, k ≤ n ∧ i = .int .i64 (k : Nat) ∧ Hid (((clss xs).take k).all finC = true) ∧ w' = w.drewN m) (fun i _ => n - (intOf i).toNat)
  case atStart => exact ⟨0, 0, Nat.zero_le _, rfl, Lib.hid (by simp), rfl⟩
  case round =>
    obtain ⟨k, m, hk, rfl, hz, rfl⟩ := hrel
    by_cases hlt : k < n
    · obtain ⟨ad, x, X, rfl, hc, hx, _, hX⟩ := h.at_ hlt
      have HA := Lib.hid (all_snoc finC hX)
      have HN := Lib.hid (all_not finC hX)
      clear hX h
      cases hq : finC X
      · go_wp2_with (go_at_call 70; refine (impl_IsFinite hx _).mono ?_; rintro e w' ⟨rfl, q, rfl⟩)
        go_ret
        exact ⟨by rw [HN.out hq]; rfl, _, rfl⟩
      · go_wp2_with (go_at_call 70; refine (impl_IsFinite hx _).mono ?_; rintro e w' ⟨rfl, q, rfl⟩)
        exact ⟨⟨k + 1, _, by omega, by go_num, Lib.hid (by rw [HA.out, hz.out]; exact hq), rfl⟩, by simp [intOf]; omega⟩
    · go_wp2
      go_ret
      exact ⟨by have e1 := hz.out; rw [clss_all h.len hk hlt] at e1; rw [e1]; rfl, _, rfl⟩
end Go.Proofs.Ytbaokmapgdnhlaa
