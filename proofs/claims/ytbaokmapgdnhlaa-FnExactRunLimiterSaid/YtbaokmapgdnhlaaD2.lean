/- The steps of passes and delays, and the lines that they leave. Conditions: none beside the contracts' own. -/
import Derived.Test.YtbaokmapgdnhlaaD1
import Derived.Deep.RegionWith
set_option linter.unusedVariables false
set_option linter.unusedSimpArgs false
namespace Go.Proofs.Ytbaokmapgdnhlaa
open Go.RowKit
set_option maxHeartbeats 400000 in
theorem spec_l03Take {A : Option Addr} {n c B : Nat} {xs : List Nat} {x : Nat} (w : World) (h : Of w B (.slice A n c) xs) (hl : xs.length = n) (hn0 : 0 < n) (hn : n ≤ 1048576) (hx : x < 2 ^ FloatKind.f32.format.width) :
    Calls Try.prog 78 #[.slice A n c, .float .f32 x] w fun e w' => e = .returned (.tuple #[]) ∧ Of w' B (.slice A n c) (xs.tail ++ [x]) ∧ w.grownBy w' (Value.slice A n c).ownBlock := by
  obtain ⟨g, rfl, _⟩ := h.form hl hn0
  go_enter Try.func78, Try.ntmps78
  go_wp2
  go_loopw [4] (fun i w' => ∃ k, 1 ≤ k ∧ k ≤ n ∧ i = .int .i64 (k : Nat) ∧ Of w' B (.slice (some ⟨g, 0, none⟩) n c) (takeL xs k) ∧ w.grownBy w' (some g)) (fun i _ => n - (intOf i).toNat)
  case atStart => exact ⟨1, Nat.le_refl _, hn0, rfl, by rw [takeL_one]; exact h, World.grownBy.refl _ _⟩
  case round =>
    obtain ⟨k, hk0, hk, rfl, ho, hg⟩ := hrel
    have htl : (takeL xs k).length = n := by rw [takeL_len hk0 (by omega), hl]
    by_cases hlt : k < n
    · have hxk : xs[k]? = some xs[k] := List.getElem?_eq_getElem (by omega)
      have hcs := ho.cell (i := k) (by rw [takeL_get hk0 (by omega)]; exact hxk)
      have hct := ho.cell (i := k - 1) (List.getElem?_eq_getElem (by omega))
      have hfr := ho.free (k - 1)
      obtain ⟨ho1, hg1⟩ := ho.store htl (k - 1) xs[k] (h.wf _ (List.getElem_mem _))
      rw [takeL_set hk0 hxk] at ho1
      have HO := Lib.hid ho1
      have HG := Lib.hid (hg.trans hg1)
      have hk2 : ((k : Int) - 1).toNat = k - 1 := by omega
      have hk3 : (0 : Int) ≤ (k : Int) - 1 := by omega
      have hk4 : (k : Int) - 1 < (n : Int) := by omega
      generalize xs[k] = y at *
      generalize (takeL xs k)[k - 1] = y2 at *
      clear ho ho1 hg1 h hg hxk htl hl
      go_wp2
      exact ⟨⟨k + 1, by omega, by omega, by go_num, HO.out, HG.out⟩, by simp [intOf]; omega⟩
    · obtain rfl : k = n := by omega
      have hct := ho.cell (i := k - 1) (List.getElem?_eq_getElem (by omega))
      have hfr := ho.free (k - 1)
      obtain ⟨ho1, hg1⟩ := ho.store htl (k - 1) x hx
      have he : (takeL xs k).set (k - 1) x = xs.tail ++ [x] := by rw [← hl]; exact takeL_end (by omega)
      rw [he] at ho1
      have HO := Lib.hid ho1
      have HG := Lib.hid (hg.trans hg1)
      have hk2 : ((k : Int) - 1).toNat = k - 1 := by omega
      have hk3 : (0 : Int) ≤ (k : Int) - 1 := by omega
      generalize (takeL xs k)[k - 1] = y2 at *
      clear ho ho1 hg1 h hg htl hl he
      go_wp2
      go_end0
      exact ⟨rfl, HO.out, HG.out⟩
set_option maxHeartbeats 400000 in
theorem impl_take {A : Option Addr} {n c : Nat} {xs : List Nat} {x : Nat} (w : World) (h : Rd w A n xs) (hc : n ≤ c) (hn0 : 0 < n) (hn : n ≤ 1048576) (hx : x < 2 ^ FloatKind.f32.format.width) :
    Calls Try.prog 81 #[.slice A n c, .float .f32 x] w (RX (xs.tail ++ [x]) w) := by
  obtain ⟨ad, _, _, rfl, _, _, _, _⟩ := h.at_ (k := 0) hn0
  have hl := h.len
  have ht : xs.tail.length = n - 1 := by simp; omega
  by_cases h1 : c = 1
  · obtain rfl : n = 1 := by omega
    subst h1
    have hz : xs.tail = [] := List.eq_nil_of_length_eq_zero (by omega)
    rw [hz]
    have hr : Rd w (some ad) 0 [] := ⟨rfl, Nat.zero_le _, fun x h => by simp at h, fun j x h => by simp at h⟩
    clear hl ht hz h
    go_enter Try.func81, Try.ntmps81
    go_wp2_with fail
    refine (impl_copyNumbers (c := 0) _ hr (by omega)).mono ?_
    rintro e w1 ⟨v1, rfl, ho1, hb1⟩
    go_wp2_with (at_builtin; refine ap_float w.heap.size rfl _ _ 25 22 rfl Try.underlying25 info_f32 v1 [] x rfl rfl ho1 hx hb1 hb1.size (by simp) ?_; intro v2 w2 ho2 hb2 _ _)
    go_ret
    exact ⟨_, rfl, by simpa using ho2, hb2⟩
  · have h2 := h.tail 1 (by omega)
    rw [show ad.add 1 = ⟨ad.block, ad.off + 1, none⟩ by unfold Addr.add; simp, List.drop_one] at h2
    generalize xs.tail = ys at *
    have HT := Lib.hid ht
    clear ht hl h
    go_enter Try.func81, Try.ntmps81
    go_wp2_with fail
    refine (impl_copyNumbers _ h2 (by omega)).mono ?_
    rintro e w1 ⟨v1, rfl, ho1, hb1⟩
    go_wp2_with (at_builtin; refine ap_float w.heap.size rfl _ _ 25 22 rfl Try.underlying25 info_f32 v1 ys x rfl rfl ho1 hx hb1 hb1.size (by have := HT.out; omega) ?_; intro v2 w2 ho2 hb2 _ _)
    go_ret
    exact ⟨_, rfl, ho2, hb2⟩
end Go.Proofs.Ytbaokmapgdnhlaa
