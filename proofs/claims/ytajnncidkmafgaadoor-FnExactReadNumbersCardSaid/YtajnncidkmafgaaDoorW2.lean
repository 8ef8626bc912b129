/- Texts, second part: texts of lists of numbers, and the law on them. Conditions: none beside the contracts' own. -/
import Derived.Test.YtajnncidkmafgaaDoorW1
import Derived.Test.YtajnncidkmafgaaDoorShelf
set_option linter.unusedVariables false
set_option linter.unusedSimpArgs false
namespace Go.Proofs.YtajnncidkmafgaaDoor
open Go.RowKit
def joinT (ls : List (List UInt8)) : List UInt8 := if ls = [] then [110, 111, 110, 101] else Lib.join ls [44]
theorem joinTail_append (sep : List UInt8) (a b : List (List UInt8)) : Lib.joinTail sep (a ++ b) = Lib.joinTail sep a ++ Lib.joinTail sep b := by simp [Lib.joinTail]
theorem join_snoc (ls : List (List UInt8)) (l sep : List UInt8) (h : ls ≠ []) : Lib.join (ls ++ [l]) sep = Lib.join ls sep ++ (sep ++ l) := by
  cases ls with
  | nil => exact absurd rfl h
  | cons x r => rw [List.cons_append, Lib.join_cons, Lib.join_cons, joinTail_append]; simp [Lib.joinTail]
theorem lens_le (m : Nat) : ∀ ls : List (List UInt8), (∀ l ∈ ls, l.length ≤ m) → Lib.lens ls ≤ m * ls.length
  | [], _ => by simp [Lib.lens]
  | x :: r, h => by
    have := lens_le m r (fun l hl => h l (List.mem_cons_of_mem _ hl))
    have hx := h x List.mem_cons_self
    simp only [Lib.lens, List.map_cons, List.sum_cons, List.length_cons] at this ⊢
    rw [Nat.mul_succ]; omega
theorem join_length_le (m : Nat) (ls : List (List UInt8)) (h : ∀ l ∈ ls, l.length ≤ m) : (Lib.join ls [44]).length ≤ (m + 1) * ls.length := by
  cases ls with
  | nil => simp [Lib.join, List.intercalate]
  | cons x r =>
    have := lens_le m r (fun l hl => h l (List.mem_cons_of_mem _ hl))
    have hx := h x List.mem_cons_self
    rw [Lib.join_cons, List.length_append, Lib.joinTail_length]
    simp only [List.length_cons, List.length_nil]
    have e : (m + 1) * r.length = m * r.length + r.length := Nat.succ_mul _ _
    rw [Nat.mul_succ]; omega
theorem tx_data (l : List UInt8) : (ByteArray.mk l.toArray).data.toList = l := by simp
set_option maxHeartbeats 400000 in
theorem impl_joined {w : World} {B m : Nat} {v : Value} {ls : List (List UInt8)} (ho : OwT w B v ls) (hn : ls.length ≤ 4194304) (hm : ∀ l ∈ ls, l.length ≤ m) (hm' : m ≤ 1000) :
    Calls Tryd.prog 42 #[v] w fun e w' => e = .returned (tx (joinT ls)) ∧ Below w.heap.size w w' := by
  obtain ⟨A, c, rfl, hc⟩ := row_shape ho
  rw [txs_length]
  by_cases hl : ls = []
  · subst hl
    go_enter Tryd.func42, Tryd.ntmps42
    go_wp2
    go_ret
    exact ⟨rfl, Below.refl _ _⟩
  · obtain ⟨g, rfl, hB, hg, hlc, hcell⟩ := hc (by simpa [txs] using hl)
    have hpos : 0 < ls.length := List.length_pos_iff.2 hl
    rw [txs_length] at hlc
    have hjl := join_length_le m ls hm
    have hmul : (m + 1) * ls.length ≤ 1001 * 4194304 := Nat.mul_le_mul (by omega) hn
    have hmap : (ls.map fun l => ByteArray.mk l.toArray).map (·.data.toList) = ls := by
      rw [List.map_map]
      exact (List.map_congr_left (fun l _ => tx_data l)).trans (List.map_id ls)
    have C := Tryd.strings_Join g 0 c (ls.map fun l => ByteArray.mk l.toArray) ⟨#[44]⟩ w (fun j x hx => by
      rw [List.getElem?_map] at hx
      obtain ⟨l, hl1, rfl⟩ := Option.map_eq_some_iff.1 hx
      rw [Nat.zero_add]
      exact hcell j _ (by simp [txs, hl1])) hg (by simp; omega) (by simpa using hlc) (by rw [hmap]; show (Lib.join ls [44]).length ≤ _; omega)
    rw [hmap, List.length_map] at C
    have HC := Lib.hid C
    clear C
    go_enter Tryd.func42, Tryd.ntmps42
    go_wp2_with (go_at_call 56; refine HC.out.mono ?_; rintro e w' ⟨rfl, hb⟩)
    go_ret
    exact ⟨by rw [joinT, if_neg hl]; rfl, hb⟩
/-- The texts of numbers, given by their classes. -/
def hexes (X : List (Option Nat)) : List (List UInt8) := X.map fun x => hexT (bitsC x) 8
theorem hexes_length (X : List (Option Nat)) : (hexes X).length = X.length := by simp [hexes]
theorem hexes_most (X : List (Option Nat)) : ∀ l ∈ hexes X, l.length ≤ 8 := by
  intro l hl
  obtain ⟨x, _, rfl⟩ := List.mem_map.1 hl
  rw [hexT_length]; omega
theorem hexes_snoc (X : List (Option Nat)) (x : Option Nat) : hexes (X ++ [x]) = hexes X ++ [hexT (bitsC x) 8] := by simp [hexes]
theorem run_add_tx (l m : List UInt8) (h : l.length + m.length ≤ 9223372036854775807) (W : World) : (Op.stringOp .add ⟨l.toArray⟩ ⟨m.toArray⟩).run Tryd.prog W = .ok (tx (l ++ m)) W := by
  rw [run_string_add_sum W _ _ (by
    have h0 : (ByteArray.mk l.toArray).size = l.length := by show l.toArray.size = _; simp
    have h1 : (ByteArray.mk m.toArray).size = m.length := by show m.toArray.size = _; simp
    rw [h0, h1]; exact h)]
  exact congrArg (fun z => Result.ok (Value.string z) W) (ByteArray.mk_append_mk l m)
theorem add_zero' (ad : Addr) : ad.add 0 = ad := by cases ad; unfold Addr.add; split <;> simp_all
def numsT (n : Nat) (X : List (Option Nat)) : List UInt8 := if few n = true then joinT (hexes X) else []
end Go.Proofs.YtajnncidkmafgaaDoor
