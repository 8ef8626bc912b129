/- Reading decimal texts: the walks. Conditions: none beside the contracts' own. -/
import Derived.Test.YtajnncidkmafgaaDoorR0
import Derived.Test.YtajnncidkmafgaaDoorI2
set_option linter.unusedVariables false
set_option linter.unusedSimpArgs false
namespace Go.Proofs.YtajnncidkmafgaaDoor
open Go.RowKit
theorem run_ix {l : List UInt8} {k : Nat} {b : UInt8} (h : l[k]? = some b) (W : World) : (Instr.index 9 (tx l) (.int .i64 (k : Int))).run Tryd.prog W = .ok (.int .u8 (b.toNat : Int)) W := by
  obtain ⟨hk, rfl⟩ := List.getElem?_eq_some_iff.1 h
  have hs : (ByteArray.mk l.toArray).size = l.length := by show l.toArray.size = _; simp
  rw [run_index_string W 9 _ .i64 _ Tryd.underlying9, dif_pos ⟨by omega, by rw [hs]; omega⟩]
  congr 2
theorem tx_beq (a b : List UInt8) : ((ByteArray.mk a.toArray).toList == (ByteArray.mk b.toArray).toList) = decide (a = b) := by
  rw [ByteArray.toList_mk, ByteArray.toList_mk]
  by_cases h : a = b
  · subst h; simp
  · simp [h]
set_option maxHeartbeats 400000 in
theorem spec_l01Value {l : List UInt8} (w : World) (hl : l.length ≤ 9223372036854775807) :
    Calls Tryd.prog 31 #[tx l] w fun e w' => e = .returned (.tuple #[.int .i64 (readV l), .bool (readC l)]) ∧ Below w.heap.size w w' := by
  by_cases h17 : 1 ≤ l.length ∧ l.length ≤ 17
  · have hlt := valN_lt l
    have hpow : (10 : Nat) ^ l.length ≤ 10 ^ 17 := Nat.pow_le_pow_right (by decide) h17.2
    have e17 : (10 : Nat) ^ 17 = 100000000000000000 := by decide
    have HV := Lib.hid (show valN l < 100000000000000000 by omega)
    clear hlt hpow e17
    go_enter Tryd.func31, Tryd.ntmps31
    go_wp2
    go_loopw [4, 5] (fun v i w' => ∃ k : Nat, k ≤ l.length ∧ v = .int .i64 ((valN (l.take k) : Nat) : Int) ∧ i = .int .i64 (k : Nat) ∧ w' = w) (fun _ i _ => l.length - (intOf i).toNat)
    case atStart => exact ⟨0, by omega, by simp [valN], rfl, rfl⟩
    case round =>
      obtain ⟨k, hk, rfl, rfl, rfl⟩ := hrel
      by_cases hlt : k < l.length
      · have hx : l[k]? = some l[k] := List.getElem?_eq_getElem hlt
        have hix := run_ix hx
        have hsn : valN (l.take (k + 1)) = vstep (valN (l.take k)) l[k] := by rw [List.take_succ_eq_append_getElem hlt, valN_snoc]
        have hb := valN_lt (l.take k)
        have hpow : (10 : Nat) ^ (l.take k).length ≤ 10 ^ 16 := Nat.pow_le_pow_right (by decide) (by rw [List.length_take]; omega)
        have e16 : (10 : Nat) ^ 16 = 10000000000000000 := by decide
        have hb2 : valN (l.take k) < 10000000000000000 := by omega
        have hc := l[k].toNat_lt
        generalize l[k] = c at *
        generalize valN (l.take k) = a at *
        by_cases hd : 48 ≤ c.toNat ∧ c.toNat ≤ 57
        · rw [vstep, if_pos hd] at hsn
          have HS := Lib.hid hsn
          clear hsn hb hpow e16
          go_wp2
          exact ⟨⟨k + 1, by omega, by rw [HS.out]; congr 1; omega, by go_num, trivial⟩, by simp [intOf]; omega⟩
        · rw [vstep, if_neg hd] at hsn
          have HS := Lib.hid hsn
          clear hsn hb hpow e16
          go_wp2
          all_goals exact ⟨⟨k + 1, by omega, by rw [HS.out], by go_num, trivial⟩, by simp [intOf]; omega⟩
      · obtain rfl : k = l.length := by omega
        rw [List.take_length]
        obtain ⟨c0, hc0⟩ : ∃ c0, l[0]? = some c0 := ⟨_, List.getElem?_eq_getElem (by omega)⟩
        have hix0 : ∀ W, (Instr.index 9 (tx l) (.int .i64 0)).run Tryd.prog W = .ok (.int .u8 (c0.toNat : Int)) W := run_ix hc0
        have hh : l.head? = some c0 := by rw [List.head?_eq_getElem?]; exact hc0
        have hv := HV.out
        have hc := c0.toNat_lt
        obtain ⟨m, hm⟩ : ∃ m, m = numOf l := ⟨_, rfl⟩
        have hgt : (m : Int) ≤ 100000000000000000 ∧ -100000000000000000 ≤ m := by
          rw [hm, numOf]; split <;> omega
        have fin : (e : Ending) → (b : Bool) → readC l = b → e = .returned (.tuple #[.int .i64 (if b = true then m else 0), .bool b]) → e = .returned (.tuple #[.int .i64 (readV l), .bool (readC l)]) := fun e b hb he => by
          rw [he, readV, hb, hm]
        have hrc : readC l = (inC m (-1000000000000000) 1000000000000000 && decide (Lib.itoa m = l)) := by
          rw [readC, decide_eq_true h17, Bool.true_and, ← hm]; rfl
        have FIN := Lib.hid fin
        have HR := Lib.hid hrc
        clear fin hrc
        by_cases h45 : c0 = 45
        · have hm' : -((valN l : Nat) : Int) = m := by rw [hm, numOf, if_pos (by rw [hh, h45])]
          subst h45
          have HM := Lib.hid hm
          clear hm hc0 hh
          cases hin : inC m (-1000000000000000) 1000000000000000
          · go_wp2_with (go_at_call 40; refine (spec_l00In _ _ _ _).mono ?_; rintro e w' ⟨rfl, rfl⟩)
            go_ret2
            exact ⟨FIN.out _ false (by rw [HR.out, hin]; rfl) rfl, Below.refl _ _⟩
          · by_cases hq : Lib.itoa m = l
            · have hqb : (Lib.itoa m == l) = true := by rw [beq_iff_eq]; exact hq
              have HQ := Lib.hid hq
              clear hq
              go_wp2_with (first | (go_at_call 40; refine (spec_l00In _ _ _ _).mono ?_; rintro e w' ⟨rfl, rfl⟩) | (go_at_call 25; refine (spec_l01Dec (by omega) (by omega) _).mono ?_; rintro e w' ⟨rfl, hb1⟩))
              go_ret2
              exact ⟨FIN.out _ true (by rw [HR.out, hin, decide_eq_true HQ.out]; rfl) rfl, hb1⟩
            · have hqb : (Lib.itoa m == l) = false := by rw [beq_eq_false_iff_ne]; exact hq
              have HQ := Lib.hid hq
              clear hq
              go_wp2_with (first | (go_at_call 40; refine (spec_l00In _ _ _ _).mono ?_; rintro e w' ⟨rfl, rfl⟩) | (go_at_call 25; refine (spec_l01Dec (by omega) (by omega) _).mono ?_; rintro e w' ⟨rfl, hb1⟩))
              go_ret2
              exact ⟨FIN.out _ false (by rw [HR.out, hin, decide_eq_false HQ.out]; rfl) rfl, hb1⟩
        · have hm' : ((valN l : Nat) : Int) = m := by rw [hm, numOf, if_neg (by rw [hh]; intro e; exact h45 (Option.some.inj e))]
          have hne : ((c0.toNat : Int) == 45) = false := beq_eq_false_iff_ne.2 (fun e => h45 (by apply UInt8.toNat_inj.1; show c0.toNat = 45; omega))
          have HM := Lib.hid hm
          clear hm hc0 hh h45
          cases hin : inC m (-1000000000000000) 1000000000000000
          · go_wp2_with (go_at_call 40; refine (spec_l00In _ _ _ _).mono ?_; rintro e w' ⟨rfl, rfl⟩)
            go_ret2
            exact ⟨FIN.out _ false (by rw [HR.out, hin]; rfl) rfl, Below.refl _ _⟩
          · by_cases hq : Lib.itoa m = l
            · have hqb : (Lib.itoa m == l) = true := by rw [beq_iff_eq]; exact hq
              have HQ := Lib.hid hq
              clear hq
              go_wp2_with (first | (go_at_call 40; refine (spec_l00In _ _ _ _).mono ?_; rintro e w' ⟨rfl, rfl⟩) | (go_at_call 25; refine (spec_l01Dec (by omega) (by omega) _).mono ?_; rintro e w' ⟨rfl, hb1⟩))
              go_ret2
              exact ⟨FIN.out _ true (by rw [HR.out, hin, decide_eq_true HQ.out]; rfl) rfl, hb1⟩
            · have hqb : (Lib.itoa m == l) = false := by rw [beq_eq_false_iff_ne]; exact hq
              have HQ := Lib.hid hq
              clear hq
              go_wp2_with (first | (go_at_call 40; refine (spec_l00In _ _ _ _).mono ?_; rintro e w' ⟨rfl, rfl⟩) | (go_at_call 25; refine (spec_l01Dec (by omega) (by omega) _).mono ?_; rintro e w' ⟨rfl, hb1⟩))
              go_ret2
              exact ⟨FIN.out _ false (by rw [HR.out, hin, decide_eq_false HQ.out]; rfl) rfl, hb1⟩
  · have hrc : readC l = false := by rw [readC, decide_eq_false h17]; rfl
    have hrv : readV l = 0 := by rw [readV, hrc]; rfl
    rw [hrc, hrv]
    by_cases h1 : l.length < 1
    · go_enter Tryd.func31, Tryd.ntmps31
      go_wp2
      go_ret2
      exact ⟨rfl, Below.refl _ _⟩
    · have h2 : 17 < l.length := by omega
      go_enter Tryd.func31, Tryd.ntmps31
      go_wp2
      go_ret2
      exact ⟨rfl, Below.refl _ _⟩
end Go.Proofs.YtajnncidkmafgaaDoor
