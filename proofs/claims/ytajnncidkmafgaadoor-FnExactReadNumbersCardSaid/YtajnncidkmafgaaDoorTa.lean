/- Reading hexadecimal texts of numbers: the walks of one. Conditions: none beside the contracts' own. -/
import Derived.Test.YtajnncidkmafgaaDoorT0
import Derived.Test.YtajnncidkmafgaaDoorSa
set_option linter.unusedVariables false
set_option linter.unusedSimpArgs false
namespace Go.Proofs.YtajnncidkmafgaaDoor
open Go.RowKit
theorem idx_some {b : UInt8} {d : Nat} (h : hexV b = some d) (W : World) : Calls Tryd.prog 49 #[.string ⟨#[48, 49, 50, 51, 52, 53, 54, 55, 56, 57, 97, 98, 99, 100, 101, 102]⟩, .int .u8 (b.toNat : Int)] W fun e w' => e = .returned (.int .i64 (d : Int)) ∧ W = w' := by
  refine (Tryd.strings_IndexByte _ _ W).mono fun e w' ⟨h1, h2⟩ => ⟨?_, h2.symm⟩
  have e1 : ((b.toNat : Int)).toNat.toUInt8 = b := by simp
  rw [h1, e1]
  have := index_hex b
  rw [h] at this
  exact congrArg (fun z => Ending.returned (Value.int .i64 z)) this
theorem idx_none {b : UInt8} (h : hexV b = none) (W : World) : Calls Tryd.prog 49 #[.string ⟨#[48, 49, 50, 51, 52, 53, 54, 55, 56, 57, 97, 98, 99, 100, 101, 102]⟩, .int .u8 (b.toNat : Int)] W fun e w' => e = .returned (.int .i64 (-1)) ∧ W = w' := by
  refine (Tryd.strings_IndexByte _ _ W).mono fun e w' ⟨h1, h2⟩ => ⟨?_, h2.symm⟩
  have e1 : ((b.toNat : Int)).toNat.toUInt8 = b := by simp
  rw [h1, e1]
  have := index_hex b
  rw [h] at this
  exact congrArg (fun z => Ending.returned (Value.int .i64 z)) this
set_option maxHeartbeats 400000 in
theorem impl_FromBits {n : Nat} (hn : n < 4294967296) (w : World) : Calls Tryd.prog 50 #[.int .i64 (n : Int)] w fun e w' => e = .returned (.tuple #[.float .f32 n, .bool true]) ∧ w = w' := by
  have hin : inC (n : Int) 0 4294967295 = true := by simp [inC]; omega
  go_enter Tryd.func50, Tryd.ntmps50
  go_wp2_with (go_at_call 33; refine (impl_within _ _ _ _).mono ?_; rintro e w' ⟨rfl, rfl⟩)
  go_ret2
  exact ⟨rfl, rfl⟩
set_option maxHeartbeats 800000 in
theorem impl_fromHex {l : List UInt8} (w : World) (hl : l.length ≤ 1048576) :
    Calls Tryd.prog 37 #[tx l] w fun e w' => ∃ r, e = .returned (.tuple #[.float .f32 r, .bool (readH l)]) ∧ (readH l = true → Fl .f32 r (valH l)) ∧ Below w.heap.size w w' := by
  by_cases h8 : l.length = 8
  · go_enter Tryd.func37, Tryd.ntmps37
    go_wp2
    go_loopw [4, 5] (fun v i w' => ∃ (k n : Nat), k ≤ 8 ∧ hexNum (l.take k) = some n ∧ v = .int .i64 (n : Int) ∧ i = .int .i64 (k : Nat) ∧ w' = w) (fun _ i _ => 8 - (intOf i).toNat)
    case atStart => exact ⟨0, 0, by omega, rfl, rfl, rfl, rfl⟩
    case round =>
      obtain ⟨k, n, hk, hnum, rfl, rfl, rfl⟩ := hrel
      by_cases hlt : k < 8
      · have hkl : k < l.length := by omega
        have hx : l[k]? = some l[k] := List.getElem?_eq_getElem hkl
        have hix := run_ix hx
        have hsn : hexNum (l.take (k + 1)) = hstep (some n) l[k] := by rw [List.take_succ_eq_append_getElem hkl, hexNum_snoc, hnum]
        have hb := hexNum_lt hnum
        have hpow : 16 ^ (l.take k).length ≤ 16 ^ 7 := Nat.pow_le_pow_right (by decide) (by rw [List.length_take]; omega)
        have e7 : (16 : Nat) ^ 7 = 268435456 := by decide
        have hb2 : n < 268435456 := by omega
        have hc := l[k].toNat_lt
        generalize l[k] = c at *
        have HX := Lib.hid hx
        clear hx hb hpow e7 hnum
        cases hv : hexV c with
        | none =>
          have hno : readH l = false := readH_none (hexNum_none (k := k + 1) (by rw [hsn, hstep_bad _ hv]))
          have HNO := Lib.hid hno
          have C := idx_none hv
          clear hno hsn
          go_wp2_with (go_at_call 49; refine (C _).mono ?_; rintro e w' ⟨rfl, rfl⟩)
          go_ret2
          exact ⟨0, by rw [HNO.out]; rfl, fun h => (by rw [HNO.out] at h; cases h), Below.refl _ _⟩
        | some d =>
          have hd := hexV_lt hv
          rw [hstep_some n hv] at hsn
          have HS := Lib.hid hsn
          have C := idx_some hv
          clear hsn
          go_wp2_with (go_at_call 49; refine (C _).mono ?_; rintro e w' ⟨rfl, rfl⟩)
          have hor : bits .or .i64 ((n : Int) * 16) (d : Int) = ((16 * n + d : Nat) : Int) := by
            rw [bits_join .i64 63 (by decide) wraps_i64 4 _ _ (by omega) (by omega) (by omega) (by omega) (by omega) (by omega)]
            omega
          exact ⟨⟨k + 1, 16 * n + d, by omega, HS.out, by rw [hor], by go_num, trivial⟩, by simp [intOf]; omega⟩
      · obtain rfl : k = 8 := by omega
        rw [List.take_of_length_le (by omega)] at hnum
        have hnb := hex_bound h8 hnum
        have hx : Fl .f32 n (cls .f32 n) := Fl.self (by show _ < 4294967296; omega)
        obtain ⟨hb0, hb1⟩ := bitsC_le hx
        have hrh := readH_some h8 hnum
        have hvh := valH_some hnum
        have hbk := hex_back h8 hnum hb0 hb1
        have HV := Lib.hid hvh
        clear hnum hvh
        by_cases hq : bitsC (cls .f32 n) = (n : Int)
        · have hyes : readH l = true := by rw [hrh, decide_eq_true hq]
          have hqb : (hexT (bitsC (cls .f32 n)) 8 == l) = true := by rw [beq_iff_eq]; exact hbk.2 hq
          have HY := Lib.hid hyes
          clear hrh hbk hq hyes
          go_wp2_with (first | (go_at_call 50; refine (impl_FromBits hnb _).mono ?_; rintro e w' ⟨rfl, rfl⟩) | (go_at_call 51; refine (impl_hexOf hx _).mono ?_; rintro e w1 ⟨rfl, hb1⟩))
          go_ret2
          exact ⟨n, by rw [HY.out]; rfl, fun _ => by rw [HV.out]; exact hx, by assumption⟩
        · have hno : readH l = false := by rw [hrh, decide_eq_false hq]
          have hqb : (hexT (bitsC (cls .f32 n)) 8 == l) = false := by rw [beq_eq_false_iff_ne]; exact fun e => hq (hbk.1 e)
          have HY := Lib.hid hno
          clear hrh hbk hq hno
          go_wp2_with (first | (go_at_call 50; refine (impl_FromBits hnb _).mono ?_; rintro e w' ⟨rfl, rfl⟩) | (go_at_call 51; refine (impl_hexOf hx _).mono ?_; rintro e w1 ⟨rfl, hb1⟩))
          go_ret2
          exact ⟨n, by rw [HY.out]; rfl, fun h => (by rw [HY.out] at h; cases h), by assumption⟩
  · have hno : readH l = false := readH_len h8
    have HNO := Lib.hid hno
    clear hno
    go_enter Tryd.func37, Tryd.ntmps37
    go_wp2
    go_ret2
    exact ⟨0, by rw [HNO.out]; rfl, fun h => (by rw [HNO.out] at h; cases h), Below.refl _ _⟩
end Go.Proofs.YtajnncidkmafgaaDoor
