/- The walk of the law on delays that fall silent: the reference. Conditions: none beside the contracts' own. -/
import Derived.Test.YtbaokmapgdnhlaaG1
import Derived.Test.YtbaokmapgdnhlaaD6
import Derived.Test.YtbaokmapgdnhlaaZ2
import Derived.Handy
set_option linter.unusedVariables false
set_option linter.unusedSimpArgs false
namespace Go.Proofs.Ytbaokmapgdnhlaa
open Go.RowKit
def silS (F : Option Nat) (fl : Bool) (L : List (Option Nat)) : List (Option Nat) := L.tail ++ [dlyV F fl (some 0) L]
def silT (F : Option Nat) (fl : Bool) : Nat → Int → List (Option Nat) → Int × Bool
  | 0, _, _ => (0, false)
  | m + 1, n, L => if L.all zeroC = true then (n, true) else silT F fl m (n + 1) (silS F fl L)
def silOk (len : Int) (n : Nat) (F : Option Nat) (L : List (Option Nat)) : Bool := inC len 1 64 && decide ((n : Int) = len) && finC F && L.all finC
def silNC (len : Int) (n : Nat) (F : Option Nat) (fl : Bool) (L : List (Option Nat)) : Int × Bool := if silOk len n F L = true then silT F fl 257 0 L else (0, false)
theorem sil_parts (len : Int) (n : Nat) (F : Option Nat) (fl : Bool) (L : List (Option Nat)) :
    (inC len 1 64 = false ∧ silNC len n F fl L = (0, false)) ∨ (inC len 1 64 = true ∧ ((n : Int) != len) = true ∧ silNC len n F fl L = (0, false)) ∨ (inC len 1 64 = true ∧ len = (n : Int) ∧ finC F = false ∧ silNC len n F fl L = (0, false)) ∨
      (inC len 1 64 = true ∧ len = (n : Int) ∧ 0 < n ∧ n ≤ 64 ∧ finC F = true ∧ (L.all finC = false → silNC len n F fl L = (0, false)) ∧ (L.all finC = true → silNC len n F fl L = silT F fl 257 0 L)) := by
  unfold silNC silOk
  cases h1 : inC len 1 64
  · exact .inl ⟨rfl, by simp⟩
  · refine .inr ?_
    by_cases h2 : (n : Int) = len
    · refine .inr ?_
      cases h3 : finC F
      · exact .inl ⟨rfl, h2.symm, rfl, by simp⟩
      · have := (inC_iff _ _ _).1 h1
        exact .inr ⟨rfl, h2.symm, by omega, by omega, rfl, fun h => by simp [h], fun h => by simp [h, h2]⟩
    · exact .inl ⟨rfl, by simpa using h2, by simp [h2]⟩
theorem silT_hit {F : Option Nat} {fl : Bool} {m : Nat} {n : Int} {L : List (Option Nat)} (h : L.all zeroC = true) : silT F fl (m + 1) n L = (n, true) := by rw [silT, if_pos h]
theorem silT_go {F : Option Nat} {fl : Bool} {m : Nat} {n : Int} {L : List (Option Nat)} (h : L.all zeroC = false) : silT F fl (m + 1) n L = silT F fl m (n + 1) (silS F fl L) := by rw [silT, if_neg (by rw [h]; decide)]
/-- A whole number and a bool. -/
def RIB (p : Int × Bool) (w : World) (e : Ending) (w' : World) : Prop := e = .returned (.tuple #[.int .i64 p.1, .bool p.2]) ∧ Below w.heap.size w w'
set_option maxHeartbeats 1600000 in
theorem spec_SilentFrom {len : Int} {f d wt : Nat} {fl : Bool} {F D W : Option Nat} {A : Option Addr} {n c : Nat} {xs : List Nat} (w : World) (hf : Fl .f32 f F) (hd : Fl .f32 d D) (hw : Fl .f32 wt W) (h : Rd w A n xs) (hn : n ≤ 1048576) :
    Calls Try.prog 23 #[.agg #[.int .i64 len, .float .f32 f, .float .f32 d, .float .f32 wt, .bool fl], .slice A n c] w (RIB (silNC len n F fl (clss xs)) w) := by
  have hal := fun o q => below_drewN ((Below.refl _ w).alloc (Nat.le_refl _) o) q
  rcases sil_parts len n F fl (clss xs) with ⟨h1, hs⟩ | ⟨h1, h2, hs⟩ | ⟨h1, rfl, h3, hs⟩ | ⟨h1, rfl, hn0, hn64, h3, hsF, hsT⟩
  iterate 3
    · have HS := Lib.hid hs
      clear hs
      go_enter Try.func23, Try.ntmps23
      go_wp2_with (first | (go_at_call 55; refine (spec_l03Length _ _).mono ?_; rintro e w' ⟨rfl, rfl⟩) | (go_at_call 68; refine (spec_l01Finite hf _).mono ?_; rintro e w' ⟨rfl, q, rfl⟩))
      go_ret2
      rw [HS.out]
      exact ⟨rfl, by first | exact hal _ _ | exact hal _ 0⟩
  have HSF := Lib.hid hsF
  have HST := Lib.hid hsT
  clear hsF hsT
  go_enter Try.func23, Try.ntmps23
  go_wp2_with fail
  obtain ⟨Wb, hWb⟩ : ∃ W, W = w.alloc (.cells #[.int .i64 (n : Int), .float .f32 f, .float .f32 d, .float .f32 wt, .bool fl] 37) := ⟨_, rfl⟩
  rw [← hWb]
  have hB0 : Below w.heap.size w Wb := by rw [hWb]; exact hal _ 0
  have hzb : Wb.heap.size = w.heap.size + 1 := by rw [hWb]; simp
  have hcb0 : Wb.cell? ⟨w.heap.size, 0, none⟩ = some (.int .i64 (n : Int)) := by rw [hWb]; simp [go_sem]
  have hcb1 : Wb.cell? ⟨w.heap.size, 1, none⟩ = some (.float .f32 f) := by rw [hWb]; simp [go_sem]
  have hcb2 : Wb.cell? ⟨w.heap.size, 2, none⟩ = some (.float .f32 d) := by rw [hWb]; simp [go_sem]
  have hcb3 : Wb.cell? ⟨w.heap.size, 3, none⟩ = some (.float .f32 wt) := by rw [hWb]; simp [go_sem]
  have hcb4 : Wb.cell? ⟨w.heap.size, 4, none⟩ = some (.bool fl) := by rw [hWb]; simp [go_sem]
  have hlb : w.heap.size < Wb.heap.size := by omega
  have hr0 := h.below hB0
  have HX := Lib.hid h.len
  clear hWb hal h hzb
  go_wp2_with (first | (go_at_call 55; refine (spec_l03Length _ _).mono ?_; rintro e w' ⟨rfl, rfl⟩) | (go_at_call 68; refine (spec_l01Finite hf _).mono ?_; rintro e w' ⟨rfl, q, rfl⟩))
  clear h1 h3
  go_loopw [28] (fun i w' => ∃ k m, k ≤ n ∧ i = .int .i64 (k : Nat) ∧ Hid (((clss xs).take k).all finC = true) ∧ w' = Wb.drewN m) (fun i _ => n - (intOf i).toNat)
  case atStart => exact ⟨0, _, Nat.zero_le _, rfl, Lib.hid (by simp), rfl⟩
  case round =>
  obtain ⟨k, m, hk, rfl, hz, rfl⟩ := hrel
  by_cases hlt : k < n
  · obtain ⟨ad, x, X, rfl, hc, hx, _, hX⟩ := hr0.at_ hlt
    have HA := Lib.hid (all_snoc finC hX)
    have HN := Lib.hid (all_not finC hX)
    clear hX hr0
    cases hq : finC X
    · go_wp2_with (go_at_call 68; refine (spec_l01Finite hx _).mono ?_; rintro e w' ⟨rfl, q, rfl⟩)
      go_ret2
      rw [HSF.out (HN.out hq)]
      exact ⟨rfl, below_drewN hB0 _⟩
    · go_wp2_with (go_at_call 68; refine (spec_l01Finite hx _).mono ?_; rintro e w' ⟨rfl, q, rfl⟩)
      exact ⟨⟨k + 1, _, by omega, by go_num, Lib.hid (by rw [HA.out, hz.out]; exact hq), rfl⟩, by simp [intOf]; omega⟩
  · have hs := HST.out (by have e1 := hz.out; rwa [clss_all HX.out hk hlt] at e1)
    have HS := Lib.hid hs
    clear hs HSF HST
    have hr1 := hr0.drewN m
    have HB1 := below_drewN hB0 m
    have hc1 : (Wb.drewN m).cell? ⟨w.heap.size, 1, none⟩ = some (.float .f32 f) := hcb1
    have hc2 : (Wb.drewN m).cell? ⟨w.heap.size, 2, none⟩ = some (.float .f32 d) := hcb2
    have hc3 : (Wb.drewN m).cell? ⟨w.heap.size, 3, none⟩ = some (.float .f32 wt) := hcb3
    have hc4 : (Wb.drewN m).cell? ⟨w.heap.size, 4, none⟩ = some (.bool fl) := hcb4
    have hlb1 : w.heap.size < (Wb.drewN m).heap.size := hlb
    clear hr0 hB0 hcb0 hcb1 hcb2 hcb3 hcb4 hlb hz
    generalize Wb.drewN m = Wc at *
    go_wp2_with fail
    refine (spec_l03Own _ hr1 hn).mono ?_
    rintro e W1 ⟨v0, rfl, ho0, hb1⟩
    obtain ⟨A0, c0, rfl⟩ := ho0.shape_n HX.out
    have hs1 := hb1.size
    clear hr1
    go_wp2_with fail
    go_loopw [8] (fun i w' => ∃ k ls, k ≤ 257 ∧ i = .int .i64 (k : Nat) ∧ Of w' Wc.heap.size (.slice A0 n c0) ls ∧ Hid (silT F fl (257 - k) (k : Int) (clss ls) = silT F fl 257 0 (clss xs) ∧ ls.length = n) ∧ Below Wc.heap.size Wc w') (fun i _ => 257 - (intOf i).toNat)
    case atStart => exact ⟨0, xs, Nat.zero_le _, rfl, ho0, Lib.hid ⟨rfl, HX.out⟩, hb1⟩
    case round =>
      obtain ⟨k, ls, hk, rfl, ho, hz, hb⟩ := hrel
      have hsz := hb.size
      have hce1 := (cell_below (o := 1) hb hlb1).trans hc1
      have hce2 := (cell_below (o := 2) hb hlb1).trans hc2
      have hce3 := (cell_below (o := 3) hb hlb1).trans hc3
      have hce4 := (cell_below (o := 4) hb hlb1).trans hc4
      clear ho0 hb1
      by_cases hlt : k < 257
      · have hkI : (k : Int) ≤ 256 := by omega
        go_wp2_with fail
        refine (spec_l03Zeros _ (ho.rd hz.out.2) hn).mono ?_
        rintro e w1 ⟨rfl, q, rfl⟩
        cases hq : (clss ls).all zeroC
        · go_wp2_with fail
          refine (spec_l03Delay _ (ho.drewN q) hz.out.2 hn0 hn hf hd hw zero_fl hce1 hce2 hce3 hce4 hlb1).mono ?_
          rintro e w2 ⟨r, ls1, rfl, hr, hoL1, hcl, hgr⟩
          have hb1 := (below_drewN hb q).grown hgr hsz ho.base
          have hll : ls1.length = n := by have := congrArg List.length hcl; rw [clss_length] at this; rw [this]; simp [clss_length, hz.out.2]; omega
          have HLL := Lib.hid hll
          have HC := Lib.hid hcl
          clear hgr ho hb hce1 hce2 hce3 hce4 hsz hll hcl
          go_wp2_with fail
          refine ⟨⟨k + 1, ls1, by omega, by go_num, hoL1, Lib.hid ⟨?_, HLL.out⟩, hb1⟩, by simp [intOf]; omega⟩
          rw [← hz.out.1, show 257 - k = (257 - (k + 1)) + 1 by omega, silT_go hq, HC.out]
          rfl
        · go_wp2_with fail
          go_ret2
          rw [HS.out, ← hz.out.1, show 257 - k = (257 - (k + 1)) + 1 by omega, silT_hit hq]
          exact ⟨rfl, below_next HB1 (Nat.le_of_lt hlb1) (below_drewN hb q)⟩
      · obtain rfl : k = 257 := by omega
        go_wp2_with fail
        go_ret2
        rw [HS.out, ← hz.out.1]
        exact ⟨rfl, below_next HB1 (Nat.le_of_lt hlb1) hb⟩
end Go.Proofs.Ytbaokmapgdnhlaa
