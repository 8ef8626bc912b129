/- The walk of the law on recordings: the samples between. Conditions: none beside the contracts' own. -/
import Derived.Test.YtbaokmapgdnhlaaL3
import Derived.Handy
import Derived.Deep.RegionWith
set_option linter.unusedVariables false
set_option linter.unusedSimpArgs false
namespace Go.Proofs.Ytbaokmapgdnhlaa
open Go.RowKit
theorem intF_fl' (n : Int) : Fl .f32 (floatOfInt .f32 n) (some (floatOfInt .f32 n)) := by
  refine .of_lit ?_ ?_
  · exact wf_lt (floatOfInt_wf .f32 n)
  · show (FloatKind.f32.format.read (FloatKind.f32.format.write (.number (n < 0) n.natAbs 0))).isNaN = false
    exact write_not_nan _ rfl
def atR (L : List (Option Nat)) (i : Int) : Option Nat := if (L.length : Int) ≤ i then some 0 else (L[i.toNat]?).getD none
def btwC (A B : Option Nat) (p : Int) : Option Nat :=
  if p % 65536 = 0 then A else fadd A (fmul (fsub B A) (fquo (some (floatOfInt .f32 (p % 65536))) (some 1199570944)))
theorem k65536 : Fl .f32 1199570944 (some 1199570944) := .of_lit (by decide) (by decide)
set_option maxHeartbeats 800000 in
theorem spec_l05Sample {A : Option Addr} {n c : Nat} {xs : List Nat} {i : Int} (w : World) (h : Rd w A n xs) (hn : n ≤ 1048576) (h0 : 0 ≤ i) (h1 : i ≤ 1000000) : Calls Try.prog 95 #[.slice A n c, .int .i64 i] w (RF .f32 (atR (clss xs) i) w) := by
  unfold atR
  rw [clss_length, h.len]
  by_cases hc : (n : Int) ≤ i
  · rw [if_pos hc]
    go_enter Try.func95, Try.ntmps95
    go_wp2
    go_ret
    exact ⟨_, 0, rfl, zero_fl, rfl⟩
  · rw [if_neg hc]
    obtain ⟨ad, x, X, rfl, hcell, hx, hxk, hX⟩ := h.at_ (k := i.toNat) (by omega)
    rw [hX]
    have hi2 : i < (n : Int) := by omega
    clear h hxk hX
    go_enter Try.func95, Try.ntmps95
    go_wp2
    go_ret
    exact ⟨_, 0, rfl, hx, rfl⟩
set_option maxHeartbeats 800000 in
theorem spec_l05Between {a b : Nat} {A B : Option Nat} {p : Int} (w : World) (ha : Fl .f32 a A) (hb : Fl .f32 b B) (h0 : 0 ≤ p) (h1 : p ≤ 1000000000000) : Calls Try.prog 94 #[.float .f32 a, .float .f32 b, .int .i64 p] w (RF .f32 (btwC A B p) w) := by
  unfold btwC
  by_cases hc : p % 65536 = 0
  · rw [if_pos hc]
    have hc' : (p.tmod 65536 == 0) = true := by rw [Int.tmod_eq_emod_of_nonneg h0]; simpa using hc
    go_enter Try.func94, Try.ntmps94
    go_wp2
    go_ret
    exact ⟨_, 0, rfl, ha, rfl⟩
  · rw [if_neg hc]
    have hc' : (p.tmod 65536 == 0) = false := by rw [Int.tmod_eq_emod_of_nonneg h0]; simpa using hc
    have hm := Int.tmod_eq_emod_of_nonneg (b := 65536) h0
    have HN := Lib.hid (intF_fl' (p % 65536))
    go_enter Try.func94, Try.ntmps94
    go_wp2
    go_ret
    exact ⟨_, _, rfl, ha.fr ((hb.fr ha .sub _).fr (HN.out.fr k65536 .quo _) .mul _) .add _, rfl⟩
def plS (L : List (Option Nat)) (st : Int) (s : Int × List (Option Nat)) : Int × List (Option Nat) := (s.1 + st, s.2 ++ [btwC (atR L (s.1 / 65536)) (atR L (s.1 / 65536 + 1)) s.1])
def plT (L : List (Option Nat)) (st from_ : Int) : Nat → Int × List (Option Nat)
  | 0 => (from_, [])
  | k + 1 => plS L st (plT L st from_ k)
theorem plT_fst (L : List (Option Nat)) (st from_ : Int) : ∀ k, (plT L st from_ k).1 = from_ + k * st := by
  intro k
  induction k with
  | zero => simp [plT]
  | succ k ih => simp only [plT, plS, ih]; rw [Int.natCast_add, Int.add_mul]; omega
theorem plT_len (L : List (Option Nat)) (st from_ : Int) : ∀ k, (plT L st from_ k).2.length = k := by
  intro k
  induction k with
  | zero => rfl
  | succ k ih => simp only [plT, plS, List.length_append, ih]; rfl
theorem play_bd (L : List (Option Nat)) {st from_ : Int} (h3 : 0 ≤ from_) (h4 : from_ ≤ 16777216) (h5 : 0 ≤ st) (h6 : st ≤ 655360) (k : Nat) (hk : k ≤ 257) : 0 ≤ (plT L st from_ k).1 ∧ (plT L st from_ k).1 ≤ 200000000 := by
  rw [plT_fst]
  have h1 : 0 ≤ (k : Int) * st := Int.mul_nonneg (by omega) h5
  have h2 : (k : Int) * st ≤ 257 * 655360 := Int.mul_le_mul (by omega) h6 h5 (by omega)
  omega
def playOk (n : Nat) (from_ st count : Int) : Bool := decide (1 ≤ n) && few n && inC from_ 0 16777216 && inC st 0 655360 && inC count 0 256
def playNC (n : Nat) (L : List (Option Nat)) (from_ st count : Int) : Int × List (Option Nat) := if playOk n from_ st count = true then plT L st from_ count.toNat else (0, [])
theorem play_ok {n : Nat} {from_ st count : Int} (h : playOk n from_ st count = true) : (1 ≤ n ∧ few n = true) ∧ (inC from_ 0 16777216 = true ∧ 0 ≤ from_ ∧ from_ ≤ 16777216) ∧ (inC st 0 655360 = true ∧ 0 ≤ st ∧ st ≤ 655360) ∧ (inC count 0 256 = true ∧ 0 ≤ count ∧ count ≤ 256) := by
  simp only [playOk, Bool.and_eq_true, decide_eq_true_eq] at h
  obtain ⟨⟨⟨⟨h1, h2⟩, h3⟩, h4⟩, h5⟩ := h
  exact ⟨⟨h1, h2⟩, ⟨h3, (inC_iff _ _ _).1 h3⟩, ⟨h4, (inC_iff _ _ _).1 h4⟩, ⟨h5, (inC_iff _ _ _).1 h5⟩⟩
set_option maxHeartbeats 800000 in
theorem spec_l05Count {n : Int} (w : World) : Calls Try.prog 106 #[.int .i64 n] w fun e w' => e = .returned (.bool (inC n 0 256)) ∧ w = w' := by
  go_enter Try.func106, Try.ntmps106
  go_wp2_with (go_at_call 77; refine (spec_l00In _).mono ?_; rintro e w' ⟨rfl, rfl⟩)
  go_ret
  exact ⟨rfl, rfl⟩
set_option maxHeartbeats 1600000 in
theorem spec_l05Play {A : Option Addr} {n c : Nat} {from_ st count : Int} (w : World) (hn : n ≤ 1048576) : Calls Try.prog 93 #[.slice A n c, .int .i64 from_, .int .i64 st, .int .i64 count] w fun e w' => e = .returned (.bool (playOk n from_ st count)) ∧ w = w' := by
  unfold playOk
  by_cases h1 : 1 ≤ n
  all_goals
    go_enter Try.func93, Try.ntmps93
    go_wp2_with (first
      | (go_at_call 56; refine (spec_l01Few hn _).mono ?_; rintro e w' ⟨rfl, rfl⟩)
      | (go_at_call 77; refine (spec_l00In _).mono ?_; rintro e w' ⟨rfl, rfl⟩)
      | (go_at_call 106; refine (spec_l05Count _).mono ?_; rintro e w' ⟨rfl, rfl⟩))
    all_goals
      go_ret
      exact ⟨ret_bool (by simp_all), rfl⟩
/-- A new list of samples, a whole number and a bool. -/
def RSIB (s : Int × List (Option Nat)) (b : Bool) (w : World) (e : Ending) (w' : World) : Prop := ∃ v zs, e = .returned (.tuple #[v, .int .i64 s.1, .bool b]) ∧ Of w' w.heap.size v zs ∧ clss zs = s.2 ∧ zs.length ≤ 1048576 ∧ Below w.heap.size w w'
set_option maxHeartbeats 3200000 in
theorem spec_PlayRecording {A : Option Addr} {n c : Nat} {xs : List Nat} {from_ st count : Int} (w : World) (h : Rd w A n xs) (hn : n ≤ 1048576) :
    Calls Try.prog 53 #[.slice A n c, .int .i64 from_, .int .i64 st, .int .i64 count] w (RSIB (playNC n (clss xs) from_ st count) (playOk n from_ st count) w) := by
  unfold playNC
  cases hf : playOk n from_ st count <;> simp only [Bool.false_eq_true, if_true, if_false]
  · go_enter Try.func53, Try.ntmps53
    go_wp2_with (go_at_call 93; refine (spec_l05Play _ hn).mono ?_; rintro e w' ⟨rfl, rfl⟩)
    go_ret3
    exact ⟨_, _, rfl, .nil _ _ _, rfl, by simp, Below.refl _ _⟩
  · obtain ⟨⟨h1, h2⟩, ⟨_, h3, h4⟩, ⟨_, h5, h6⟩, ⟨_, h7, h8⟩⟩ := play_ok hf
    obtain ⟨m, rfl⟩ : ∃ m : Nat, count = m := ⟨count.toNat, by omega⟩
    rw [Int.toNat_natCast]
    go_enter Try.func53, Try.ntmps53
    go_wp2_with (go_at_call 93; refine (spec_l05Play _ hn).mono ?_; rintro e w' ⟨rfl, rfl⟩)
    clear hf h2
    go_loopw [11, 1, 3] (fun v f c w' => ∃ j P zs, j ≤ m ∧ f = .int .i64 P ∧ c = .int .i64 ((m - j : Nat) : Int) ∧ Hid (P = (plT (clss xs) st from_ j).1 ∧ clss zs = (plT (clss xs) st from_ j).2) ∧ (0 ≤ P ∧ P ≤ 200000000) ∧ Of w' w.heap.size v zs ∧ Below w.heap.size w w') (fun _ _ c _ => (intOf c).toNat)
    case atStart => exact ⟨0, from_, [], Nat.zero_le _, rfl, rfl, Lib.hid ⟨rfl, rfl⟩, by omega, .empty _ _ _ (Nat.le_refl _), (Below.refl _ _).alloc (Nat.le_refl _) _⟩
    case round =>
      obtain ⟨j, P, zs, hj, rfl, rfl, hz, ⟨hP0, hP1⟩, ho, hb⟩ := hrel
      have hsz := hb.size
      by_cases hlt : j < m
      · have hzl := len_of hz.out.2 (m := 1048576) (by rw [plT_len]; omega)
        obtain ⟨q, hq⟩ : ∃ q : Nat, m - j = q + 1 := ⟨m - j - 1, by omega⟩
        rw [hq]
        have HQ := Lib.hid hq
        have hq7 : q ≤ 256 := by omega
        have hr := h.below hb
        have hd := Int.tdiv_eq_ediv_of_nonneg (b := 65536) hP0
        have hd0 : 0 ≤ P / 65536 := by omega
        have hd1 : P / 65536 ≤ 4000 := by omega
        have HB := Lib.hid (play_bd (clss xs) h3 h4 h5 h6 (j + 1) (by omega))
        have hps : 0 ≤ P + st ∧ P + st ≤ 200000000 := by
          have := HB.out; rw [plT, plS] at this; dsimp only at this; rw [← hz.out.1] at this; exact this
        obtain ⟨hps0, hps1⟩ := hps
        clear h hq
        go_wp2_with fail
        refine (spec_l05Sample _ hr hn hd0 (by omega)).mono ?_
        rintro e W1 ⟨a, q1, rfl, ha, rfl⟩
        go_wp2_with fail
        refine (spec_l05Sample _ (hr.drewN _) hn (by omega) (by omega)).mono ?_
        rintro e W1 ⟨b, q2, rfl, hb2, rfl⟩
        go_wp2_with fail
        refine (spec_l05Between _ ha hb2 hP0 (by omega)).mono ?_
        rintro e W1 ⟨y, q3, rfl, hy, rfl⟩
        go_wp2_with (at_builtin; refine ap_float w.heap.size rfl _ _ 25 22 rfl Try.underlying25 info_f32 _ zs y rfl rfl (by exact ho.drewN _) hy.wf (by exact below_drewN hb _) (by simpa using hsz) (by omega) ?_; intro v1 w3 ho3 hb3 _ _)
        refine ⟨⟨j + 1, P + st, _, by omega, rfl, by have := HQ.out; go_num, Lib.hid ⟨?_, ?_⟩, ⟨hps0, hps1⟩, ho3, hb3⟩, by have := HQ.out; simp [intOf]⟩
        · rw [plT, plS]; dsimp only; rw [← hz.out.1]
        · rw [plT, plS]; dsimp only; rw [← hz.out.1, ← hz.out.2]; exact clss_push rfl hy
      · obtain rfl : j = m := by omega
        rw [Nat.sub_self]
        go_wp2
        go_ret3
        exact ⟨_, _, by rw [← hz.out.1]; rfl, ho, hz.out.2, len_of hz.out.2 (by rw [plT_len]; omega), hb⟩
end Go.Proofs.Ytbaokmapgdnhlaa
