/- The walk of the law on gates. Conditions: none beside the contracts' own. -/
import Derived.Test.YtcjflleeffbhhaaL3
import Derived.OwnWalk
set_option linter.unusedVariables false
set_option linter.unusedSimpArgs false
namespace Go.Proofs.Ytcjflleeffbhhaa
open Go.RowKit

/-! ### Gates -/
def gateH (thr : Option Nat) (hold held : Int) (X : Option Nat) : Int := if (ford .f32 (absC X) thr == some .gt || ford .f32 (absC X) thr == some .eq) = true then hold else if 0 < held then held - 1 else held
def gateX (thr : Option Nat) (held : Int) (X : Option Nat) : Option Nat := if (ford .f32 (absC X) thr == some .gt || ford .f32 (absC X) thr == some .eq) = true then X else if 0 < held then X else some 0
def gateS (thr : Option Nat) (hold : Int) (s : Int × List (Option Nat)) (X : Option Nat) : Int × List (Option Nat) := (gateH thr hold s.1 X, s.2 ++ [gateX thr s.1 X])
def gateT (thr : Option Nat) (hold held : Int) (l : List (Option Nat)) : Int × List (Option Nat) := l.foldl (gateS thr hold) (held, [])
theorem gateT_snoc (thr : Option Nat) (hold held : Int) (l : List (Option Nat)) (X : Option Nat) : gateT thr hold held (l ++ [X]) = gateS thr hold (gateT thr hold held l) X := by simp [gateT]
theorem gate_len (thr : Option Nat) (hold : Int) (l : List (Option Nat)) : ∀ s : Int × List (Option Nat), (l.foldl (gateS thr hold) s).2.length = s.2.length + l.length := by
  induction l with
  | nil => intro s; simp
  | cons X l ih => intro s; rw [List.foldl_cons, ih]; simp [gateS]; omega
theorem gateT_len (thr : Option Nat) (hold held : Int) (l : List (Option Nat)) : (gateT thr hold held l).2.length = l.length := by rw [gateT, gate_len]; simp
theorem gateH_in {thr : Option Nat} {hold held : Int} (X : Option Nat) (h0 : 0 ≤ held) (h1 : held ≤ hold) : 0 ≤ gateH thr hold held X ∧ gateH thr hold held X ≤ hold := by
  unfold gateH; split
  · omega
  · split <;> omega
theorem gate_in {thr : Option Nat} {hold : Int} (l : List (Option Nat)) : ∀ s : Int × List (Option Nat), 0 ≤ s.1 → s.1 ≤ hold → 0 ≤ (l.foldl (gateS thr hold) s).1 ∧ (l.foldl (gateS thr hold) s).1 ≤ hold := by
  induction l with
  | nil => intro s h0 h1; exact ⟨h0, h1⟩
  | cons X l ih => intro s h0 h1; obtain ⟨a, b⟩ := gateH_in (thr := thr) X h0 h1; exact ih _ a b
theorem gateT_in {thr : Option Nat} {hold held : Int} (l : List (Option Nat)) (h0 : 0 ≤ held) (h1 : held ≤ hold) : 0 ≤ (gateT thr hold held l).1 ∧ (gateT thr hold held l).1 ≤ hold := gate_in l _ h0 h1
def gateOk (n : Nat) (hold held : Int) : Bool := few n && inC hold 0 10000 && inC held 0 hold
def gateNC (n : Nat) (X : List (Option Nat)) (thr : Option Nat) (hold held : Int) : Int × List (Option Nat) := if gateOk n hold held = true then gateT thr hold held X else (0, [])
/-- A new slice of samples, a whole number and a bool. -/
def RSIB (s : Int × List (Option Nat)) (b : Bool) (w : World) (e : Ending) (w' : World) : Prop := ∃ v zs, e = .returned (.tuple #[v, .int .i64 s.1, .bool b]) ∧ Of w' w.heap.size v zs ∧ clss zs = s.2 ∧ zs.length ≤ 1048576 ∧ Below w.heap.size w w'
set_option maxHeartbeats 3200000 in
theorem spec_RunGate {A : Option Addr} {n c : Nat} {xs : List Nat} {y : Nat} {Y : Option Nat} {hold held : Int} (w : World) (h : Rd w A n xs) (hn : n ≤ 1048576) (hy : Fl .f32 y Y) : Calls Try.prog 36 #[.slice A n c, .float .f32 y, .int .i64 hold, .int .i64 held] w (RSIB (gateNC n (clss xs) Y hold held) (gateOk n hold held) w) := by
  unfold gateNC gateOk
  cases c1 : few n <;> cases c2 : inC hold 0 10000 <;> cases c3 : inC held 0 hold <;> simp only [Bool.false_eq_true, if_true, if_false, Bool.and_true, Bool.true_and, Bool.and_false, Bool.false_and]
  case true.true.true =>
    obtain ⟨hd0, hd1⟩ := (inC_iff _ _ _).1 c2
    obtain ⟨hd2, hd3⟩ := (inC_iff _ _ _).1 c3
    go_enter Try.func36, Try.ntmps36
    go_wp2_with (first | (go_at_call 47; refine (spec_l01Few hn _).mono ?_; rintro e w' ⟨rfl, rfl⟩) | (go_at_call 63; refine (spec_l00In _).mono ?_; rintro e w' ⟨rfl, rfl⟩))
    clear c1 c2 c3
    go_loopw [3, 11, 12] (fun g v i w' => ∃ k zs hh, k ≤ n ∧ i = .int .i64 (k : Nat) ∧ g = .int .i64 hh ∧ 0 ≤ hh ∧ hh ≤ 10000 ∧ Of w' w.heap.size v zs ∧ Hid (hh = (gateT Y hold held ((clss xs).take k)).1 ∧ clss zs = (gateT Y hold held ((clss xs).take k)).2) ∧ Below w.heap.size w w') (fun _ _ i _ => n - (intOf i).toNat)
    case atStart => exact ⟨0, [], _, Nat.zero_le _, rfl, rfl, by omega, by omega, .empty _ _ _ (Nat.le_refl _), Lib.hid ⟨rfl, rfl⟩, (Below.refl _ _).alloc (Nat.le_refl _) _⟩
    case round =>
      obtain ⟨k, zs, hh, hk, rfl, rfl, hh0, hh1, ho, hz, hb⟩ := hrel
      by_cases hlt : k < n
      · obtain ⟨ad, x, X, rfl, hc, hx, hxk, hX⟩ := (h.below hb).at_ hlt
        have hzl := len_of hz.out.2 (m := 1048576) (by rw [gateT_len, List.length_take]; omega)
        have hst : gateT Y hold held ((clss xs).take (k + 1)) = gateS Y hold (gateT Y hold held ((clss xs).take k)) X := by rw [clss_snoc hX, gateT_snoc]
        have HS := Lib.hid hst
        clear hst hX h
        have ht1 : gateS Y hold (gateT Y hold held ((clss xs).take k)) X = (gateH Y hold hh X, clss zs ++ [gateX Y hh X]) := by rw [gateS, ← hz.out.1, ← hz.out.2]
        have HT := Lib.hid ht1
        clear ht1
        go_wp2_with fail
        refine (spec_l04Size hx _).mono ?_
        rintro e w1 ⟨z, q, rfl, hzz, rfl⟩
        have ho1 := Fl.ord hzz hy
        obtain ⟨o, ho2⟩ : ∃ o, ford .f32 (absC X) Y = o := ⟨_, rfl⟩
        rw [ho2] at ho1
        by_cases hp : 0 < hh
        all_goals rcases o with _ | _ | _ | _
        all_goals go_wp2_with (at_builtin; refine ap_float w.heap.size rfl _ _ 22 23 rfl Try.underlying22 info_f32 _ zs _ rfl rfl (ho.drewN _) (by first | exact hx.wf | exact zero_fl.wf) (below_drewN hb _) hb.size (by omega) ?_; intro v1 w1 ho1 hb1 _ _)
        all_goals refine ⟨⟨k + 1, _, _, by omega, by go_num, rfl, ?_, ?_, ho1, Lib.hid ?_, hb1⟩, by simp [intOf]; omega⟩
        all_goals first | omega | exact ⟨by rw [HS.out, HT.out]; simp [gateH, ho2, hp] <;> (intro _; omega), by rw [HS.out, HT.out, clss_append]; simp [gateX, ho2, hp, clss, hx.cl, zero_fl.cl] <;> (intro _; omega)⟩
      · go_wp2
        go_ret3
        have hz1 := hz.out
        rw [clss_all h.len hk hlt] at hz1
        exact ⟨_, _, by rw [← hz1.1]; rfl, ho, hz1.2, len_of hz1.2 (by rw [gateT_len, clss_length, h.len]; exact hn), hb⟩
  all_goals
    go_enter Try.func36, Try.ntmps36
    go_wp2_with (first | (go_at_call 47; refine (spec_l01Few hn _).mono ?_; rintro e w' ⟨rfl, rfl⟩) | (go_at_call 63; refine (spec_l00In _).mono ?_; rintro e w' ⟨rfl, rfl⟩))
    go_ret3
    exact ⟨_, _, rfl, .nil _ _ _, rfl, by simp, Below.refl _ _⟩
set_option maxHeartbeats 3200000 in
theorem impl_RunGate {A : Option Addr} {n c : Nat} {xs : List Nat} {y : Nat} {Y : Option Nat} {hold held : Int} (w : World) (h : Rd w A n xs) (hn : n ≤ 1048576) (hy : Fl .f32 y Y) : Calls Try.prog 37 #[.slice A n c, .float .f32 y, .int .i64 hold, .int .i64 held] w (RSIB (gateNC n (clss xs) Y hold held) (gateOk n hold held) w) := by
  unfold gateNC gateOk
  cases c1 : few n <;> cases c2 : inC hold 0 10000 <;> cases c3 : inC held 0 hold <;> simp only [Bool.false_eq_true, if_true, if_false, Bool.and_true, Bool.true_and, Bool.and_false, Bool.false_and]
  case true.true.true =>
    obtain ⟨hd0, hd1⟩ := (inC_iff _ _ _).1 c2
    obtain ⟨hd2, hd3⟩ := (inC_iff _ _ _).1 c3
    go_enter Try.func37, Try.ntmps37
    go_wp2_with (first | (go_at_call 49; refine (impl_areSamples hn _).mono ?_; rintro e w' ⟨rfl, rfl⟩) | (go_at_call 65; refine (impl_within _).mono ?_; rintro e w' ⟨rfl, rfl⟩))
    clear c1 c2 c3
    go_loopw [3, 11, 30] (fun g v i w' => ∃ k zs hh, k ≤ n ∧ i = .int .i64 (k : Nat) ∧ g = .int .i64 hh ∧ 0 ≤ hh ∧ hh ≤ 10000 ∧ Of w' w.heap.size v zs ∧ Hid (hh = (gateT Y hold held ((clss xs).take k)).1 ∧ clss zs = (gateT Y hold held ((clss xs).take k)).2) ∧ Below w.heap.size w w') (fun _ _ i _ => n - (intOf i).toNat)
    case atStart => exact ⟨0, [], _, Nat.zero_le _, rfl, rfl, by omega, by omega, .nil _ _ _, Lib.hid ⟨rfl, rfl⟩, Below.refl _ _⟩
    case round =>
      obtain ⟨k, zs, hh, hk, rfl, rfl, hh0, hh1, ho, hz, hb⟩ := hrel
      by_cases hlt : k < n
      · obtain ⟨ad, x, X, rfl, hc, hx, hxk, hX⟩ := (h.below hb).at_ hlt
        have hzl := len_of hz.out.2 (m := 1048576) (by rw [gateT_len, List.length_take]; omega)
        have hst : gateT Y hold held ((clss xs).take (k + 1)) = gateS Y hold (gateT Y hold held ((clss xs).take k)) X := by rw [clss_snoc hX, gateT_snoc]
        have HS := Lib.hid hst
        clear hst hX h
        have ht1 : gateS Y hold (gateT Y hold held ((clss xs).take k)) X = (gateH Y hold hh X, clss zs ++ [gateX Y hh X]) := by rw [gateS, ← hz.out.1, ← hz.out.2]
        have HT := Lib.hid ht1
        clear ht1
        go_wp2_with fail
        refine (impl_absolute hx _).mono ?_
        rintro e w1 ⟨z, q, rfl, hzz, rfl⟩
        have ho1 := Fl.ord hzz hy
        obtain ⟨o, ho2⟩ : ∃ o, ford .f32 (absC X) Y = o := ⟨_, rfl⟩
        rw [ho2] at ho1
        by_cases hp : 0 < hh
        all_goals rcases o with _ | _ | _ | _
        all_goals go_wp2_with (at_builtin; refine ap_float w.heap.size rfl _ _ 22 23 rfl Try.underlying22 info_f32 _ zs _ rfl rfl (ho.drewN _) (by first | exact hx.wf | exact zero_fl.wf) (below_drewN hb _) hb.size (by omega) ?_; intro v1 w1 ho1 hb1 _ _)
        all_goals refine ⟨⟨k + 1, _, _, by omega, by go_num, rfl, ?_, ?_, ho1, Lib.hid ?_, hb1⟩, by simp [intOf]; omega⟩
        all_goals first | omega | exact ⟨by rw [HS.out, HT.out]; simp [gateH, ho2, hp] <;> (intro _; omega), by rw [HS.out, HT.out, clss_append]; simp [gateX, ho2, hp, clss, hx.cl, zero_fl.cl] <;> (intro _; omega)⟩
      · go_wp2
        go_ret3
        have hz1 := hz.out
        rw [clss_all h.len hk hlt] at hz1
        exact ⟨_, _, by rw [← hz1.1]; rfl, ho, hz1.2, len_of hz1.2 (by rw [gateT_len, clss_length, h.len]; exact hn), hb⟩
  all_goals
    go_enter Try.func37, Try.ntmps37
    go_wp2_with (first | (go_at_call 49; refine (impl_areSamples hn _).mono ?_; rintro e w' ⟨rfl, rfl⟩) | (go_at_call 65; refine (impl_within _).mono ?_; rintro e w' ⟨rfl, rfl⟩))
    go_ret3
    exact ⟨_, _, rfl, .nil _ _ _, rfl, by simp, Below.refl _ _⟩
set_option maxHeartbeats 4000000 in
set_option maxRecDepth 100000 in
theorem runGate_walk (a0 : Option Addr) (n0 c0 : Nat) (l0 : List Value) (a1 : Nat) (a2 : Int) (a3 : Int) (w : World) (w0 : Row w [.f32] a0 n0 l0) (w1 : a1 < 2 ^ FloatKind.f32.format.width) (w2 : (Lit.int .i64 a2).wf = true) (w3 : (Lit.int .i64 a3).wf = true) :
    Calls Try.prog 11 #[.slice a0 n0 c0, .float .f32 a1, .int .i64 a2, .int .i64 a3] w fun e w' => e = .returned (.bool true) ∧ Below w.heap.size w w' := by
  obtain ⟨x0, h0⟩ := w0.rd
  rcases Nat.lt_or_ge 1048576 n0 with hn0 | hn0
  · go_enter Try.func11, Try.ntmps11
    go_wp2_with fail
    go_ret
    exact ⟨rfl, Below.refl _ _⟩
  have hl0 := h0.len
  have hy1 := Fl.self w1
  clear w2
  clear w3
  have HL0 := Lib.hid hl0; clear hl0
  have HB0 : Below w.heap.size w w := Below.refl _ _
  have hz0 : w.heap.size ≤ w.heap.size := Nat.le_refl _
  go_enter Try.func11, Try.ntmps11
  go_wp2_with fail
  refine (laws_toFloat32S _ (h0.below HB0) hn0).mono ?_
  rintro e_ W1 ⟨v1, rfl, HO1, hb1⟩
  obtain ⟨A1, c_1, rfl⟩ := HO1.shape_n HL0.out
  have hs1 : w.heap.size ≤ W1.heap.size := hb1.size
  have HB1 := below_next HB0 hz0 hb1
  have hz1 : w.heap.size ≤ W1.heap.size := Nat.le_trans hz0 hs1
  have ltA1 := HO1.lt
  have geA1 := HO1.base
  clear hb1
  go_wp2_with fail
  refine (spec_RunGate _ (HO1.rd HL0.out) hn0 hy1).mono ?_
  rintro e_ W2 ⟨vw0, zw0, rfl, HOw0, hzw0, hmw0, hb2⟩
  have hs2 : W1.heap.size ≤ W2.heap.size := hb2.size
  have HB2 := below_next HB1 hz1 hb2
  have hz2 : w.heap.size ≤ W2.heap.size := Nat.le_trans hz1 hs2
  replace HO1 := HO1.below hb2
  have HZw0 := Lib.hid hzw0; clear hzw0
  obtain ⟨Aw0, c_w0, rfl⟩ := HOw0.shape
  have ltAw0 := HOw0.lt
  have geAw0 := HOw0.base
  clear hb2
  go_wp2_with fail
  refine (laws_toFloat32S _ (h0.below HB2) hn0).mono ?_
  rintro e_ W3 ⟨v2, rfl, HO2, hb3⟩
  obtain ⟨A2, c_2, rfl⟩ := HO2.shape_n HL0.out
  have hs3 : W2.heap.size ≤ W3.heap.size := hb3.size
  have HB3 := below_next HB2 hz2 hb3
  have hz3 : w.heap.size ≤ W3.heap.size := Nat.le_trans hz2 hs3
  replace HO1 := HO1.below hb3
  replace HOw0 := HOw0.below hb3
  have ltA2 := HO2.lt
  have geA2 := HO2.base
  clear hb3
  go_wp2_with fail
  refine (impl_RunGate _ (HO2.rd HL0.out) hn0 hy1).mono ?_
  rintro e_ W4 ⟨vg0, zg0, rfl, HOg0, hzg0, hmg0, hb4⟩
  have hs4 : W3.heap.size ≤ W4.heap.size := hb4.size
  have HB4 := below_next HB3 hz3 hb4
  have hz4 : w.heap.size ≤ W4.heap.size := Nat.le_trans hz3 hs4
  replace HO1 := HO1.below hb4
  replace HOw0 := HOw0.below hb4
  replace HO2 := HO2.below hb4
  have HZg0 := Lib.hid hzg0; clear hzg0
  obtain ⟨Ag0, c_g0, rfl⟩ := HOg0.shape
  have ltAg0 := HOg0.lt
  have geAg0 := HOg0.base
  clear hb4
  go_wp2_with fail
  refine (RB.m (laws_eqFloat32S _ (HOg0.rd rfl) (HOw0.rd rfl) (by rw [HZg0.out, HZw0.out]) (by omega))).mono ?_
  rintro e_ W5 ⟨rfl, hb5⟩
  have hs5 : W4.heap.size ≤ W5.heap.size := hb5.size
  have HB5 := below_next HB4 hz4 hb5
  have hz5 : w.heap.size ≤ W5.heap.size := Nat.le_trans hz4 hs5
  replace HO1 := HO1.below hb5
  replace HOw0 := HOw0.below hb5
  replace HO2 := HO2.below hb5
  replace HOg0 := HOg0.below hb5
  clear hb5
  go_wp2_with fail
  refine (laws_toFloat32S _ (h0.below HB5) hn0).mono ?_
  rintro e_ W6 ⟨v3, rfl, HO3, hb6⟩
  obtain ⟨A3, c_3, rfl⟩ := HO3.shape_n HL0.out
  have hs6 : W5.heap.size ≤ W6.heap.size := hb6.size
  have HB6 := below_next HB5 hz5 hb6
  have hz6 : w.heap.size ≤ W6.heap.size := Nat.le_trans hz5 hs6
  replace HO1 := HO1.below hb6
  replace HOw0 := HOw0.below hb6
  replace HO2 := HO2.below hb6
  replace HOg0 := HOg0.below hb6
  have ltA3 := HO3.lt
  have geA3 := HO3.base
  clear hb6
  go_wp2_with fail
  refine (RB.m (laws_eqFloat32S _ (HO2.rd HL0.out) (HO3.rd HL0.out) rfl (by omega))).mono ?_
  rintro e_ W7 ⟨rfl, hb7⟩
  have hs7 : W6.heap.size ≤ W7.heap.size := hb7.size
  have HB7 := below_next HB6 hz6 hb7
  have hz7 : w.heap.size ≤ W7.heap.size := Nat.le_trans hz6 hs7
  replace HO1 := HO1.below hb7
  replace HOw0 := HOw0.below hb7
  replace HO2 := HO2.below hb7
  replace HOg0 := HOg0.below hb7
  replace HO3 := HO3.below hb7
  clear hb7
  go_wp2_with fail
  refine (laws_markFloat32S _ HO2 HL0.out (by omega) (by omega) (by omega)).mono ?_
  clear HO2
  rintro e_ W8 ⟨rfl, HO2, hg8⟩
  have hs8 : W7.heap.size ≤ W8.heap.size := hg8.size
  have HB8 := HB7.grown hg8 hz7 (fun k_ e_ => Nat.le_trans hz2 (geA2 k_ e_))
  have hz8 : w.heap.size ≤ W8.heap.size := Nat.le_trans hz7 hs8
  replace HO1 := HO1.other hg8 (own_apart ltA1 geA2 (by omega))
  replace HOw0 := HOw0.other hg8 (own_apart ltAw0 geA2 (by omega))
  replace HOg0 := HOg0.other hg8 (own_apart' geAg0 ltA2 (by omega))
  replace HO3 := HO3.other hg8 (own_apart' geA3 ltA2 (by omega))
  clear hg8
  go_wp2_with fail
  refine (RB.m (laws_eqFloat32S _ (HOg0.rd rfl) (HOw0.rd rfl) (by rw [HZg0.out, HZw0.out]) (by omega))).mono ?_
  rintro e_ W9 ⟨rfl, hb9⟩
  have hs9 : W8.heap.size ≤ W9.heap.size := hb9.size
  have HB9 := below_next HB8 hz8 hb9
  have hz9 : w.heap.size ≤ W9.heap.size := Nat.le_trans hz8 hs9
  replace HO1 := HO1.below hb9
  replace HOw0 := HOw0.below hb9
  replace HO2 := HO2.below hb9
  replace HOg0 := HOg0.below hb9
  replace HO3 := HO3.below hb9
  clear hb9
  go_wp2_with fail
  refine (laws_markFloat32S _ HOg0 rfl (by omega) (by omega) (by omega)).mono ?_
  clear HOg0
  rintro e_ W10 ⟨rfl, HOg0, hg10⟩
  have hs10 : W9.heap.size ≤ W10.heap.size := hg10.size
  have HB10 := HB9.grown hg10 hz9 (fun k_ e_ => Nat.le_trans hz3 (geAg0 k_ e_))
  have hz10 : w.heap.size ≤ W10.heap.size := Nat.le_trans hz9 hs10
  replace HO1 := HO1.other hg10 (own_apart ltA1 geAg0 (by omega))
  replace HOw0 := HOw0.other hg10 (own_apart ltAw0 geAg0 (by omega))
  replace HO2 := HO2.other hg10 (own_apart ltA2 geAg0 (by omega))
  replace HO3 := HO3.other hg10 (own_apart' geA3 ltAg0 (by omega))
  clear hg10
  go_wp2_with fail
  refine (RH.m (laws_heldFloat32S _ (HOg0.rd (marks_length _ _)) (by omega) (by omega) (by omega))).mono ?_
  rintro e_ W11 ⟨rfl, hb11⟩
  have hs11 : W10.heap.size ≤ W11.heap.size := hb11.size
  have HB11 := below_next HB10 hz10 hb11
  have hz11 : w.heap.size ≤ W11.heap.size := Nat.le_trans hz10 hs11
  replace HO1 := HO1.below hb11
  replace HOw0 := HOw0.below hb11
  replace HO2 := HO2.below hb11
  replace HOg0 := HOg0.below hb11
  replace HO3 := HO3.below hb11
  clear hb11
  go_wp2_with fail
  refine (laws_toFloat32S _ (h0.below HB11) hn0).mono ?_
  rintro e_ W12 ⟨v4, rfl, HO4, hb12⟩
  obtain ⟨A4, c_4, rfl⟩ := HO4.shape_n HL0.out
  have hs12 : W11.heap.size ≤ W12.heap.size := hb12.size
  have HB12 := below_next HB11 hz11 hb12
  have hz12 : w.heap.size ≤ W12.heap.size := Nat.le_trans hz11 hs12
  replace HO1 := HO1.below hb12
  replace HOw0 := HOw0.below hb12
  replace HO2 := HO2.below hb12
  replace HOg0 := HOg0.below hb12
  replace HO3 := HO3.below hb12
  have ltA4 := HO4.lt
  have geA4 := HO4.base
  clear hb12
  go_wp2_with fail
  refine (impl_RunGate _ (HO4.rd HL0.out) hn0 hy1).mono ?_
  rintro e_ W13 ⟨vh0, zh0, rfl, HOh0, hzh0, hmh0, hb13⟩
  have hs13 : W12.heap.size ≤ W13.heap.size := hb13.size
  have HB13 := below_next HB12 hz12 hb13
  have hz13 : w.heap.size ≤ W13.heap.size := Nat.le_trans hz12 hs13
  replace HO1 := HO1.below hb13
  replace HOw0 := HOw0.below hb13
  replace HO2 := HO2.below hb13
  replace HOg0 := HOg0.below hb13
  replace HO3 := HO3.below hb13
  replace HO4 := HO4.below hb13
  have HZh0 := Lib.hid hzh0; clear hzh0
  obtain ⟨Ah0, c_h0, rfl⟩ := HOh0.shape
  have ltAh0 := HOh0.lt
  have geAh0 := HOh0.base
  clear hb13
  go_wp2_with fail
  refine (RB.m (laws_eqFloat32S _ (HOh0.rd rfl) (HOw0.rd rfl) (by rw [HZh0.out, HZw0.out]) (by omega))).mono ?_
  rintro e_ W14 ⟨rfl, hb14⟩
  have hs14 : W13.heap.size ≤ W14.heap.size := hb14.size
  have HB14 := below_next HB13 hz13 hb14
  have hz14 : w.heap.size ≤ W14.heap.size := Nat.le_trans hz13 hs14
  replace HO1 := HO1.below hb14
  replace HOw0 := HOw0.below hb14
  replace HO2 := HO2.below hb14
  replace HOg0 := HOg0.below hb14
  replace HO3 := HO3.below hb14
  replace HO4 := HO4.below hb14
  replace HOh0 := HOh0.below hb14
  clear hb14
  go_wp2_with fail
  refine (RH.m (laws_heldFloat32S _ (HOg0.rd (marks_length _ _)) (by omega) (by omega) (by omega))).mono ?_
  rintro e_ W15 ⟨rfl, hb15⟩
  have hs15 : W14.heap.size ≤ W15.heap.size := hb15.size
  have HB15 := below_next HB14 hz14 hb15
  have hz15 : w.heap.size ≤ W15.heap.size := Nat.le_trans hz14 hs15
  replace HO1 := HO1.below hb15
  replace HOw0 := HOw0.below hb15
  replace HO2 := HO2.below hb15
  replace HOg0 := HOg0.below hb15
  replace HO3 := HO3.below hb15
  replace HO4 := HO4.below hb15
  replace HOh0 := HOh0.below hb15
  clear hb15
  go_wp2_with fail
  go_ret
  exact ⟨rfl, HB15⟩
end Go.Proofs.Ytcjflleeffbhhaa
