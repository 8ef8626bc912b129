/- The law on lists of whole numbers that are read from texts. Conditions: none beside the given statement's own. -/
import Derived.Test.YtajnncidkmafgaaDoorSc
import Derived.Test.YtajnncidkmafgaaDoorRc
import Derived.Shelf.Vars
set_option linter.unusedVariables false
set_option linter.unusedSimpArgs false
namespace Go.Proofs.YtajnncidkmafgaaDoor
open Go.RowKit
set_option maxHeartbeats 400000 in
theorem laws_heldInt64S {A : Option Addr} {n c : Nat} {k : Int} (w : World) (h : RdI w A n (marksI k n)) (hn : n ≤ 1048576) (h0 : 0 ≤ k) (h1 : k ≤ 1073741824) :
    Calls Tryd.prog 19 #[.slice A n c, .int .i64 k] w fun e w' => e = .returned (.int .i64 (k + (n : Int))) ∧ w = w' := by
  go_enter Tryd.func19, Tryd.ntmps19
  go_wp2
  go_loop [1, 5] (fun q i => ∃ j, j ≤ n ∧ i = .int .i64 (j : Nat) ∧ q = .int .i64 (k + (j : Int))) (fun _ i => n - (intOf i).toNat)
  case atStart => exact ⟨0, Nat.zero_le _, rfl, by simp⟩
  case round =>
    obtain ⟨j, hj, rfl, rfl⟩ := hrel
    by_cases hlt : j < n
    · obtain ⟨ad, x, rfl, hc, hxk⟩ := h.at_ hlt
      rw [marksI_get hlt] at hxk
      obtain rfl := Option.some.inj hxk
      clear h hxk
      go_wp2
      exact ⟨⟨j + 1, by omega, by go_num, by go_num⟩, by simp [intOf]; omega⟩
    · go_wp2
      go_ret
      obtain rfl : j = n := by omega
      exact ⟨rfl, rfl⟩
set_option maxHeartbeats 4000000 in
set_option maxRecDepth 100000 in
theorem readList_walk (l : List UInt8) (w : World) (he : EnvL w) (hl : l.length ≤ 9223372036854775807) : Calls Tryd.prog 6 #[tx l] w fun e w' => e = .returned (.bool true) ∧ Below w.heap.size w w' := by
  rcases Nat.lt_or_ge 1048576 l.length with hn | hn
  · go_enter Tryd.func6, Tryd.ntmps6
    go_wp2
    go_ret
    exact ⟨rfl, Below.refl _ _⟩
  · have HE := Lib.hid he
    clear he
    have hxl := lstV_len l
    obtain ⟨xs, hxs⟩ : ∃ xs, xs = lstV l := ⟨_, rfl⟩
    obtain ⟨n, hnx⟩ : ∃ n, n = xs.length := ⟨_, rfl⟩
    rw [← hxs, ← hnx] at hxl
    have SP := fun W => spec_ReadList (l := l) W hn
    have IM := fun W h => impl_ReadList (l := l) W hn h
    rw [← hxs] at SP IM
    have HX := Lib.hid hnx.symm
    clear hnx hxs
    go_enter Tryd.func6, Tryd.ntmps6
    go_wp2_with fail
    refine (SP _).mono ?_
    rintro e_ W1 ⟨v0, rfl, HO1, HB1⟩
    obtain ⟨A1, c1, rfl⟩ := HO1.shape_n HX.out
    have HE1 := Lib.hid (HE.out.below HB1)
    go_wp2_with fail
    refine (IM _ HE1.out).mono ?_
    rintro e_ W2 ⟨v1, rfl, HO2, hb2⟩
    obtain ⟨A2, c2, rfl⟩ := HO2.shape_n HX.out
    have hs2 := hb2.size
    have hs1 := HB1.size
    have HB2 := below_next HB1 HB1.size hb2
    have hap : (Value.slice A1 n c1).ownBlock = none ∨ (Value.slice A1 n c1).ownBlock ≠ (Value.slice A2 n c2).ownBlock := own_apart (m := W1.heap.size) (Bj := W1.heap.size) HO1.lt HO2.base (Nat.le_refl _)
    have HA := Lib.hid hap
    replace HO1 := HO1.below hb2
    clear hb2 hap
    go_wp2_with fail
    refine (RB.m (laws_eqInt64S _ (HO2.rd HX.out) (HO1.rd HX.out) rfl (by omega))).mono ?_
    rintro e_ W3 ⟨rfl, hb3⟩
    replace HO1 := HO1.below hb3
    replace HO2 := HO2.below hb3
    have HB3 := below_next HB2 HB2.size hb3
    have hs3 := hb3.size
    clear hb3
    go_wp2_with fail
    refine (laws_markInt64S _ HO2 HX.out (by omega) (by omega) (by omega)).mono ?_
    rintro e_ W4 ⟨rfl, HO3, hg⟩
    have HB4 : Below w.heap.size w W4 := HB3.grown hg HB3.size (fun q hq => by have := HO2.base q hq; omega)
    replace HO1 : OfI W4 w.heap.size (.slice A1 n c1) xs := HO1.other hg HA.out
    have HE4 := Lib.hid (HE.out.below HB4)
    have hml := marksI_length 1 n
    clear hg HO2
    go_wp2_with fail
    refine (laws_heldInt64S _ (HO3.rd hml) (by omega) (by omega) (by omega)).mono ?_
    rintro e_ W5 ⟨rfl, rfl⟩
    go_wp2_with fail
    refine (IM _ HE4.out).mono ?_
    rintro e_ W6 ⟨v2, rfl, HO4, hb6⟩
    obtain ⟨A3, c3, rfl⟩ := HO4.shape_n HX.out
    have HB6 := below_next HB4 HB4.size hb6
    replace HO1 := HO1.below hb6
    replace HO3 := HO3.below hb6
    clear hb6
    go_wp2_with fail
    refine (RB.m (laws_eqInt64S _ (HO4.rd HX.out) (HO1.rd HX.out) rfl (by omega))).mono ?_
    rintro e_ W7 ⟨rfl, hb7⟩
    have HB7 := below_next HB6 HB6.size hb7
    replace HO3 := HO3.below hb7
    clear hb7
    go_wp2_with fail
    refine (laws_heldInt64S _ (HO3.rd hml) (by omega) (by omega) (by omega)).mono ?_
    rintro e_ W8 ⟨rfl, rfl⟩
    go_wp2_with fail
    go_ret
    exact ⟨rfl, HB7⟩
theorem maxL_of {W : World} (h : W.ShapedOpen Tryd.prog) : MaxL W :=
  cell_of_shapedOpen_int h (g := 4) (t := 3) (zero := #[.int .i64 0]) (k := .i64) (of_decide_eq_true (by kernel_rfl)) (by kernel_rfl) rfl (by kernel_rfl) (by kernel_rfl) Tryd.underlying3
theorem readList_law (s : ByteArray) (W : World) (hs : s.size ≤ 140737488351232) (hL : laidMetH Tryd.prog Rows.fnExactReadListRow.laid W) (hsh : W.ShapedOpen Tryd.prog) :
    Calls Tryd.prog 6 #[.string s] W fun e w' => e = .returned (.bool true) ∧ Below W.heap.size W w' := by
  rw [MakeChecks.laidMetH_plain _ _ _ (by kernel_rfl)] at hL
  have he := env_of hL.tail.tail hL.tail.tail.tail.tail hL.tail.tail.tail.tail.tail
  have hsz : s.data.toList.length ≤ 9223372036854775807 := by
    have : s.data.toList.length = s.size := by simp
    omega
  have := readList_walk s.data.toList W ⟨he, maxL_of hsh⟩ hsz
  rwa [show tx s.data.toList = .string s from congrArg Value.string (bytes_eta s).symm] at this
end Go.Proofs.YtajnncidkmafgaaDoor
