/- Lists of numbers, read from texts: the program's own walk, and the law. Conditions: none beside the given statement's own. -/
import Derived.Test.YtajnncidkmafgaaDoorTb
import Derived.Test.YtajnncidkmafgaaDoorRc
import Derived.Shelf.Vars
set_option linter.unusedVariables false
set_option linter.unusedSimpArgs false
namespace Go.Proofs.YtajnncidkmafgaaDoor
open Go.RowKit
theorem partsN_len (l : List UInt8) : (partsC l).length ≤ l.length + 1 := by
  rw [partsC]; split
  · simp
  · exact (cutG_length 44 l []).2
theorem partsN_most {l x : List UInt8} (h : x ∈ partsC l) : x.length ≤ l.length := by
  rw [partsC] at h; split at h
  · cases h
  · exact cut_most h
set_option maxHeartbeats 1600000 in
theorem impl_ReadNumbers {l : List UInt8} (w : World) (hl : l.length ≤ 1048576) (he : MaxL w) :
    Calls Tryd.prog 21 #[tx l] w (RSB (numV l) (numC l) w) := by
  have HE := Lib.hid he
  clear he
  go_enter Tryd.func21, Tryd.ntmps21
  go_wp2_with (go_at_call 35; refine (impl_divided _ hl HE.out).mono ?_; rintro e W1 ⟨v, rfl, ho, hb1⟩; refine Hid.out ?_)
  refine Lib.hid ?_
  generalize hps : partsC l = ps at ho
  have HPS := Lib.hid hps
  clear hps
  obtain ⟨A, c, rfl, hsh⟩ := row_shape ho
  rw [txs_length] at ho
  rw [txs_length]
  clear hsh
  by_cases h64 : ps.length ≤ 256
  · go_wp2
    go_loopw [5, 17] (fun o i w' => ∃ (k : Nat) (zs : List Nat), k ≤ ps.length ∧ zs.length = k ∧ Of w' w.heap.size o zs ∧ OwT w' w.heap.size (.slice A ps.length c) ps ∧ Hid (((Value.slice A ps.length c).ownBlock = none ∨ (Value.slice A ps.length c).ownBlock ≠ o.ownBlock) ∧ (ps.take k).all readH = true ∧ clss zs = (ps.take k).map valH) ∧ i = .int .i64 (k : Nat) ∧ Below w.heap.size w w') (fun _ i _ => ps.length - (intOf i).toNat)
    case atStart => exact ⟨0, [], by omega, rfl, Ow.nil _ _ _, ho, Lib.hid ⟨by cases (Value.slice A ps.length c).ownBlock <;> simp [Value.ownBlock], rfl, rfl⟩, rfl, hb1⟩
    case round =>
      clear ho hb1
      obtain ⟨k, zs, hk, hzl, hout, ho, hH, rfl, hb⟩ := hrel
      obtain ⟨hap, hall, hcl⟩ := hH.out
      by_cases hlt : k < ps.length
      · obtain ⟨g, c', x, hv, hx, hcell⟩ := part_at ho hlt
        cases hv
        have hxl : x.length ≤ 1048576 := Nat.le_trans (partsN_most (by rw [HPS.out]; exact List.mem_of_getElem? hx)) hl
        obtain ⟨a1, a2⟩ := allH_take hx hall
        have hsn := snocH hx
        have hno : readH x = false → numC l = false := fun c1 => by rw [numC, HPS.out, a2 c1, Bool.and_false]
        have H1 := Lib.hid a1
        have HNO := Lib.hid hno
        have HS := Lib.hid hsn
        have HA := Lib.hid hap
        have HC := Lib.hid hcl
        clear a1 a2 hsn hx hall hap hH hno hcl
        have C := fun W => impl_fromHex (l := x) W hxl
        cases c1 : readH x
        · rw [c1] at C
          go_wp2_with (go_at_call 37; refine (C _).mono ?_; rintro e W2 ⟨r, rfl, hr, hb2⟩)
          go_ret2
          rw [HNO.out c1, numV_no (HNO.out c1)]
          exact no_num (below_next hb hb.size hb2)
        · rw [c1] at C
          go_wp2_with (go_at_call 37; refine (C _).mono ?_; rintro e W2 ⟨r, rfl, hr, hb2⟩; refine Hid.out ?_)
          refine Lib.hid ?_
          have hrf := hr (by first | trivial | rfl)
          have ho2 := row_below ho hb2
          have hout2 := hout.below hb2
          have hB2 := below_next hb hb.size hb2
          clear ho hout hcell hb hb2 hr C
          go_wp2_with (at_builtin; refine ap_float w.heap.size rfl _ _ 36 50 rfl Tryd.underlying36 info_f32 u5 zs r rfl rfl hout2 hrf.wf hB2 hB2.size (by omega) ?_; intro v1 W3 ho3 hB3 hg hat)
          have hp3 : OwT W3 w.heap.size (.slice (some ⟨g, 0, none⟩) ps.length c) ps := ho2.kept hg HA.out
          have hap3 : (Value.slice (some ⟨g, 0, none⟩) ps.length c).ownBlock = none ∨ (Value.slice (some ⟨g, 0, none⟩) ps.length c).ownBlock ≠ v1.ownBlock := by
            rcases hat with e | ⟨b, e, hbb⟩
            · rw [e]; exact HA.out
            · exact own_apart (Bj := W2.heap.size) (m := W2.heap.size) (fun k e' => (row_lt ho2 k e').2) (fun k e' => by rw [e] at e'; cases e'; exact hbb) (Nat.le_refl _)
          exact ⟨⟨k + 1, zs ++ [r], by omega, by rw [List.length_append, hzl]; rfl, ho3, hp3, Lib.hid ⟨hap3, by rw [H1.out, c1], by rw [clss_one hrf, HC.out, HS.out]⟩, by go_num, hB3⟩, by simp [intOf]; omega⟩
      · obtain rfl : k = ps.length := by omega
        rw [List.take_length] at hall hcl
        go_wp2
        go_ret2
        have hyes : numC l = true := by rw [numC, HPS.out, hall, decide_eq_true h64]; rfl
        exact ⟨u5, zs, by rw [hyes]; rfl, hout, by rw [numV_yes hyes, HPS.out, hcl], by omega, hb⟩
  · have hno : numC l = false := by rw [numC, HPS.out, decide_eq_false h64]; rfl
    have HNO := Lib.hid hno
    clear hno ho
    go_wp2
    go_ret2
    rw [HNO.out, numV_no HNO.out]
    exact no_num hb1
theorem maxL_of' {W : World} (h : W.ShapedOpen Tryd.prog) : MaxL W :=
  cell_of_shapedOpen_int h (g := 4) (t := 3) (zero := #[.int .i64 0]) (k := .i64) (of_decide_eq_true (by kernel_rfl)) (by kernel_rfl) rfl (by kernel_rfl) (by kernel_rfl) Tryd.underlying3
theorem clss_eq_len {xs : List Nat} {Zs : List (Option Nat)} (h : clss xs = Zs) : xs.length = Zs.length := by rw [← h, clss_length]
set_option maxHeartbeats 4000000 in
set_option maxRecDepth 100000 in
theorem readNumbers_walk (l : List UInt8) (w : World) (he : MaxL w) (hl : l.length ≤ 9223372036854775807) : Calls Tryd.prog 7 #[tx l] w fun e w' => e = .returned (.bool true) ∧ Below w.heap.size w w' := by
  rcases Nat.lt_or_ge 1048576 l.length with hn | hn
  · go_enter Tryd.func7, Tryd.ntmps7
    go_wp2
    go_ret
    exact ⟨rfl, Below.refl _ _⟩
  · have HE := Lib.hid he
    clear he
    have hxl := numV_len l
    obtain ⟨Z, hz⟩ : ∃ Z, Z = numV l := ⟨_, rfl⟩
    obtain ⟨n, hnx⟩ : ∃ n, n = Z.length := ⟨_, rfl⟩
    rw [← hz, ← hnx] at hxl
    have SP := fun W => spec_ReadNumbers (l := l) W hn
    have IM := fun W h => impl_ReadNumbers (l := l) W hn h
    rw [← hz] at SP IM
    have HX := Lib.hid hnx.symm
    clear hnx hz
    go_enter Tryd.func7, Tryd.ntmps7
    go_wp2_with fail
    refine (SP _).mono ?_
    rintro e_ W1 ⟨v0, x0, rfl, HO1, z0, -, HB1⟩
    have L0 : x0.length = n := (clss_eq_len z0).trans HX.out
    obtain ⟨A1, c1, rfl⟩ := HO1.shape_n L0
    have HE1 := Lib.hid (HE.out.below HB1)
    go_wp2_with fail
    refine (IM _ HE1.out).mono ?_
    rintro e_ W2 ⟨v1, x1, rfl, HO2, z1, -, hb2⟩
    have L1 : x1.length = n := (clss_eq_len z1).trans HX.out
    obtain ⟨A2, c2, rfl⟩ := HO2.shape_n L1
    have hs2 := hb2.size
    have hs1 := HB1.size
    have HB2 := below_next HB1 HB1.size hb2
    have hap : (Value.slice A1 n c1).ownBlock = none ∨ (Value.slice A1 n c1).ownBlock ≠ (Value.slice A2 n c2).ownBlock := own_apart (m := W1.heap.size) (Bj := W1.heap.size) HO1.lt HO2.base (Nat.le_refl _)
    have HA := Lib.hid hap
    have HZ := Lib.hid (z1.trans z0.symm)
    have HZ0 := Lib.hid z0
    have HL0 := Lib.hid L0
    have HL1 := Lib.hid L1
    replace HO1 := HO1.below hb2
    clear hb2 hap z0 z1 L0 L1
    go_wp2_with fail
    refine (RB.m (laws_eqFloat32S _ (HO2.rd HL1.out) (HO1.rd HL0.out) HZ.out (by omega))).mono ?_
    rintro e_ W3 ⟨rfl, hb3⟩
    replace HO1 := HO1.below hb3
    replace HO2 := HO2.below hb3
    have HB3 := below_next HB2 HB2.size hb3
    have hs3 := hb3.size
    clear hb3
    go_wp2_with fail
    refine (laws_markFloat32S _ HO2 HL1.out (by omega) (by omega) (by omega)).mono ?_
    rintro e_ W4 ⟨rfl, HO3, hg⟩
    have HB4 : Below w.heap.size w W4 := HB3.grown hg HB3.size (fun q hq => by have := HO2.base q hq; omega)
    replace HO1 : Of W4 w.heap.size (.slice A1 n c1) x0 := HO1.other hg HA.out
    have HE4 := Lib.hid (HE.out.below HB4)
    have hml := marks_length 1 n
    clear hg HO2
    go_wp2_with fail
    refine (laws_heldFloat32S _ (HO3.rd hml) (by omega) (by omega) (by omega)).mono ?_
    rintro e_ W5 ⟨rfl, rfl⟩
    go_wp2_with fail
    refine (IM _ HE4.out).mono ?_
    rintro e_ W6 ⟨v2, x2, rfl, HO4, z2, -, hb6⟩
    have L2 : x2.length = n := (clss_eq_len z2).trans HX.out
    obtain ⟨A3, c3, rfl⟩ := HO4.shape_n L2
    have HB6 := below_next HB4 HB4.size hb6
    have HZ2 := Lib.hid (z2.trans HZ0.out.symm)
    have HL2 := Lib.hid L2
    replace HO1 := HO1.below hb6
    replace HO3 := HO3.below hb6
    clear hb6 z2 L2
    go_wp2_with fail
    refine (RB.m (laws_eqFloat32S _ (HO4.rd HL2.out) (HO1.rd HL0.out) HZ2.out (by omega))).mono ?_
    rintro e_ W7 ⟨rfl, hb7⟩
    have HB7 := below_next HB6 HB6.size hb7
    replace HO3 := HO3.below hb7
    clear hb7
    go_wp2_with fail
    refine (laws_heldFloat32S _ (HO3.rd hml) (by omega) (by omega) (by omega)).mono ?_
    rintro e_ W8 ⟨rfl, rfl⟩
    go_wp2_with fail
    go_ret
    exact ⟨rfl, HB7⟩
theorem readNumbers_law (s : ByteArray) (W : World) (hs : s.size ≤ 140737488351232) (hL : laidMetH Tryd.prog Rows.fnExactReadNumbersRow.laid W) (hsh : W.ShapedOpen Tryd.prog) :
    Calls Tryd.prog 7 #[.string s] W fun e w' => e = .returned (.bool true) ∧ Below W.heap.size W w' := by
  have hsz : s.data.toList.length ≤ 9223372036854775807 := by
    have : s.data.toList.length = s.size := by simp
    omega
  have := readNumbers_walk s.data.toList W (maxL_of' hsh) hsz
  rwa [show tx s.data.toList = .string s from congrArg Value.string (bytes_eta s).symm] at this
end Go.Proofs.YtajnncidkmafgaaDoor
