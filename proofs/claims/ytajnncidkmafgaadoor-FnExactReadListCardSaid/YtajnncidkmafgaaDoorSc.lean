/- Lists of whole numbers, read from texts: the program's own walk. Conditions: none beside the contracts' own. -/
import Derived.Test.YtajnncidkmafgaaDoorSb
set_option linter.unusedVariables false
set_option linter.unusedSimpArgs false
namespace Go.Proofs.YtajnncidkmafgaaDoor
open Go.RowKit
theorem items_eq {ps : List (List UInt8)} (h : ps.all readC = true) : itemsC (ps.map readV) = decide (ps.length ≤ 64) := by
  rw [itemsC, List.length_map]
  have : (ps.map readV).all (fun x => inC x (-1000000000000000) 1000000000000000) = true := by
    rw [List.all_eq_true]
    intro x hx
    obtain ⟨y, hy, rfl⟩ := List.mem_map.1 hx
    exact read_fit y (List.all_eq_true.1 h y hy)
  rw [this, Bool.and_true]
structure EnvL (w : World) : Prop where
  env : Env w
  most : MaxL w
theorem EnvL.below {w w' : World} (h : EnvL w) (hb : Below w.heap.size w w') : EnvL w' := ⟨h.env.below hb, h.most.below hb⟩
theorem parts_len (l : List UInt8) : (partsC l).length ≤ l.length + 1 := by
  rw [partsC]; split
  · simp
  · exact (cutG_length 44 l []).2
theorem parts_most {l x : List UInt8} (h : x ∈ partsC l) : x.length ≤ l.length := by
  rw [partsC] at h; split at h
  · cases h
  · exact cut_most h
set_option maxHeartbeats 800000 in
theorem impl_ReadList {l : List UInt8} (w : World) (hl : l.length ≤ 1048576) (he : EnvL w) :
    Calls Tryd.prog 17 #[tx l] w fun e w' => ∃ v, e = .returned (.tuple #[v, .bool (lstC l)]) ∧ OfI w' w.heap.size v (lstV l) ∧ Below w.heap.size w w' := by
  have hpl := parts_len l
  have HE := Lib.hid he
  clear he
  go_enter Tryd.func17, Tryd.ntmps17
  go_wp2_with (go_at_call 35; refine (impl_divided _ hl HE.out.most).mono ?_; rintro e W1 ⟨v, rfl, ho, hb1⟩; refine Hid.out ?_)
  refine Lib.hid ?_
  generalize hps : partsC l = ps at ho hpl
  have HPS := Lib.hid hps
  clear hps
  obtain ⟨A, c, rfl, hsh⟩ := row_shape ho
  replace ho : OwT W1 w.heap.size (.slice A ps.length c) ps := by
    rw [txs_length] at ho; exact ho
  rw [txs_length]
  clear hsh
  go_wp2
  go_loopw [4, 12] (fun o i w' => ∃ k : Nat, k ≤ ps.length ∧ OfI w' w.heap.size o ((ps.take k).map readV) ∧ OwT w' w.heap.size (.slice A ps.length c) ps ∧ Hid (((Value.slice A ps.length c).ownBlock = none ∨ (Value.slice A ps.length c).ownBlock ≠ o.ownBlock) ∧ (ps.take k).all readC = true) ∧ i = .int .i64 (k : Nat) ∧ Below w.heap.size w w') (fun _ i _ => ps.length - (intOf i).toNat)
  case atStart => exact ⟨0, by omega, OwI.nil _ _ _, ho, Lib.hid ⟨by cases (Value.slice A ps.length c).ownBlock <;> simp [Value.ownBlock], rfl⟩, rfl, hb1⟩
  case round =>
    clear ho hb1
    obtain ⟨k, hk, hout, ho, hH, rfl, hb⟩ := hrel
    obtain ⟨hap, hall⟩ := hH.out
    by_cases hlt : k < ps.length
    · obtain ⟨g, c', x, hv, hx, hcell⟩ := part_at ho hlt
      cases hv
      have hxl : x.length ≤ 1048576 := Nat.le_trans (parts_most (by rw [HPS.out]; exact List.mem_of_getElem? hx)) hl
      obtain ⟨a1, a2⟩ := allR_take hx hall
      have hsn := snocT hx
      have henv := HE.out.env.below hb
      have H1 := Lib.hid a1
      have H2 := Lib.hid a2
      have HS := Lib.hid hsn
      have HA := Lib.hid hap
      have HV := Lib.hid henv
      clear a1 a2 hsn hx hall hap hH henv
      cases c1 : readC x
      · go_wp2_with (go_at_call 15; refine (impl_ReadDecimal _ hxl HV.out).mono ?_; rintro e W2 ⟨rfl, hb2⟩)
        go_ret2
        have hno : lstC l = false := by rw [lstC, HPS.out, H2.out c1, Bool.and_false]
        exact ⟨.slice none 0 0, by rw [hno]; rfl, by rw [lstV_no hno]; exact OwI.nil _ _ _, below_next hb hb.size hb2⟩
      · go_wp2_with (go_at_call 15; refine (impl_ReadDecimal _ hxl HV.out).mono ?_; rintro e W2 ⟨rfl, hb2⟩; refine Hid.out ?_)
        refine Lib.hid ?_
        have ho2 := row_below ho hb2
        have hout2 := hout.below hb2
        have hB2 := below_next hb hb.size hb2
        clear ho hout hcell hb hb2
        go_wp2_with (at_builtin; refine ap_val w.heap.size rfl _ _ 24 2 (.int .i64 0) 8 rfl Tryd.underlying24 info_i64 rfl (by decide) u4 (intv ((ps.take k).map readV)) (.int .i64 (readV x)) rfl rfl rfl hout2.row hB2.size (by rw [intv_length, List.length_map, List.length_take]; omega) ?_; intro v1 W3 hown hg hat)
        rw [intv_snoc, ← HS.out] at hown
        have HB : Below w.heap.size w W3 := hB2.grown hg hB2.size (fun q hq => hout2.base q hq)
        have ho3 : OwT W3 w.heap.size (.slice (some ⟨g, 0, none⟩) ps.length c) ps := ho2.kept hg HA.out
        have hap3 : (Value.slice (some ⟨g, 0, none⟩) ps.length c).ownBlock = none ∨ (Value.slice (some ⟨g, 0, none⟩) ps.length c).ownBlock ≠ v1.ownBlock := by
          rcases hat with e | ⟨b, e, hbb⟩
          · rw [e]; exact HA.out
          · exact own_apart (Bj := W2.heap.size) (m := W2.heap.size) (fun k e' => (row_lt ho2 k e').2) (fun k e' => by rw [e] at e'; cases e'; exact hbb) (Nat.le_refl _)
        exact ⟨⟨k + 1, by omega, ofI_of hown, ho3, Lib.hid ⟨hap3, by rw [H1.out, c1]⟩, by go_num, HB⟩, by simp [intOf]; omega⟩
    · obtain rfl : k = ps.length := by omega
      rw [List.take_length] at hout hall
      have hit := items_eq hall
      obtain ⟨A4, c4, rfl⟩ := hout.shape
      have hrd := hout.rd rfl
      have hnl : (ps.map readV).length ≤ 1073741824 := by rw [List.length_map]; omega
      have C := fun c W h => impl_areItems (A := A4) (n := (ps.map readV).length) (c := c) (xs := ps.map readV) W h hnl
      rw [hit] at C
      have HO := Lib.hid hout
      have HI := Lib.hid hit
      have HL := Lib.hid hall
      have hmap : (ps.map readV).length = ps.length := List.length_map ..
      clear hit hout hall hH hap
      generalize hxs : ps.map readV = xs at *
      have HX := Lib.hid hxs
      clear hxs hmap
      cases h64 : decide (ps.length ≤ 64)
      · rw [h64] at C
        go_wp2_with (go_at_call 29; refine (C _ _ hrd).mono ?_; rintro e w2 ⟨rfl, rfl⟩)
        go_ret2
        have hno : lstC l = false := by rw [lstC, HPS.out, h64]; rfl
        exact ⟨.slice none 0 0, by rw [hno]; rfl, by rw [lstV_no hno]; exact OwI.nil _ _ _, hb⟩
      · rw [h64] at C
        go_wp2_with (go_at_call 29; refine (C _ _ hrd).mono ?_; rintro e w2 ⟨rfl, rfl⟩)
        go_ret2
        have hyes : lstC l = true := by rw [lstC, HPS.out, HL.out, h64]; rfl
        exact ⟨_, by rw [hyes]; rfl, by rw [lstV_yes hyes, HPS.out, HX.out]; exact HO.out, hb⟩
end Go.Proofs.YtajnncidkmafgaaDoor
