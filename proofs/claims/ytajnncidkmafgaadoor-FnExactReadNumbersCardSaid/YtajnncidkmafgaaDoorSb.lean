/- Lists of whole numbers, read from texts: the walks. Conditions: none beside the contracts' own. -/
import Derived.Test.YtajnncidkmafgaaDoorSa
set_option linter.unusedVariables false
set_option linter.unusedSimpArgs false
namespace Go.Proofs.YtajnncidkmafgaaDoor
open Go.RowKit
def lstC (l : List UInt8) : Bool := decide ((partsC l).length ≤ 64) && (partsC l).all readC
def lstV (l : List UInt8) : List Int := if lstC l = true then (partsC l).map readV else []
theorem lstV_yes {l : List UInt8} (h : lstC l = true) : lstV l = (partsC l).map readV := by rw [lstV, if_pos h]
theorem lstV_no {l : List UInt8} (h : lstC l = false) : lstV l = [] := by rw [lstV, h]; rfl
theorem lstV_len (l : List UInt8) : (lstV l).length ≤ 64 := by
  cases h : lstC l
  · rw [lstV_no h]; simp
  · rw [lstV_yes h, List.length_map]
    simp only [lstC, Bool.and_eq_true, decide_eq_true_eq] at h
    exact h.1
theorem allR_take {xs : List (List UInt8)} {k : Nat} {x : List UInt8} (hx : xs[k]? = some x) (h : (xs.take k).all readC = true) : (xs.take (k + 1)).all readC = readC x ∧ (readC x = false → xs.all readC = false) := by
  obtain ⟨hk, rfl⟩ := List.getElem?_eq_some_iff.1 hx
  refine ⟨by rw [take_snoc xs k hk, List.all_append, h]; simp, fun hp => ?_⟩
  rw [List.all_eq_false]
  exact ⟨_, List.getElem_mem hk, by rw [hp]; decide⟩
theorem read_fit (l : List UInt8) (h : readC l = true) : inC (readV l) (-1000000000000000) 1000000000000000 = true := by
  have := (readC_iff.1 h).1
  rw [readV, if_pos h]; exact this
theorem snocT {xs : List (List UInt8)} {k : Nat} {x : List UInt8} (hx : xs[k]? = some x) : (xs.take (k + 1)).map readV = (xs.take k).map readV ++ [readV x] := by
  obtain ⟨hk, rfl⟩ := List.getElem?_eq_some_iff.1 hx
  rw [take_snoc xs k hk, List.map_append]; rfl
theorem txs_get {ls : List (List UInt8)} {j : Nat} {x : List UInt8} (h : ls[j]? = some x) : (txs ls)[j]? = some (tx x) := by simp [txs, h]
/-- The part at a place, in memory. -/
theorem part_at {w : World} {B : Nat} {v : Value} {ls : List (List UInt8)} (h : OwT w B v ls) {k : Nat} (hk : k < ls.length) : ∃ g c x, v = .slice (some ⟨g, 0, none⟩) ls.length c ∧ ls[k]? = some x ∧ w.cell? ⟨g, k, none⟩ = some (tx x) := by
  obtain ⟨A, c, rfl, hc⟩ := row_shape h
  obtain ⟨g, rfl, _, _, _, hcell⟩ := hc (by intro e; have := congrArg List.length e; rw [txs_length] at this; have h0 : ls.length = 0 := this; omega)
  have hx : ls[k]? = some ls[k] := List.getElem?_eq_getElem hk
  exact ⟨g, c, ls[k], by rw [txs_length], hx, hcell k _ (txs_get hx)⟩
theorem intv_snoc (xs : List Int) (x : Int) : intv xs ++ [.int .i64 x] = intv (xs ++ [x]) := by simp [intv]
theorem ofI_of {w : World} {B : Nat} {v : Value} {xs : List Int} (h : w.ownsRow B 2 1 v (intv xs).length (intv xs)) : OfI w B v xs := ⟨by rw [← intv_length]; exact h⟩
theorem OwI.row {w : World} {B : Nat} {v : Value} {xs : List Int} (h : OfI w B v xs) : w.ownsRow B 2 1 v (intv xs).length (intv xs) := by rw [intv_length]; exact h.own
theorem row_low {w : World} {B B' n : Nat} {e : TypeId} {v : Value} {l : List Value} (h : w.ownsRow B e 1 v n l) (hb : B' ≤ B) : w.ownsRow B' e 1 v n l := Joins.ownsRow_le h hb
set_option maxHeartbeats 800000 in
theorem spec_l01Numbers {l : List UInt8} (w : World) (hl : l.length ≤ 1048576) :
    Calls Tryd.prog 34 #[tx l] w fun e w' => ∃ v, e = .returned (.tuple #[v, .bool (lstC l)]) ∧ OfI w' w.heap.size v (lstV l) ∧ Below w.heap.size w w' := by
  by_cases hn : l = noneL
  · have hp : partsC l = [] := by rw [partsC, if_pos hn]
    have h1 : lstC l = true := by rw [lstC, hp]; rfl
    have h2 : lstV l = [] := by rw [lstV_yes h1, hp]; rfl
    rw [h1, h2]
    subst hn
    clear hp h1 h2
    unfold noneL
    go_enter Tryd.func34, Tryd.ntmps34
    go_wp2
    go_ret2
    exact ⟨_, rfl, ofI_of (World.ownsRow_lit (base := w.heap.size) (e := 2) (size := 1) w #[] 0 (Nat.le_refl _) (Nat.zero_le _) (by simp)), (Below.refl _ _).alloc (Nat.le_refl _) _⟩
  · have hne : (l == [110, 111, 110, 101]) = false := by rw [beq_eq_false_iff_ne]; exact hn
    have hp : partsC l = cutT 44 l := by rw [partsC, if_neg hn]
    have hw0 : w.heap.size ≤ (w.alloc (.cells #[] 2)).heap.size := by simp
    have HN := Lib.hid hn
    have HP := Lib.hid hp
    clear hn hp
    go_enter Tryd.func34, Tryd.ntmps34
    go_wp2_with (go_at_call 45; refine (spec_l01Cut _ hl).mono ?_; rintro e W1 ⟨v, rfl, ho, hb⟩; refine Hid.out ?_)
    refine Lib.hid ?_
    have hb1 : Below w.heap.size w W1 := ((Below.refl _ _).alloc (Nat.le_refl _) _).trans (hb.mono hw0)
    have hbase : ∀ k, v.ownBlock = some k → w.heap.size + 1 ≤ k := fun k hk => by have := (row_lt ho k hk).1; simpa using this
    replace ho := row_low ho hw0
    have hout0 : OfI W1 w.heap.size (.slice (some ⟨w.heap.size, 0, none⟩) 0 0) [] := (ofI_of (World.ownsRow_lit (base := w.heap.size) (e := 2) (size := 1) w #[] 0 (Nat.le_refl _) (Nat.zero_le _) (by simp))).below hb
    clear hb
    generalize hps : cutT 44 l = ps at ho
    have HPS := Lib.hid hps
    clear hps
    by_cases h64 : ps.length ≤ 64
    · obtain ⟨A, c, rfl, hsh⟩ := row_shape ho
      rw [txs_length]
      rw [txs_length] at hbase
      replace ho : OwT W1 w.heap.size (.slice A ps.length c) ps := by
        rw [txs_length] at ho; unfold OwT; rw [txs_length]; exact ho
      clear hsh
      go_wp2
      go_loopw [4, 6] (fun o i w' => ∃ k : Nat, k ≤ ps.length ∧ OfI w' w.heap.size o ((ps.take k).map readV) ∧ OwT w' w.heap.size (.slice A ps.length c) ps ∧ Hid (((Value.slice A ps.length c).ownBlock = none ∨ (Value.slice A ps.length c).ownBlock ≠ o.ownBlock) ∧ (ps.take k).all readC = true) ∧ i = .int .i64 (k : Nat) ∧ Below w.heap.size w w') (fun _ i _ => ps.length - (intOf i).toNat)
      case atStart => exact ⟨0, by omega, hout0, ho, Lib.hid ⟨own_apart' (Bi := w.heap.size + 1) (m := w.heap.size + 1) hbase (fun k hk => by simp [Value.ownBlock] at hk; omega) (Nat.le_refl _), rfl⟩, rfl, hb1⟩
      case round =>
        clear ho hout0 hb1
        obtain ⟨k, hk, hout, ho, hH, rfl, hb⟩ := hrel
        obtain ⟨hap, hall⟩ := hH.out
        by_cases hlt : k < ps.length
        · obtain ⟨g, c', x, hv, hx, hcell⟩ := part_at ho hlt
          cases hv
          have hxl : x.length ≤ 1048576 := Nat.le_trans (cut_most (m := 44) (l := l) (by rw [HPS.out]; exact List.mem_of_getElem? hx)) hl
          obtain ⟨a1, a2⟩ := allR_take hx hall
          have hsn := snocT hx
          have H1 := Lib.hid a1
          have H2 := Lib.hid a2
          have HS := Lib.hid hsn
          have HA := Lib.hid hap
          clear a1 a2 hsn hx hall hap hH
          cases c1 : readC x
          · go_wp2_with (go_at_call 31; refine (spec_l01Value _ (by omega)).mono ?_; rintro e W2 ⟨rfl, hb2⟩)
            go_ret2
            have hno : lstC l = false := by rw [lstC, HP.out, HPS.out, H2.out c1, Bool.and_false]
            exact ⟨.slice none 0 0, by rw [hno]; rfl, by rw [lstV_no hno]; exact OwI.nil _ _ _, below_next hb hb.size hb2⟩
          · go_wp2_with (go_at_call 31; refine (spec_l01Value _ (by omega)).mono ?_; rintro e W2 ⟨rfl, hb2⟩; refine Hid.out ?_)
            refine Lib.hid ?_
            have ho2 := row_below ho hb2
            have hout2 := hout.below hb2
            have hB2 := below_next hb hb.size hb2
            clear ho hout hcell hb hb2
            go_wp2_with (at_builtin; refine ap_val w.heap.size rfl _ _ 24 2 (.int .i64 0) 8 rfl Tryd.underlying24 info_i64 rfl (by decide) u4 (intv ((ps.take k).map readV)) (.int .i64 (readV x)) rfl rfl rfl hout2.row hB2.size (by rw [intv_length, List.length_map, List.length_take]; omega) ?_; intro v1 W3 hown hg hat)
            rw [intv_snoc, ← HS.out] at hown
            have HB : Below w.heap.size w W3 := hB2.grown hg hB2.size (fun q hq => hout2.base q hq)
            have ho3 : OwT W3 w.heap.size (.slice (some ⟨g, 0, none⟩) ps.length c) ps := ho2.kept hg HA.out
            have hap3 : (Value.slice (some ⟨g, 0, none⟩) ps.length c).ownBlock = none ∨ (Value.slice (some ⟨g, 0, none⟩) ps.length c).ownBlock ≠ v1.ownBlock := by
              rcases hat with e | ⟨b, e, hbb⟩
              · rw [e]; exact HA.out
              · exact own_apart (Bj := W2.heap.size) (m := W2.heap.size) (fun k e' => (row_lt ho2 k e').2) (fun k e' => by rw [e] at e'; cases e'; exact hbb) (Nat.le_refl _)
            exact ⟨⟨k + 1, by omega, ofI_of hown, ho3, Lib.hid ⟨hap3, by rw [H1.out, c1]⟩, by go_num, HB⟩, by simp [intOf]; omega⟩
        · obtain rfl : k = ps.length := by omega
          rw [List.take_length] at hout hall
          go_wp2
          go_ret2
          have hyes : lstC l = true := by rw [lstC, HP.out, HPS.out, hall, decide_eq_true h64]; rfl
          exact ⟨u4, by rw [hyes]; rfl, by rw [lstV_yes hyes, HP.out, HPS.out]; exact hout, hb⟩
    · obtain ⟨A, c, rfl, hsh⟩ := row_shape ho
      rw [txs_length]
      clear hsh hbase ho hout0
      have hno : lstC l = false := by rw [lstC, HP.out, HPS.out, decide_eq_false h64]; rfl
      have HNO := Lib.hid hno
      clear hno
      go_wp2
      go_ret2
      exact ⟨.slice none 0 0, by rw [HNO.out]; rfl, by rw [lstV_no HNO.out]; exact OwI.nil _ _ _, hb1⟩
theorem spec_ReadList {l : List UInt8} (w : World) (hl : l.length ≤ 1048576) :
    Calls Tryd.prog 16 #[tx l] w fun e w' => ∃ v, e = .returned (.tuple #[v, .bool (lstC l)]) ∧ OfI w' w.heap.size v (lstV l) ∧ Below w.heap.size w w' := by
  go_enter Tryd.func16, Tryd.ntmps16
  go_wp2_with (go_at_call 34; refine (spec_l01Numbers _ hl).mono ?_; rintro e w' ⟨v, rfl, ho, hb⟩)
  go_ret2
  exact ⟨_, rfl, ho, hb⟩
end Go.Proofs.YtajnncidkmafgaaDoor
