/- Lists of numbers, read from texts: the reference's walk. Conditions: none beside the contracts' own. -/
import Derived.Test.YtajnncidkmafgaaDoorTa
import Derived.Test.YtajnncidkmafgaaDoorSb
set_option linter.unusedVariables false
set_option linter.unusedSimpArgs false
namespace Go.Proofs.YtajnncidkmafgaaDoor
open Go.RowKit
def numC (l : List UInt8) : Bool := decide ((partsC l).length ≤ 256) && (partsC l).all readH
def numV (l : List UInt8) : List (Option Nat) := if numC l = true then (partsC l).map valH else []
theorem numV_yes {l : List UInt8} (h : numC l = true) : numV l = (partsC l).map valH := by rw [numV, if_pos h]
theorem numV_no {l : List UInt8} (h : numC l = false) : numV l = [] := by rw [numV, h]; rfl
theorem numV_len (l : List UInt8) : (numV l).length ≤ 256 := by
  cases h : numC l
  · rw [numV_no h]; simp
  · rw [numV_yes h, List.length_map]
    simp only [numC, Bool.and_eq_true, decide_eq_true_eq] at h
    exact h.1
theorem allH_take {xs : List (List UInt8)} {k : Nat} {x : List UInt8} (hx : xs[k]? = some x) (h : (xs.take k).all readH = true) : (xs.take (k + 1)).all readH = readH x ∧ (readH x = false → xs.all readH = false) := by
  obtain ⟨hk, rfl⟩ := List.getElem?_eq_some_iff.1 hx
  refine ⟨by rw [take_snoc xs k hk, List.all_append, h]; simp, fun hp => ?_⟩
  rw [List.all_eq_false]
  exact ⟨_, List.getElem_mem hk, by rw [hp]; decide⟩
theorem snocH {xs : List (List UInt8)} {k : Nat} {x : List UInt8} (hx : xs[k]? = some x) : (xs.take (k + 1)).map valH = (xs.take k).map valH ++ [valH x] := by
  obtain ⟨hk, rfl⟩ := List.getElem?_eq_some_iff.1 hx
  rw [take_snoc xs k hk, List.map_append]; rfl
theorem clss_one {zs : List Nat} {r : Nat} {X : Option Nat} (h : Fl .f32 r X) : clss (zs ++ [r]) = clss zs ++ [X] := by rw [clss_append]; simp [clss, h.cl]
theorem no_num {w w' : World} {b : Bool} (hb : Below w.heap.size w w') : RSB [] b w (.returned (.tuple #[.slice none 0 0, .bool b])) w' :=
  ⟨_, [], rfl, Ow.nil _ _ _, rfl, by simp, hb⟩
theorem from_nat {n : Nat} (h : n < 4294967296) (w : World) : Calls Tryd.prog 47 #[.int .i64 (n : Int)] w fun e w' => e = .returned (.float .f32 n) ∧ w = w' := by
  go_enter Tryd.func47, Tryd.ntmps47
  go_wp2
  go_ret
  exact ⟨rfl, rfl⟩
theorem bits_below {x : Nat} {X : Option Nat} (hx : Fl .f32 x X) (w : World) : Calls Tryd.prog 48 #[.float .f32 x] w fun e w' => e = .returned (.int .i64 (bitsC X)) ∧ Below w.heap.size w w' :=
  (spec_l01Bits hx w).mono fun e w' ⟨h1, n, h2⟩ => ⟨h1, by rw [h2]; exact below_draws w n⟩
set_option maxHeartbeats 1600000 in
theorem spec_l01NRead {l : List UInt8} (w : World) (hl : l.length ≤ 1048576) :
    Calls Tryd.prog 36 #[tx l] w (RSB (numV l) (numC l) w) := by
  by_cases hn : l = noneL
  · have hp : partsC l = [] := by rw [partsC, if_pos hn]
    have h1 : numC l = true := by rw [numC, hp]; rfl
    have h2 : numV l = [] := by rw [numV_yes h1, hp]; rfl
    rw [h1, h2]
    subst hn
    clear hp h1 h2
    unfold noneL
    go_enter Tryd.func36, Tryd.ntmps36
    go_wp2
    go_ret2
    exact ⟨_, [], rfl, Ow.empty _ _ _ (Nat.le_refl _), rfl, by simp, (Below.refl _ _).alloc (Nat.le_refl _) _⟩
  · have hne : (l == [110, 111, 110, 101]) = false := by rw [beq_eq_false_iff_ne]; exact hn
    have hp : partsC l = cutT 44 l := by rw [partsC, if_neg hn]
    have hw0 : w.heap.size ≤ (w.alloc (.cells #[] 50)).heap.size := by simp
    have HN := Lib.hid hn
    have HP := Lib.hid hp
    clear hn hp
    go_enter Tryd.func36, Tryd.ntmps36
    go_wp2_with (go_at_call 45; refine (spec_l01Cut _ hl).mono ?_; rintro e W1 ⟨v, rfl, ho, hb⟩; refine Hid.out ?_)
    refine Lib.hid ?_
    have hb1 : Below w.heap.size w W1 := ((Below.refl _ _).alloc (Nat.le_refl _) _).trans (hb.mono hw0)
    have hbase : ∀ k, v.ownBlock = some k → w.heap.size + 1 ≤ k := fun k hk => by have := (row_lt ho k hk).1; simpa using this
    replace ho : OwT W1 w.heap.size v (cutT 44 l) := row_low ho hw0
    have hout0 : Of W1 w.heap.size (.slice (some ⟨w.heap.size, 0, none⟩) 0 0) [] := (Ow.empty _ _ _ (Nat.le_refl _)).below hb
    clear hb
    generalize hps : cutT 44 l = ps at ho
    have HPS := Lib.hid hps
    clear hps
    by_cases h64 : ps.length ≤ 256
    · obtain ⟨A, c, rfl, hsh⟩ := row_shape ho
      rw [txs_length]
      rw [txs_length] at ho hbase
      clear hsh
      go_wp2
      go_loopw [4, 6] (fun o i w' => ∃ (k : Nat) (zs : List Nat), k ≤ ps.length ∧ zs.length = k ∧ Of w' w.heap.size o zs ∧ OwT w' w.heap.size (.slice A ps.length c) ps ∧ Hid (((Value.slice A ps.length c).ownBlock = none ∨ (Value.slice A ps.length c).ownBlock ≠ o.ownBlock) ∧ (ps.take k).all readH = true ∧ clss zs = (ps.take k).map valH) ∧ i = .int .i64 (k : Nat) ∧ Below w.heap.size w w') (fun _ i _ => ps.length - (intOf i).toNat)
      case atStart => exact ⟨0, [], by omega, rfl, hout0, ho, Lib.hid ⟨own_apart' (Bi := w.heap.size + 1) (m := w.heap.size + 1) hbase (fun k hk => by simp [Value.ownBlock] at hk; omega) (Nat.le_refl _), rfl, rfl⟩, rfl, hb1⟩
      case round =>
        clear ho hout0 hb1
        obtain ⟨k, zs, hk, hzl, hout, ho, hH, rfl, hb⟩ := hrel
        obtain ⟨hap, hall, hcl⟩ := hH.out
        by_cases hlt : k < ps.length
        · obtain ⟨g, c', x, hv, hx, hcell⟩ := part_at ho hlt
          cases hv
          obtain ⟨a1, a2⟩ := allH_take hx hall
          have hsn := snocH hx
          have hno : readH x = false → numC l = false := fun c1 => by rw [numC, HP.out, HPS.out, a2 c1, Bool.and_false]
          have H1 := Lib.hid a1
          have HNO := Lib.hid hno
          have HS := Lib.hid hsn
          have HA := Lib.hid hap
          have HC := Lib.hid hcl
          clear a1 a2 hsn hx hall hap hH hno hcl
          have fin : readH x = false → (e : Ending) → e = .returned (.tuple #[.slice none 0 0, .bool false]) → ∀ w', Below w.heap.size w w' → RSB (numV l) (numC l) w e w' := fun c1 e he w' hb' => by
            rw [he, HNO.out c1, numV_no (HNO.out c1)]; exact no_num hb'
          have FIN := Lib.hid fin
          clear fin
          by_cases h8 : x.length = 8
          · go_wp2
            go_loopw [7, 8] (fun m j w' => ∃ (q n : Nat), q ≤ 8 ∧ hexNum (x.take q) = some n ∧ m = .int .i64 (n : Int) ∧ j = .int .i64 (q : Nat) ∧ w' = wr) (fun _ j _ => 8 - (intOf j).toNat)
            case atStart => exact ⟨0, 0, by omega, rfl, rfl, rfl, rfl⟩
            case round =>
              obtain ⟨q, n, hq, hnum, rfl, rfl, rfl⟩ := hrel
              by_cases hq8 : q < 8
              · have hkl : q < x.length := by omega
                have hxq : x[q]? = some x[q] := List.getElem?_eq_getElem hkl
                have hix := run_ix hxq
                have hsn : hexNum (x.take (q + 1)) = hstep (some n) x[q] := by rw [List.take_succ_eq_append_getElem hkl, hexNum_snoc, hnum]
                have hbn := hexNum_lt hnum
                have hpow : 16 ^ (x.take q).length ≤ 16 ^ 7 := Nat.pow_le_pow_right (by decide) (by rw [List.length_take]; omega)
                have e7 : (16 : Nat) ^ 7 = 268435456 := by decide
                have hb2 : n < 268435456 := by omega
                have hc := x[q].toNat_lt
                generalize x[q] = b at *
                have HX := Lib.hid hxq
                clear hxq hbn hpow e7 hnum
                cases hv : hexV b with
                | none =>
                  have hrx : readH x = false := readH_none (hexNum_none (k := q + 1) (by rw [hsn, hstep_bad _ hv]))
                  have hd1 : ¬ (48 ≤ b.toNat ∧ b.toNat ≤ 57) := fun h => by rw [hexV, if_pos h] at hv; cases hv
                  have hd2 : ¬ (97 ≤ b.toNat ∧ b.toNat ≤ 102) := fun h => by rw [hexV, if_neg hd1, if_pos h] at hv; cases hv
                  have HR := Lib.hid hrx
                  clear hrx hsn hv
                  go_wp2
                  all_goals (go_ret2; exact FIN.out HR.out _ rfl _ hb)
                | some d =>
                  have hd := hexV_lt hv
                  rw [hstep_some n hv] at hsn
                  have HSN := Lib.hid hsn
                  clear hsn
                  by_cases hd1 : 48 ≤ b.toNat ∧ b.toNat ≤ 57
                  · have hdv : d = b.toNat - 48 := by rw [hexV, if_pos hd1] at hv; exact (Option.some.inj hv).symm
                    have HD := Lib.hid hdv
                    clear hdv hv
                    go_wp2
                    all_goals exact ⟨⟨q + 1, 16 * n + d, by omega, HSN.out, by have := HD.out; congr 1; omega, by go_num, trivial⟩, by simp [intOf]; omega⟩
                  · have hd2 : 97 ≤ b.toNat ∧ b.toNat ≤ 102 := by
                      rw [hexV, if_neg hd1] at hv
                      split at hv
                      · assumption
                      · cases hv
                    have hdv : d = b.toNat - 97 + 10 := by rw [hexV, if_neg hd1, if_pos hd2] at hv; exact (Option.some.inj hv).symm
                    have HD := Lib.hid hdv
                    clear hdv hv
                    go_wp2
                    all_goals exact ⟨⟨q + 1, 16 * n + d, by omega, HSN.out, by have := HD.out; congr 1; omega, by go_num, trivial⟩, by simp [intOf]; omega⟩
              · obtain rfl : q = 8 := by omega
                rw [List.take_of_length_le (by omega)] at hnum
                have hnb := hex_bound h8 hnum
                have hxf : Fl .f32 n (cls .f32 n) := Fl.self (by show _ < 4294967296; omega)
                have hrh := readH_some h8 hnum
                have hvh := valH_some hnum
                have HV := Lib.hid hvh
                clear hnum hvh
                by_cases hq2 : bitsC (cls .f32 n) = (n : Int)
                · have hyes : readH x = true := by rw [hrh, decide_eq_true hq2]
                  have HY := Lib.hid hyes
                  clear hrh hyes
                  go_wp2_with (first | (go_at_call 47; refine (from_nat hnb _).mono ?_; rintro e w' ⟨rfl, rfl⟩) | (go_at_call 48; refine (bits_below hxf _).mono ?_; rintro e W2 ⟨rfl, hb2⟩; refine Hid.out ?_))
                  refine Lib.hid ?_
                  have ho2 := row_below ho hb2
                  have hout2 := hout.below hb2
                  have hB2 := below_next hb hb.size hb2
                  clear ho hout hcell hb hb2
                  go_wp2_with (at_builtin; refine ap_float w.heap.size rfl _ _ 36 50 rfl Tryd.underlying36 info_f32 u4 zs n rfl rfl hout2 hxf.wf hB2 hB2.size (by omega) ?_; intro v1 W3 ho3 hB3 hg hat)
                  have hp3 : OwT W3 w.heap.size (.slice (some ⟨g, 0, none⟩) ps.length c) ps := ho2.kept hg HA.out
                  have hap3 : (Value.slice (some ⟨g, 0, none⟩) ps.length c).ownBlock = none ∨ (Value.slice (some ⟨g, 0, none⟩) ps.length c).ownBlock ≠ v1.ownBlock := by
                    rcases hat with e | ⟨b, e, hbb⟩
                    · rw [e]; exact HA.out
                    · exact own_apart (Bj := W2.heap.size) (m := W2.heap.size) (fun k e' => (row_lt ho2 k e').2) (fun k e' => by rw [e] at e'; cases e'; exact hbb) (Nat.le_refl _)
                  exact ⟨⟨k + 1, zs ++ [n], by omega, by rw [List.length_append, hzl]; rfl, ho3, hp3, Lib.hid ⟨hap3, by rw [H1.out, HY.out], by rw [clss_one hxf, HC.out, HS.out, HV.out]⟩, by go_num, hB3⟩, by simp [intOf]; omega⟩
                · have hno : readH x = false := by rw [hrh, decide_eq_false hq2]
                  have hqb : (bitsC (cls .f32 n) != (n : Int)) = true := by rw [bne_iff_ne]; exact hq2
                  have HY := Lib.hid hno
                  clear hrh hno hq2
                  go_wp2_with (first | (go_at_call 47; refine (from_nat hnb _).mono ?_; rintro e w' ⟨rfl, rfl⟩) | (go_at_call 48; refine (bits_below hxf _).mono ?_; rintro e W2 ⟨rfl, hb2⟩))
                  go_ret2
                  exact FIN.out HY.out _ rfl _ (below_next hb hb.size hb2)
          · have hno := readH_len h8
            have HY := Lib.hid hno
            have h8b : ((x.length : Int) != 8) = true := by rw [bne_iff_ne]; omega
            clear hno
            go_wp2
            go_ret2
            exact FIN.out HY.out _ rfl _ hb
        · obtain rfl : k = ps.length := by omega
          rw [List.take_length] at hall hcl
          go_wp2
          go_ret2
          have hyes : numC l = true := by rw [numC, HP.out, HPS.out, hall, decide_eq_true h64]; rfl
          exact ⟨u4, zs, by rw [hyes]; rfl, hout, by rw [numV_yes hyes, HP.out, HPS.out, hcl], by omega, hb⟩
    · obtain ⟨A, c, rfl, hsh⟩ := row_shape ho
      rw [txs_length]
      clear hsh hbase ho hout0
      have hno : numC l = false := by rw [numC, HP.out, HPS.out, decide_eq_false h64]; rfl
      have HNO := Lib.hid hno
      clear hno
      go_wp2
      go_ret2
      rw [HNO.out, numV_no HNO.out]
      exact no_num hb1
theorem spec_ReadNumbers {l : List UInt8} (w : World) (hl : l.length ≤ 1048576) : Calls Tryd.prog 20 #[tx l] w (RSB (numV l) (numC l) w) := by
  go_enter Tryd.func20, Tryd.ntmps20
  go_wp2_with (go_at_call 36; refine (spec_l01NRead _ hl).mono ?_; rintro e w' ⟨v, zs, rfl, ho, hz, hzl, hb⟩)
  go_ret2
  exact ⟨_, _, rfl, ho, hz, hzl, hb⟩
end Go.Proofs.YtajnncidkmafgaaDoor
