/- Texts cut at a mark: the walks. Conditions: none beside the contracts' own. -/
import Derived.Test.YtajnncidkmafgaaDoorS0
import Derived.Test.YtajnncidkmafgaaDoorRb
set_option linter.unusedVariables false
set_option linter.unusedSimpArgs false
namespace Go.Proofs.YtajnncidkmafgaaDoor
open Go.RowKit
theorem run_sl {l : List UInt8} {f k : Nat} (hf : f ≤ k) (hk : k ≤ l.length) (W : World) : (Instr.slice 9 (tx l) (some (.int .i64 (f : Int))) (some (.int .i64 (k : Int))) none).run Tryd.prog W = .ok (tx ((l.drop f).take (k - f))) W := by
  have hs : (ByteArray.mk l.toArray).size = l.length := by show l.toArray.size = _; simp
  rw [run_slice_string W 9 _ .i64 .i64 _ _ Tryd.underlying9 (by omega) (by omega) (by rw [hs]; omega)]
  rw [show ((f : Int)).toNat = f by omega, show ((k : Int)).toNat = k by omega, ByteArray.extract_mk]
theorem cur_next {l : List UInt8} {f k : Nat} (hf : f ≤ k) (hk : k < l.length) : (l.drop f).take (k - f) ++ [l[k]] = (l.drop f).take (k + 1 - f) := by
  have h1 : k - f < (l.drop f).length := by rw [List.length_drop]; omega
  rw [show k + 1 - f = (k - f) + 1 by omega, List.take_succ_eq_append_getElem h1]
  congr 2
  rw [List.getElem_drop]
  congr 1; omega
set_option maxHeartbeats 800000 in
theorem spec_l01Cut {l : List UInt8} (w : World) (hl : l.length ≤ 1048576) :
    Calls Tryd.prog 45 #[tx l, .int .u8 44] w fun e w' => ∃ v, e = .returned v ∧ OwT w' w.heap.size v (cutT 44 l) ∧ Below w.heap.size w w' := by
  have hcl := cutG_length 44 l []
  have HC := Lib.hid (show (cutT 44 l).length ≤ 1048577 by unfold cutT; omega)
  clear hcl
  go_enter Tryd.func45, Tryd.ntmps45
  go_wp2
  go_loopw [5, 6, 7] (fun v f i w' => ∃ (k q : Nat) (out : List (List UInt8)), k ≤ l.length + 1 ∧ OwT w' w.heap.size v out ∧ f = .int .i64 (q : Nat) ∧ i = .int .i64 (k : Nat) ∧ Hid (k ≤ l.length → q ≤ k ∧ cutT 44 l = out ++ cutG 44 ((l.drop q).take (k - q)) (l.drop k)) ∧ Hid (l.length < k → out = cutT 44 l) ∧ Below w.heap.size w w')
    (fun _ _ i _ => l.length + 1 - (intOf i).toNat)
  case atStart => exact ⟨0, 0, [], by omega, World.ownsRow_lit (base := w.heap.size) (e := 9) (size := 1) w #[] 0 (Nat.le_refl _) (Nat.zero_le _) (by simp), rfl, rfl, Lib.hid (fun _ => ⟨Nat.le_refl _, by simp [cutT]⟩), Lib.hid (fun h => by omega), (Below.refl _ _).alloc (Nat.le_refl _) _⟩
  case round =>
    obtain ⟨k, q, out, hk, ho, rfl, rfl, H1, H2, hb⟩ := hrel
    rcases Nat.lt_or_ge l.length k with hend | hgo
    · obtain rfl : k = l.length + 1 := by omega
      have e := H2.out (by omega)
      subst e
      go_wp2
      go_ret
      exact ⟨_, rfl, ho, hb⟩
    · obtain ⟨hq, hcut⟩ := H1.out hgo
      have hlen : out.length ≤ 1048577 := by
        have h1 := HC.out
        rw [hcut, List.length_append] at h1; omega
      have hsl := run_sl (l := l) hq hgo
      obtain ⟨cur, hcur⟩ : ∃ cur, cur = (l.drop q).take (k - q) := ⟨_, rfl⟩
      rw [← hcur] at hsl hcut
      have HQ := Lib.hid hcut
      have HU := Lib.hid hcur
      clear hcut hcur H1 H2
      rcases Nat.lt_or_ge k l.length with hlt | hge
      · obtain ⟨b, hbx⟩ : ∃ b, l[k]? = some b := ⟨_, List.getElem?_eq_getElem hlt⟩
        have hix := run_ix hbx
        have hdr : l.drop k = b :: l.drop (k + 1) := by
          rw [List.drop_eq_getElem_cons hlt]
          congr 1
          rw [List.getElem?_eq_getElem hlt] at hbx
          exact Option.some.inj hbx
        have HD := Lib.hid hdr
        have HB := Lib.hid (show l[k] = b by rw [List.getElem?_eq_getElem hlt] at hbx; exact Option.some.inj hbx)
        have hbl := b.toNat_lt
        clear hdr hbx
        by_cases hm : b = 44
        · subst hm
          go_wp2_with (at_builtin; refine ap_val w.heap.size rfl _ _ 48 9 (.string ByteArray.empty) 16 rfl Tryd.underlying48 info_str rfl (by decide) u5 (txs out) (tx cur) rfl rfl rfl ho hb.size (by rw [txs_length]; omega) ?_; intro v1 w2 hown hg hat)
          rw [txs_snoc] at hown
          have HBW : Below w.heap.size w w2 := hb.grown hg hb.size (fun z hz => (row_lt ho z hz).1)
          exact ⟨⟨k + 1, k + 1, out ++ [cur], by omega, hown, by go_num, by go_num, Lib.hid (fun h => ⟨Nat.le_refl _, by rw [HQ.out, HD.out, cutG, if_pos rfl]; simp⟩), Lib.hid (fun h => by omega), HBW⟩, by simp [intOf]; omega⟩
        · have hne : ((b.toNat : Int) == 44) = false := beq_eq_false_iff_ne.2 (fun e => hm (by apply UInt8.toNat_inj.1; show b.toNat = 44; omega))
          go_wp2
          exact ⟨⟨k + 1, q, out, by omega, ho, rfl, by go_num, Lib.hid (fun h => ⟨by omega, by rw [HQ.out, HD.out, cutG, if_neg hm, HU.out, ← HB.out, cur_next hq hlt]⟩), Lib.hid (fun h => by omega), hb⟩, by simp [intOf]; omega⟩
      · obtain rfl : k = l.length := by omega
        go_wp2_with (at_builtin; refine ap_val w.heap.size rfl _ _ 48 9 (.string ByteArray.empty) 16 rfl Tryd.underlying48 info_str rfl (by decide) u5 (txs out) (tx cur) rfl rfl rfl ho hb.size (by rw [txs_length]; omega) ?_; intro v1 w2 hown hg hat)
        rw [txs_snoc] at hown
        have HBW : Below w.heap.size w w2 := hb.grown hg hb.size (fun z hz => (row_lt ho z hz).1)
        exact ⟨⟨l.length + 1, l.length + 1, out ++ [cur], by omega, hown, by go_num, by go_num, Lib.hid (fun h => by omega), Lib.hid (fun h => by rw [HQ.out, List.drop_length, cutG]), HBW⟩, by simp [intOf] <;> omega⟩
/-- The text of an empty list. -/
def noneL : List UInt8 := [110, 111, 110, 101]
def partsC (l : List UInt8) : List (List UInt8) := if l = noneL then [] else cutT 44 l
/-- The library's bound, whatever it is. -/
abbrev MaxL (w : World) : Prop := ∃ m, w.cell? ⟨4, 0, none⟩ = some (.int .i64 m)
theorem MaxL.below {w w' : World} (h : MaxL w) (hb : Below w.heap.size w w') : MaxL w' := by
  obtain ⟨m, hm⟩ := h
  exact ⟨m, (hb.cell (World.block_lt_of_cell? w _ hm)).trans hm⟩
set_option maxHeartbeats 400000 in
theorem impl_divided {l : List UInt8} (w : World) (hl : l.length ≤ 1048576) (hm : MaxL w) :
    Calls Tryd.prog 35 #[tx l] w fun e w' => ∃ v, e = .returned v ∧ OwT w' w.heap.size v (partsC l) ∧ Below w.heap.size w w' := by
  unfold partsC
  by_cases hn : l = noneL
  · rw [if_pos hn]
    subst hn
    unfold noneL
    go_enter Tryd.func35, Tryd.ntmps35
    go_wp2
    go_ret
    exact ⟨_, rfl, World.ownsRow_nil _ _ _ _, Below.refl _ _⟩
  · rw [if_neg hn]
    obtain ⟨m, hc⟩ := hm
    have hsz : (ByteArray.mk l.toArray).size = l.length := by show l.toArray.size = _; simp
    have C := Tryd.strings_Split ⟨l.toArray⟩ ⟨#[44]⟩ m w (by omega) hc (by decide)
    rw [pieces 44 l] at C
    have hcount : Lib.countB ⟨l.toArray⟩ ⟨#[44]⟩ + 1 = (cutT 44 l).length := by
      have h1 := congrArg List.length (pieces 44 l)
      rw [List.length_map, List.length_map, Lib.splitB_all ⟨#[44]⟩ (by decide) 0 _ _ rfl] at h1
      exact h1
    rw [hcount] at C
    have HC := Lib.hid C
    have hne : (l == [110, 111, 110, 101]) = false := by rw [beq_eq_false_iff_ne]; exact hn
    clear C hcount hc hn
    go_enter Tryd.func35, Tryd.ntmps35
    go_wp2_with (go_at_call 46; refine HC.out.mono ?_; rintro e w' ⟨rfl, rfl⟩)
    go_ret
    have hcl := cutG_length 44 l []
    refine ⟨_, rfl, ?_, (Below.refl _ _).alloc (Nat.le_refl _) _⟩
    have := World.ownsRow_lit (base := w.heap.size) (e := 9) (size := 1) w ((cutT 44 l).map fun x => Value.string ⟨x.toArray⟩).toArray (cutT 44 l).length (Nat.le_refl _) (by unfold cutT; simp only [maxLen]; omega) (by simp)
    exact row_len this (by simp [txs])
end Go.Proofs.YtajnncidkmafgaaDoor
