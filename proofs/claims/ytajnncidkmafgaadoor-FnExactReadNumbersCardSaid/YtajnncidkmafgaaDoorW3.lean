/- Decimal texts of whole numbers. Conditions: none beside the contracts' own. -/
import Derived.Test.YtajnncidkmafgaaDoorW1
import Derived.Test.YtajnncidkmafgaaDoorShelf
import Derived.Lib.ItoaLen
import Derived.Lib.AppendIntMem
import Derived.Lib.SmallJoins
set_option linter.unusedVariables false
set_option linter.unusedSimpArgs false
namespace Go.Proofs.YtajnncidkmafgaaDoor
open Go.RowKit
section
variable {P : Program} {ops : Array Oper} {rest : List Oper} {o : Oper} {a : Act} {Q : Exit → Act → World → Prop}
/-- The append of a row behind a new row of one: a new row of one, a row of the call's own behind it. -/
theorem ap_front {W : World} (base : Nat) (hgd : o.guard = none) (s x : Operand) (t e : TypeId) (z : Value) (bytes : Nat)
    (ho : o.op = .call { callee := .builtin .append, args := #[s, x], argTypes := #[t, t] })
    (ht : P.underlying t = some (.slice e)) (hinfo : (P.info? e).map (fun i => (i.zero, i.size, i.bytes)) = some (some z, 1, bytes)) (hz1 : z.cells.size = 1) (hby : bytes ≤ 64)
    (y : Value) (vs : List Value) (g c : Nat) (hvs : ∀ u ∈ vs, u.oneCell' = true) (hs : a.eval s = .slice (some ⟨W.heap.size, 0, none⟩) 1 1) (hx : a.eval x = .slice (some ⟨g, 0, none⟩) vs.length c)
    (HO : W.ownsRow base e 1 (.slice (some ⟨g, 0, none⟩) vs.length c) vs.length vs) (hbase : base ≤ W.heap.size) (hl : vs.length ≤ 4194304)
    (h : ∀ v1 w1, w1.ownsRow base e 1 v1 (y :: vs).length (y :: vs) → (W.alloc (.cells #[y] e)).grownBy w1 (some W.heap.size) → wpList P ops Q rest (a.put o.dst v1) w1) :
    wpList P ops Q (o :: rest) a (W.alloc (.cells #[y] e)) := by
  obtain ⟨i0, hi, hzz⟩ := Option.map_eq_some_iff.1 hinfo
  simp only [Prod.mk.injEq] at hzz
  obtain ⟨hz0, hz1', hz2⟩ := hzz
  have hbb : (1 + vs.length) * bytes ≤ 140737488355328 := Nat.le_trans (Nat.mul_le_mul (show 1 + vs.length ≤ 4194305 by omega) hby) (by decide)
  have hown : (W.alloc (.cells #[y] e)).ownsRow base e 1 (.slice (some ⟨W.heap.size, 0, none⟩) 1 1) 1 [y] :=
    World.ownsRow_lit (base := base) (e := e) (size := 1) W #[y] 1 hbase (by simp only [maxLen]; omega) (by simp)
  refine wpList_append_own_at (W.alloc (.cells #[y] e)) hgd s x t ho base e i0 z 1 bytes ht hi hz0 hz1' hz2 hz1 (by omega) _ 1 [y] hs hown ⟨g, 0, none⟩ vs.length c vs hx (by simp)
    (fun j u hj => (HO.alloc (.cells #[y] e)).cells (g := g) rfl j u hj) hvs (by simp only [maxLen]; omega) hbb (by simp; omega) ?_
  intro v1 w1 hown1 hg _ _
  exact h v1 w1 (by have : (y :: vs).length = 1 + vs.length := by simp; omega
                    rw [this]; exact hown1) hg
end
/-! ### The digits -/
def dig (r : Int) : UInt8 := UInt8.ofNat (48 + r.natAbs % 10)
def digs (u : Nat) : List UInt8 := if u = 0 then [] else Lib.decDigits u
theorem digs_step (r : Int) : Lib.decDigits r.natAbs = digs (r.natAbs / 10) ++ [dig r] := by
  rw [Lib.decDigits]
  by_cases h : r.natAbs < 10
  · rw [dif_pos h, digs, if_pos (by omega), dig, Nat.mod_eq_of_lt h]; rfl
  · rw [dif_neg h, digs, if_neg (by omega), dig]
theorem dig_val (r : Int) : ((dig r).toNat : Int) = 48 + (r.natAbs % 10 : Nat) := by
  have : r.natAbs % 10 < 10 := Nat.mod_lt _ (by decide)
  unfold dig
  rw [UInt8.toNat_ofNat']
  omega
theorem decDigits_ne (u : Nat) : Lib.decDigits u ≠ [] := by
  rw [Lib.decDigits]; split <;> simp
theorem decDigits_most {n : Int} (h0 : -9223372036854775808 ≤ n) (h1 : n ≤ 9223372036854775807) : (Lib.decDigits n.natAbs).length ≤ 21 := by
  have := Lib.itoa_length_le n h0 h1
  unfold Lib.itoa at this
  split at this
  · rw [List.length_cons] at this; omega
  · rwa [show n.toNat = n.natAbs by omega] at this
/-- Bytes in a row of the call's own, at a place. -/
def OwG (w : World) (B : Nat) (v : Value) (l : List UInt8) : Prop := OwB w B v l ∧ ∃ g c, v = .slice (some ⟨g, 0, none⟩) l.length c
theorem OwG.of {w : World} {B : Nat} {v : Value} {l : List UInt8} (h : OwB w B v l) (hl : l ≠ []) : OwG w B v l := by
  obtain ⟨A, c, rfl, hc⟩ := row_shape h
  obtain ⟨g, rfl, _⟩ := hc (by intro e; apply hl; simpa [Lib.byteCells] using e)
  exact ⟨h, g, c, by rw [Lib.byteCells_length]⟩
theorem one_bytes (l : List UInt8) : ∀ u ∈ Lib.byteCells l, u.oneCell' = true := by
  intro u hu
  obtain ⟨b, _, rfl⟩ := List.mem_map.1 hu
  rfl
set_option maxHeartbeats 800000 in
set_option maxRecDepth 20000 in
theorem spec_l01Dec {n : Int} (h0 : -9223372036854775808 ≤ n) (h1 : n ≤ 9223372036854775807) (w : World) :
    Calls Tryd.prog 25 #[.int .i64 n] w fun e w' => e = .returned (tx (Lib.itoa n)) ∧ Below w.heap.size w w' := by
  have hmost := decDigits_most h0 h1
  go_enter Tryd.func25, Tryd.ntmps25
  go_wp2
  go_loopw [3, 4] (fun v i w' => ∃ (l : List UInt8) (r : Int), OwG w' w.heap.size v l ∧ i = .int .i64 r ∧ -9223372036854775808 ≤ r ∧ r ≤ 9223372036854775807 ∧ (l = [] ∧ r = n ∨ l ≠ [] ∧ Lib.decDigits n.natAbs = digs r.natAbs ++ l) ∧ Below w.heap.size w w')
    (fun v i _ => (intOf i).natAbs + (match v with | .slice _ 0 _ => 1 | _ => 0))
  case atStart => exact ⟨[], n, ⟨World.ownsRow_lit (base := w.heap.size) (e := 5) (size := 1) w #[] 0 (Nat.le_refl _) (Nat.zero_le _) (by simp), _, _, rfl⟩, rfl, h0, h1, .inl ⟨rfl, rfl⟩, (Below.refl _ _).alloc (Nat.le_refl _) _⟩
  case round =>
    obtain ⟨l, r, ⟨ho, g, c, rfl⟩, rfl, hr0, hr1, hst, hb⟩ := hrel
    have hab : (r.tmod 10).natAbs = r.natAbs % 10 := Int.natAbs_tmod r 10
    have hdv : (r.tdiv 10).natAbs = r.natAbs / 10 := Int.natAbs_tdiv r 10
    have hll : l.length ≤ 21 := by
      rcases hst with ⟨rfl, _⟩ | ⟨_, e⟩
      · simp
      · rw [e, List.length_append] at hmost; omega
    have hneg : r.tmod 10 < 0 → 48 + -r.tmod 10 = ((dig r).toNat : Int) := fun hs => by
      rw [dig_val]; omega
    have hpos : ¬ r.tmod 10 < 0 → 48 + r.tmod 10 = ((dig r).toNat : Int) := fun hs => by
      rw [dig_val]; omega
    by_cases hl : l = []
    · subst hl
      obtain rfl : r = n := by
        rcases hst with ⟨_, e⟩ | ⟨e, _⟩
        · exact e
        · exact absurd rfl e
      have hstep : Lib.decDigits r.natAbs = digs (r.tdiv 10).natAbs ++ [dig r] := by rw [hdv]; exact digs_step r
      have hdown : ∀ {W : World}, w.heap.size ≤ W.heap.size → OwB (W.alloc (.cells #[.int .u8 ((dig r).toNat : Int)] 5)) w.heap.size (.slice (some ⟨W.heap.size, 0, none⟩) 1 1) [dig r] := fun {W} hB =>
        World.ownsRow_lit (base := w.heap.size) (e := 5) (size := 1) W #[.int .u8 ((dig r).toNat : Int)] 1 hB (by simp only [maxLen]; omega) (by simp)
      have HS := Lib.hid hstep
      have HD := Lib.hid (hdown hb.size)
      clear hstep hdown hst hmost
      by_cases hs : r.tmod 10 < 0
      · have hv := hneg hs
        clear hneg hpos
        go_wp2
        exact ⟨⟨[dig r], r.tdiv 10, ⟨HD.out, _, _, rfl⟩, rfl, by omega, by omega, .inr ⟨by simp, HS.out⟩, hb.alloc hb.size _⟩, by show (r.tdiv 10).natAbs + 0 < r.natAbs + 1; omega⟩
      · have hv := hpos hs
        clear hneg hpos
        go_wp2
        exact ⟨⟨[dig r], r.tdiv 10, ⟨HD.out, _, _, rfl⟩, rfl, by omega, by omega, .inr ⟨by simp, HS.out⟩, hb.alloc hb.size _⟩, by show (r.tdiv 10).natAbs + 0 < r.natAbs + 1; omega⟩
    · have hlp : 0 < l.length := List.length_pos_iff.2 hl
      have hl0 : ((l.length : Int) == 0) = false := beq_eq_false_iff_ne.2 (by omega)
      have hdec : Lib.decDigits n.natAbs = digs r.natAbs ++ l := by
        rcases hst with ⟨e, _⟩ | ⟨_, e⟩
        · exact absurd e hl
        · exact e
      clear hst
      have HM := Lib.hid hmost
      clear hmost
      by_cases hr : r = 0
      · subst hr
        have hdec' : Lib.decDigits n.natAbs = l := hdec
        clear hdec hneg hpos hab hdv
        have HE := Lib.hid hdec'
        clear hdec'
        by_cases hn : n < 0
        · go_wp2_with (at_builtin; go_loud (refine ap_front w.heap.size rfl _ _ 55 5 (.int .u8 0) 1 rfl Tryd.underlying55 info_u8 rfl (by decide) (.int .u8 45) (Lib.byteCells l) g c (one_bytes l) rfl (by rw [Lib.byteCells_length]; rfl) (by have z := ho; unfold OwB at z; rw [Lib.byteCells_length] at z ⊢; exact z) hb.size (by rw [Lib.byteCells_length]; omega) ?_; intro v1 w1 hown hg; refine Hid.out ?_))
          refine Lib.hid ?_
          obtain ⟨L, hL⟩ : ∃ L, L = 45 :: l := ⟨_, rfl⟩
          have hown1 : OwB w1 w.heap.size v1 L := by rw [hL]; exact hown
          obtain ⟨A, c1, rfl, hcv⟩ := run_bytes_back hown1 (by rw [hL]; simp)
          have HL := Lib.hid hL
          clear hL hown
          have HB : Below w.heap.size w w1 := (hb.alloc hb.size _).grown hg (by have := hb.size; simp; omega) (fun q hq => by cases hq; exact hb.size)
          go_wp2
          go_ret
          exact ⟨by rw [Lib.itoa, if_pos hn, HE.out, ← HL.out]; rfl, HB⟩
        · obtain ⟨A, c1, hv, hcv⟩ := run_bytes_back ho hl
          cases hv
          go_wp2
          go_ret
          exact ⟨by rw [Lib.itoa, if_neg (by omega), show n.toNat = n.natAbs by omega, HE.out]; rfl, hb⟩
      · have hstep : Lib.decDigits n.natAbs = digs (r.tdiv 10).natAbs ++ (dig r :: l) := by
          rw [hdec, hdv, show digs r.natAbs = Lib.decDigits r.natAbs by rw [digs, if_neg (by omega)], digs_step r]; simp
        have HS := Lib.hid hstep
        clear hstep hdec
        have hr' : (r != 0) = true := by simpa using hr
        by_cases hs : r.tmod 10 < 0
        · have hv := hneg hs
          clear hneg hpos
          go_wp2_with (at_builtin; go_loud (refine ap_front w.heap.size rfl _ _ 55 5 (.int .u8 0) 1 rfl Tryd.underlying55 info_u8 rfl (by decide) (.int .u8 ((dig r).toNat : Int)) (Lib.byteCells l) g c (one_bytes l) rfl (by rw [Lib.byteCells_length]; rfl) (by have z := ho; unfold OwB at z; rw [Lib.byteCells_length] at z ⊢; exact z) hb.size (by rw [Lib.byteCells_length]; omega) ?_; intro v1 w1 hown hg))
          have hown1 : OwB w1 w.heap.size v1 (dig r :: l) := hown
          have HB : Below w.heap.size w w1 := (hb.alloc hb.size _).grown hg (by have := hb.size; simp; omega) (fun q hq => by cases hq; exact hb.size)
          obtain ⟨_, g1, c1, rfl⟩ := OwG.of hown1 (by simp)
          exact ⟨⟨dig r :: l, r.tdiv 10, ⟨hown1, _, _, rfl⟩, rfl, by omega, by omega, .inr ⟨by simp, HS.out⟩, HB⟩, Nat.lt_of_lt_of_le (show (r.tdiv 10).natAbs + 0 < r.natAbs by omega) (Nat.le_add_right _ _)⟩
        · have hv := hpos hs
          clear hneg hpos
          go_wp2_with (at_builtin; go_loud (refine ap_front w.heap.size rfl _ _ 55 5 (.int .u8 0) 1 rfl Tryd.underlying55 info_u8 rfl (by decide) (.int .u8 ((dig r).toNat : Int)) (Lib.byteCells l) g c (one_bytes l) rfl (by rw [Lib.byteCells_length]; rfl) (by have z := ho; unfold OwB at z; rw [Lib.byteCells_length] at z ⊢; exact z) hb.size (by rw [Lib.byteCells_length]; omega) ?_; intro v1 w1 hown hg))
          have hown1 : OwB w1 w.heap.size v1 (dig r :: l) := hown
          have HB : Below w.heap.size w w1 := (hb.alloc hb.size _).grown hg (by have := hb.size; simp; omega) (fun q hq => by cases hq; exact hb.size)
          obtain ⟨_, g1, c1, rfl⟩ := OwG.of hown1 (by simp)
          exact ⟨⟨dig r :: l, r.tdiv 10, ⟨hown1, _, _, rfl⟩, rfl, by omega, by omega, .inr ⟨by simp, HS.out⟩, HB⟩, Nat.lt_of_lt_of_le (show (r.tdiv 10).natAbs + 0 < r.natAbs by omega) (Nat.le_add_right _ _)⟩
theorem spec_Decimal {n : Int} (h0 : -9223372036854775808 ≤ n) (h1 : n ≤ 9223372036854775807) (w : World) :
    Calls Tryd.prog 8 #[.int .i64 n] w fun e w' => e = .returned (tx (Lib.itoa n)) ∧ Below w.heap.size w w' := by
  go_enter Tryd.func8, Tryd.ntmps8
  go_wp2_with (go_at_call 25; refine (spec_l01Dec h0 h1 _).mono ?_; rintro e w' ⟨rfl, hb⟩)
  go_ret
  exact ⟨rfl, hb⟩
/-- The table of powers of ten as the program's start lays it. -/
abbrev Pow (w : World) : Prop := Lib.TabIs Tryd.prog w "internal/strconv.uint64pow10" .u64 Lib.pow10Tab
theorem Pow.below {w w' : World} (h : Pow w) (hb : Below w.heap.size w w') : Pow w' := Lib.tabBelow_of_tabIs h _ hb
theorem impl_Decimal {n : Int} (h0 : -9223372036854775808 ≤ n) (h1 : n ≤ 9223372036854775807) (w : World) (ht : Pow w) :
    Calls Tryd.prog 9 #[.int .i64 n] w fun e w' => e = .returned (tx (Lib.itoa n)) ∧ Below w.heap.size w w' := by
  go_enter Tryd.func9, Tryd.ntmps9
  go_wp2_with (go_at_call 26; refine (Tryd.strconv_FormatInt_10 n h0 h1 _ ht).mono ?_; rintro e w' ⟨rfl, k, os, rfl⟩)
  go_ret
  exact ⟨rfl, Lib.below_grow _ _ (Nat.le_refl _) _ _⟩
theorem decimal_walk (n : Int) (w : World) (hn : (Lit.int .i64 n).wf = true) (ht : Pow w) : Calls Tryd.prog 3 #[.int .i64 n] w fun e w' => e = .returned (.bool true) ∧ Below w.heap.size w w' := by
  have hi := bounds_i64 hn
  go_enter Tryd.func3, Tryd.ntmps3
  go_wp2_with (go_at_call 8; refine (spec_Decimal hi.1 hi.2 _).mono ?_; rintro e w1 ⟨rfl, hb1⟩; refine Hid.out ?_)
  refine Lib.hid ?_
  have ht1 := ht.below hb1
  go_wp2_with (go_at_call 9; refine (impl_Decimal hi.1 hi.2 _ ht1).mono ?_; rintro e w2 ⟨rfl, hb2⟩)
  go_ret
  exact ⟨rfl, below_next hb1 hb1.size hb2⟩
end Go.Proofs.YtajnncidkmafgaaDoor
