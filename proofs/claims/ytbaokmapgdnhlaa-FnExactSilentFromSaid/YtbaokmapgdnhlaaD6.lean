/- The steps of delays. Conditions: none beside the contracts' own. -/
import Derived.Test.YtbaokmapgdnhlaaD4
import Derived.Test.YtbaokmapgdnhlaaZ1
set_option linter.unusedVariables false
set_option linter.unusedSimpArgs false
namespace Go.Proofs.Ytbaokmapgdnhlaa
open Go.RowKit
def flC (fl : Bool) (X : Option Nat) : Option Nat := if fl = true then flushC X else X
def dlyV (F : Option Nat) (fl : Bool) (X : Option Nat) (L : List (Option Nat)) : Option Nat := flC fl (fadd X (fmul F (L.headD none)))
def dlyY (D W X : Option Nat) (L : List (Option Nat)) : Option Nat := fadd (fmul D X) (fmul W (L.headD none))
set_option maxHeartbeats 400000 in
theorem impl_flushed {x : Nat} {X : Option Nat} {fl : Bool} (hx : Fl .f32 x X) (w : World) : Calls Try.prog 101 #[.float .f32 x, .bool fl] w (RF .f32 (flC fl X) w) := by
  unfold flC
  cases fl <;> simp only [Bool.false_eq_true, if_true, if_false]
  · go_enter Try.func101, Try.ntmps101
    go_wp2
    go_ret
    exact ⟨_, 0, rfl, hx, rfl⟩
  · go_enter Try.func101, Try.ntmps101
    go_wp2_with (go_at_call 103; refine (impl_FlushNumber hx _).mono ?_; rintro e w' ⟨r, q, rfl, hr, rfl⟩)
    go_ret
    exact ⟨_, _, rfl, hr, rfl⟩
set_option maxHeartbeats 1600000 in
theorem spec_l03Delay {A : Option Addr} {n c B b : Nat} {xs : List Nat} {f d wt x : Nat} {fl : Bool} {F D W X : Option Nat} (w : World) (h : Of w B (.slice A n c) xs) (hl : xs.length = n) (hn0 : 0 < n) (hn : n ≤ 1048576) (hf : Fl .f32 f F) (hd : Fl .f32 d D) (hw : Fl .f32 wt W) (hx : Fl .f32 x X)
    (hc1 : w.cell? ⟨b, 1, none⟩ = some (.float .f32 f)) (hc2 : w.cell? ⟨b, 2, none⟩ = some (.float .f32 d)) (hc3 : w.cell? ⟨b, 3, none⟩ = some (.float .f32 wt)) (hc4 : w.cell? ⟨b, 4, none⟩ = some (.bool fl)) (hb : b < B) :
    Calls Try.prog 65 #[.pointer (some ⟨b, 0, none⟩), .slice A n c, .float .f32 x] w (RLs (dlyY D W X (clss xs)) ((clss xs).tail ++ [dlyV F fl X (clss xs)]) B (.slice A n c) w) := by
  obtain ⟨q, rfl, hq⟩ := h.form hl hn0
  obtain ⟨_, y, Y, he, hy, hfy, hxy, hY⟩ := (h.rd hl).at_ (k := 0) hn0
  obtain rfl := (Option.some.inj he).symm
  have hc0 : w.cell? ⟨q, 0, none⟩ = some (.float .f32 y) := by simpa [Addr.add] using hy
  have hbs : b < w.heap.size := World.block_lt_of_cell? w ⟨b, 1, none⟩ hc1
  unfold dlyY dlyV
  rw [head_of hY]
  have HL := Lib.hid hl
  have HO := Lib.hid h
  have HV := Lib.hid (fun w1 w2 => hx.fr (hf.fr hfy .mul w1) .add w2)
  clear hl hy hxy hY h he
  have key : ∀ {v V : Nat} {Vc : Option Nat} (k : Nat) (W : World), True := fun _ _ => trivial
  clear key
  unfold flC
  cases fl <;> simp only [Bool.false_eq_true, if_true, if_false]
  · go_enter Try.func65, Try.ntmps65
    go_wp2_with fail
    refine (spec_l03Take _ (HO.out.drewN _) HL.out hn0 hn (HV.out _ _).wf).mono ?_
    rintro e w1 ⟨rfl, ho, hgr⟩
    have hd2 : w1.cell? ⟨b, 2, none⟩ = some (.float .f32 d) := (cell_grown hgr (by simpa using hbs) (by simp [Value.ownBlock]; omega)).trans hc2
    have hd3 : w1.cell? ⟨b, 3, none⟩ = some (.float .f32 wt) := (cell_grown hgr (by simpa using hbs) (by simp [Value.ownBlock]; omega)).trans hc3
    have HG := Lib.hid (World.grownBy.trans (grown_of_below (below_draws w _) _) hgr)
    have hVV := HV.out w (w.drewN (fd .mul .f32 f y))
    clear hgr hc1 hc2 hc3 hc4
    go_wp2_with fail
    go_region
    all_goals go_wp2
    all_goals go_ret
    all_goals exact ⟨_, _, rfl, (by repeat (first | (with_reducible assumption) | exact Fl.of_lit (by decide) (by decide) | apply Fl.fr | apply Fl.cw | apply Fl.cn)), ho.drewN _, clss_take1 hVV, grown_drewN HG.out _⟩
  · go_enter Try.func65, Try.ntmps65
    go_wp2_with fail
    refine (spec_l01Flush (HV.out _ _) _).mono ?_
    rintro e w0 ⟨z, k0, rfl, hz, rfl⟩
    go_wp2_with fail
    refine (spec_l03Take _ (HO.out.drewN _) HL.out hn0 hn hz.wf).mono ?_
    rintro e w1 ⟨rfl, ho, hgr⟩
    have hd2 : w1.cell? ⟨b, 2, none⟩ = some (.float .f32 d) := (cell_grown hgr (by simpa using hbs) (by simp [Value.ownBlock]; omega)).trans hc2
    have hd3 : w1.cell? ⟨b, 3, none⟩ = some (.float .f32 wt) := (cell_grown hgr (by simpa using hbs) (by simp [Value.ownBlock]; omega)).trans hc3
    have HG := Lib.hid (World.grownBy.trans (grown_of_below (below_draws w _) _) hgr)
    clear hgr hc1 hc2 hc3 hc4
    go_wp2_with fail
    go_region
    all_goals go_wp2
    all_goals go_ret
    all_goals exact ⟨_, _, rfl, (by repeat (first | (with_reducible assumption) | exact Fl.of_lit (by decide) (by decide) | apply Fl.fr | apply Fl.cw | apply Fl.cn)), ho.drewN _, clss_take1 hz, grown_drewN HG.out _⟩
set_option maxHeartbeats 8000000 in
theorem impl_Delay_step {A : Option Addr} {n c : Nat} {xs : List Nat} {l : Int} {f d wt x : Nat} {fl : Bool} {F D W X : Option Nat} (w : World) (h : Rd w A n xs) (hc : n ≤ c) (hn0 : 0 < n) (hn : n ≤ 1048576) (hf : Fl .f32 f F) (hd : Fl .f32 d D) (hw : Fl .f32 wt W) (hx : Fl .f32 x X) :
    Calls Try.prog 67 #[.agg #[.int .i64 l, .float .f32 f, .float .f32 d, .float .f32 wt, .bool fl], .slice A n c, .float .f32 x] w (RYL (dlyY D W X (clss xs)) ((clss xs).tail ++ [dlyV F fl X (clss xs)]) w) := by
  obtain ⟨ad, y, Y, rfl, hy, hfy, hxy, hY⟩ := h.at_ (k := 0) hn0
  have hc0 : w.cell? ad = some (.float .f32 y) := by simpa [Addr.add] using hy
  have hcB := fun o => (((Below.refl _ w).alloc (Nat.le_refl _) o).cell (World.block_lt_of_cell? w _ hc0)).trans hc0
  unfold dlyY dlyV
  rw [head_of hY]
  clear hy hxy hY
  go_enter Try.func67, Try.ntmps67
  go_wp2_with fail
  obtain ⟨W1, hW1⟩ : ∃ W1, W1 = w.alloc (.cells #[.int .i64 l, .float .f32 f, .float .f32 d, .float .f32 wt, .bool fl] 37) := ⟨_, rfl⟩
  rw [← hW1]
  have hB1 : Below w.heap.size w W1 := by rw [hW1]; exact (Below.refl _ _).alloc (Nat.le_refl _) _
  have hz1 : W1.heap.size = w.heap.size + 1 := by rw [hW1]; simp
  have g1 : W1.cell? ⟨w.heap.size, 1, none⟩ = some (.float .f32 f) := by rw [hW1]; simp [go_sem]
  have g2 : W1.cell? ⟨w.heap.size, 2, none⟩ = some (.float .f32 d) := by rw [hW1]; simp [go_sem]
  have g3 : W1.cell? ⟨w.heap.size, 3, none⟩ = some (.float .f32 wt) := by rw [hW1]; simp [go_sem]
  have g4 : W1.cell? ⟨w.heap.size, 4, none⟩ = some (.bool fl) := by rw [hW1]; simp [go_sem]
  have hy1 : W1.cell? ad = some (.float .f32 y) := by rw [hW1]; exact hcB _
  clear hW1 hcB hc0
  have HR := Lib.hid (h.below hB1)
  have CF : ∀ v W0, Fl .f32 v (fadd X (fmul F Y)) → Calls Try.prog 101 #[.float .f32 v, .bool fl] W0 (RF .f32 (flC fl (fadd X (fmul F Y))) W0) := fun v W0 hv => impl_flushed hv W0
  have CT : ∀ v W0, v < 2 ^ FloatKind.f32.format.width → Below W1.heap.size W1 W0 → Calls Try.prog 81 #[.slice (some ad) n c, .float .f32 v] W0 (RX (xs.tail ++ [v]) W0) := fun v W0 hv e => impl_take _ (HR.out.below e) hc hn0 hn hv
  have hlt : w.heap.size < W1.heap.size := by omega
  have hya : ad.block < W1.heap.size := World.block_lt_of_cell? W1 _ hy1
  clear h
  have HF := Lib.hid CF
  have HT := Lib.hid CT
  clear CF CT
  obtain ⟨C, hC⟩ : ∃ C : World → Prop, ∀ W0, C W0 ↔ (W0.cell? ⟨w.heap.size, 1, none⟩ = some (Value.float .f32 f) ∧ W0.cell? ⟨w.heap.size, 2, none⟩ = some (Value.float .f32 d) ∧ W0.cell? ⟨w.heap.size, 3, none⟩ = some (Value.float .f32 wt) ∧ W0.cell? ⟨w.heap.size, 4, none⟩ = some (Value.bool fl) ∧ W0.cell? ad = some (.float .f32 y) ∧ Below W1.heap.size W1 W0) := ⟨_, fun _ => Iff.rfl⟩
  have HC := Lib.hid hC
  clear hC
  have hCd : ∀ W0 k, C W0 → C (W0.drewN k) := fun W0 k h => (HC.out _).2 (by obtain ⟨l1, l2, l3, l4, l5, lb⟩ := (HC.out _).1 h; exact ⟨l1, l2, l3, l4, l5, below_drewN lb _⟩)
  have hC0 : C (W1.drewN 1) := (HC.out _).2 ⟨g1, g2, g3, g4, hy1, below_drewN (Below.refl _ _) 1⟩
  have hCE : ∃ w, C w := ⟨_, hC0⟩
  have hRR : ∀ w : World, Below w.heap.size w w := fun w => Below.refl _ w
  refine Loose.region (R := fun w w' => Below w.heap.size w w') (C := C) (by kernel_rfl) (by kernel_rfl) hC0 ?_
  clear g1 g2 g3 g4 hy1 hC0
  apply Exists.intro
  repeat
    first
      | (apply Loose.walk_quiet hRR hCE; exact rfl; exact rfl; intro K hK; go_big_quiet_op; go_big_quiet_on)
      | (apply Loose.walk_quiet hRR hCE; exact rfl; exact rfl; intro K hK; go_big_quiet_op; apply Exists.intro; refine ⟨fun w' hw' => ?_, ?_⟩
         · (first | exact rfl | (obtain ⟨l1, l2, l3, l4, l5, lb⟩ := (HC.out _).1 hw'; go_simp; rfl))
         go_big_quiet_on)
  apply Loose.walk_free (g := fun v => ∃ r, v = .float .f32 r ∧ Fl .f32 r (fmul D X))
  · exact rfl
  · intro w' hw'
    apply Loose.at_val
    · go_simp; exact ⟨rfl, rfl⟩
    · exact hCd _ _ hw'
    · exact below_drewN (Below.refl _ _) _
    · exact ⟨_, rfl, hd.fr hx .mul _⟩
  rintro v ⟨r3, rfl, f3⟩
  simp only [Act.put, List.setIfInBounds_toArray, List.set_cons_zero, List.set_cons_succ]
  repeat
    first
      | (apply Loose.walk_quiet hRR hCE; exact rfl; exact rfl; intro K hK; go_big_quiet_op; go_big_quiet_on)
      | (apply Loose.walk_quiet hRR hCE; exact rfl; exact rfl; intro K hK; go_big_quiet_op; apply Exists.intro; refine ⟨fun w' hw' => ?_, ?_⟩
         · (first | exact rfl | (obtain ⟨l1, l2, l3, l4, l5, lb⟩ := (HC.out _).1 hw'; go_simp; rfl))
         go_big_quiet_on)
  apply Loose.walk_free (g := fun v => ∃ r, v = .float .f32 r ∧ Fl .f32 r (fmul W Y))
  · exact rfl
  · intro w' hw'
    apply Loose.at_val
    · go_simp; exact ⟨rfl, rfl⟩
    · exact hCd _ _ hw'
    · exact below_drewN (Below.refl _ _) _
    · exact ⟨_, rfl, hw.fr hfy .mul _⟩
  rintro v ⟨r7, rfl, f7⟩
  simp only [Act.put, List.setIfInBounds_toArray, List.set_cons_zero, List.set_cons_succ]
  apply Loose.walk_free (g := fun v => ∃ r, v = .float .f32 r ∧ Fl .f32 r (fadd (fmul D X) (fmul W Y)))
  · exact rfl
  · intro w' hw'
    apply Loose.at_val
    · go_simp; exact ⟨rfl, rfl⟩
    · exact hCd _ _ hw'
    · exact below_drewN (Below.refl _ _) _
    · exact ⟨_, rfl, f3.fr f7 .add _⟩
  rintro v ⟨r8, rfl, f8⟩
  simp only [Act.put, List.setIfInBounds_toArray, List.set_cons_zero, List.set_cons_succ]
  repeat
    first
      | (apply Loose.walk_quiet hRR hCE; exact rfl; exact rfl; intro K hK; go_big_quiet_op; go_big_quiet_on)
      | (apply Loose.walk_quiet hRR hCE; exact rfl; exact rfl; intro K hK; go_big_quiet_op; apply Exists.intro; refine ⟨fun w' hw' => ?_, ?_⟩
         · (first | exact rfl | (obtain ⟨l1, l2, l3, l4, l5, lb⟩ := (HC.out _).1 hw'; go_simp; rfl))
         go_big_quiet_on)
  apply Loose.walk_free (g := fun v => ∃ r, v = .float .f32 r ∧ Fl .f32 r (fmul F Y))
  · exact rfl
  · intro w' hw'
    apply Loose.at_val
    · go_simp; exact ⟨rfl, rfl⟩
    · exact hCd _ _ hw'
    · exact below_drewN (Below.refl _ _) _
    · exact ⟨_, rfl, hf.fr hfy .mul _⟩
  rintro v ⟨r14, rfl, f14⟩
  simp only [Act.put, List.setIfInBounds_toArray, List.set_cons_zero, List.set_cons_succ]
  apply Loose.walk_free (g := fun v => ∃ r, v = .float .f32 r ∧ Fl .f32 r (fadd X (fmul F Y)))
  · exact rfl
  · intro w' hw'
    apply Loose.at_val
    · go_simp; exact ⟨rfl, rfl⟩
    · exact hCd _ _ hw'
    · exact below_drewN (Below.refl _ _) _
    · exact ⟨_, rfl, hx.fr f14 .add _⟩
  rintro v ⟨r15, rfl, f15⟩
  simp only [Act.put, List.setIfInBounds_toArray, List.set_cons_zero, List.set_cons_succ]
  repeat
    first
      | (apply Loose.walk_quiet hRR hCE; exact rfl; exact rfl; intro K hK; go_big_quiet_op; go_big_quiet_on)
      | (apply Loose.walk_quiet hRR hCE; exact rfl; exact rfl; intro K hK; go_big_quiet_op; apply Exists.intro; refine ⟨fun w' hw' => ?_, ?_⟩
         · (first | exact rfl | (obtain ⟨l1, l2, l3, l4, l5, lb⟩ := (HC.out _).1 hw'; go_simp; rfl))
         go_big_quiet_on)
  apply Loose.walk_free (g := fun v => ∃ r, v = .float .f32 r ∧ Fl .f32 r (flC fl (fadd X (fmul F Y))))
  · exact rfl
  · intro w' hw'
    apply Loose.at_enter
    · go_simp; exact ⟨⟨rfl, rfl⟩, rfl⟩
    · refine (HF.out _ _ f15).mono ?_
      rintro e w2 ⟨r, k, rfl, hr, rfl⟩
      exact ⟨_, rfl, hCd _ _ hw', below_drewN (Below.refl _ _) _, _, rfl, hr⟩
  rintro v ⟨r18, rfl, f18⟩
  simp only [Act.put, List.setIfInBounds_toArray, List.set_cons_zero, List.set_cons_succ]
  apply Loose.walk_loose (p := fun v W => ∃ B zs, Of W B v zs ∧ W1.heap.size ≤ B ∧ clss zs = (clss xs).tail ++ [flC fl (fadd X (fmul F Y))])
  · exact rfl
  · exact fun v W W' hb ⟨B, zs, h1, h2, h3⟩ => ⟨B, zs, h1.below hb, h2, h3⟩
  · intro w' hw'
    apply Loose.at_enter
    · go_simp; exact ⟨⟨rfl, rfl⟩, rfl⟩
    · obtain ⟨l1, l2, l3, l4, l5, lb⟩ := (HC.out _).1 hw'
      refine (HT.out _ _ f18.wf lb).mono ?_
      rintro e w2 ⟨v, rfl, ho, hb⟩
      have hz := lb.size
      exact ⟨v, rfl, (HC.out _).2 ⟨(cell_below hb (Nat.lt_of_lt_of_le hlt hz)).trans l1, (cell_below hb (Nat.lt_of_lt_of_le hlt hz)).trans l2, (cell_below hb (Nat.lt_of_lt_of_le hlt hz)).trans l3, (cell_below hb (Nat.lt_of_lt_of_le hlt hz)).trans l4, (hb.cell (World.block_lt_of_cell? _ _ l5)).trans l5, below_next lb lb.size hb⟩, hb, _, _, ho, lb.size, clss_take1 f18⟩
  rintro v -
  simp only [Act.put, List.setIfInBounds_toArray, List.set_cons_zero, List.set_cons_succ]
  repeat
    first
      | (apply Loose.walk_quiet hRR hCE; exact rfl; exact rfl; intro K hK; go_big_quiet_op; go_big_quiet_on)
      | (apply Loose.walk_quiet hRR hCE; exact rfl; exact rfl; intro K hK; go_big_quiet_op; apply Exists.intro; refine ⟨fun w' hw' => ?_, ?_⟩
         · (first | exact rfl | (obtain ⟨l1, l2, l3, l4, l5, lb⟩ := (HC.out _).1 hw'; go_simp; rfl))
         go_big_quiet_on)
  apply Loose.walk_nil
  intro w3 hw3
  obtain ⟨-, -, -, -, -, eb⟩ := (HC.out _).1 hw3
  rintro ⟨-, B, zs, ho, hB, hz⟩
  have hlow := Lib.hid (ho.low (B' := w.heap.size) (by omega))
  have hbel := Lib.hid (below_next hB1 hB1.size eb)
  clear hw3 eb ho hB1 HT HF HC hCd hCE HR
  go_wp2
  go_ret2
  exact ⟨_, _, _, rfl, f8, hlow.out, hz, hbel.out⟩
end Go.Proofs.Ytbaokmapgdnhlaa
