/- Slices of taps. Conditions: none beside the contracts' own. -/
import Derived.Test.YtlenpecnfilkjaaQ1
import Derived.Handy
import Derived.Deep.RegionWith
set_option linter.unusedVariables false
set_option linter.unusedSimpArgs false
namespace Go.Proofs.Ytlenpecnfilkjaa
open Go.RowKit
theorem add_off (ad : Addr) (m j : Nat) (hj : (j == 0) = false) : (⟨(ad.add m).block, (ad.add m).off + j, none⟩ : Addr) = ad.add (m + j) := by
  have hj' : j ≠ 0 := by simpa using hj
  unfold Addr.add
  by_cases h1 : m = 0
  · subst h1; simp [hj']
  · have h2 : m + j ≠ 0 := by omega
    simp [h1, h2, Nat.add_assoc]
/-- A slice of records that is read. -/
structure RdTap (w : World) (A : Option Addr) (n : Nat) (f0 : Nat → Int) (f1 : Nat → Nat) : Prop where
  most : n ≤ maxLen
  wf1 : ∀ k, k < n → f1 k < 2 ^ FloatKind.f32.format.width
  cell : ∀ k, k < n → ∃ ad, A = some ad ∧ w.cell? (ad.add (k * 2)) = some (Value.int .i64 (f0 k)) ∧ w.cell? (ad.add (k * 2 + 1)) = some (Value.float .f32 (f1 k))
theorem RdTap.below {w w' : World} {A : Option Addr} {n : Nat} {f0 : Nat → Int} {f1 : Nat → Nat} (h : RdTap w A n f0 f1) (hb : Below w.heap.size w w') : RdTap w' A n f0 f1 :=
  ⟨h.most, h.wf1, fun k hk => by
    obtain ⟨ad, e, c0, c1⟩ := h.cell k hk
    exact ⟨ad, e, (hb.cell (World.block_lt_of_cell? w _ c0)).trans c0, (hb.cell (World.block_lt_of_cell? w _ c1)).trans c1⟩⟩
set_option maxHeartbeats 400000 in
theorem laws_toTap {x0 : Int} {x1 : Nat} (w : World) : Calls Try.prog 72 #[.agg #[Value.int .i64 (x0), Value.float .f32 (x1)]] w (RV (.agg #[Value.int .i64 (x0), Value.float .f32 (x1)]) w) := by
  go_enter Try.func72, Try.ntmps72
  go_wp2
  refine bodyPost_ret (v := .agg #[Value.int .i64 (x0), Value.float .f32 (x1)]) ?_ rfl ⟨rfl, ?_⟩
  · simp [results, Try.results72, go_sem]
  · (repeat (first | exact Below.refl _ _ | (with_reducible assumption) | refine below_drewN ?_ _ | refine Below.drew ?_ | refine Below.alloc ?_ (by simp; try omega) _))
set_option maxHeartbeats 1600000 in
theorem laws_toTapS {A : Option Addr} {n c : Nat} {f0 : Nat → Int} {f1 : Nat → Nat} (w : World) (h : RdTap w A n f0 f1) (hn : n ≤ 1048576) : Calls Try.prog 38 #[.slice A n c] w fun e w' => ∃ A' c', e = .returned (.slice A' n c') ∧ RdTap w' A' n f0 f1 ∧ Below w.heap.size w w' := by
  have hinfo : (Try.prog.info? 109).map (fun i => (i.zero, i.size, i.bytes)) = some (some (.agg #[.int .i64 0, .float .f32 0]), 2, 16) := by kernel_rfl
  obtain ⟨i0, hi, hzz⟩ := Option.map_eq_some_iff.1 hinfo
  simp only [Prod.mk.injEq] at hzz
  obtain ⟨hz0, hz1, hz2⟩ := hzz
  have hmk : ∀ W : World, (Instr.makeSlice 63 (.int .i64 (n : Int)) (.int .i64 (n : Int))).run Try.prog W = .ok (.slice (some ⟨W.heap.size, 0, none⟩) n n) (W.alloc (.cells (madeCells #[.int .i64 0, .float .f32 0] (n * 2)) 109)) := by
    intro W
    have := run_make W 63 109 i0 _ Try.underlying63 hi hz0 .i64 .i64 n n (by omega) (by omega) (by rw [hz2]; omega) (by omega)
    rw [hz1] at this
    simpa [Value.cells] using this
  clear hi hz0 hz1 hz2 hinfo
  go_enter Try.func38, Try.ntmps38
  go_wp2
  go_loopw [4] (fun i w' => ∃ k, k ≤ n ∧ i = .int .i64 (k : Nat) ∧ Hid ((∀ j, j < k → w'.cell? ⟨w.heap.size, j * 2, none⟩ = some (Value.int .i64 (f0 j)) ∧ w'.cell? ⟨w.heap.size, j * 2 + 1, none⟩ = some (Value.float .f32 (f1 j))) ∧ (∀ j, k ≤ j → j < n → (∃ u, w'.cell? ⟨w.heap.size, j * 2, none⟩ = some u) ∧ (∃ u, w'.cell? ⟨w.heap.size, j * 2 + 1, none⟩ = some u)) ∧ (∀ q, w'.frozen? ⟨w.heap.size, q, none⟩ = false)) ∧ w.heap.size < w'.heap.size ∧ Below w.heap.size w w') (fun i _ => n - (intOf i).toNat)
  case atStart =>
    refine ⟨0, Nat.zero_le _, rfl, Lib.hid ⟨fun j hj => by omega, fun j _ hj => ?_, fun q => by simp [go_sem]⟩, by simp, (Below.refl _ _).alloc (Nat.le_refl _) _⟩
    have key : ∀ q, q < n * 2 → ∃ u, (w.alloc (.cells (madeCells #[.int .i64 0, .float .f32 0] (n * 2)) 109)).cell? ⟨w.heap.size, q, none⟩ = some u := by
      intro q hq
      rw [cell_of_row _ _ _ _ _ (0, 0) (heap_alloc_new w _)]
      exact ⟨_, Array.getElem?_eq_getElem (by rw [size_madeCells]; exact hq)⟩
    exact ⟨key _ (by omega), key _ (by omega)⟩
  case round =>
    obtain ⟨k, hk, rfl, hv, hsz, hb⟩ := hrel
    by_cases hlt : k < n
    · obtain ⟨ad, rfl, c0, c1⟩ := (h.below hb).cell k hlt
      have d1 := c1
      rw [← add_off ad (k * 2) 1 (by decide)] at d1
      clear h
      go_wp2_with fail
      refine (laws_toTap _).mono ?_
      rintro e w2 ⟨rfl, hb2⟩
      obtain ⟨hcc, hff⟩ := bcell hb2
      have hsz2 : w.heap.size < w2.heap.size := Nat.lt_of_lt_of_le hsz hb2.size
      have hB := Lib.hid (below_next hb (Nat.le_of_lt hsz) hb2)
      obtain ⟨v1, v2, v3⟩ := hv.out
      have V1 := Lib.hid (fun j hj => v1 j hj)
      have V2 := Lib.hid (fun j hj hj' => v2 j hj hj')
      obtain ⟨⟨u0, hu0⟩, ⟨u1, hu1⟩⟩ := v2 k (Nat.le_refl _) hlt
      have g0 : w2.cell? ⟨w.heap.size, k * 2, none⟩ = some u0 := (hcc _ _ hsz).trans hu0
      have g1 : w2.cell? ⟨w.heap.size, k * 2 + 1, none⟩ = some u1 := (hcc _ _ hsz).trans hu1
      have hfr : ∀ q, w2.frozen? ⟨w.heap.size, q, none⟩ = false := fun q => by rw [hff _ _ hsz]; exact v3 q
      have hfr0 := hfr (k * 2)
      have hfr1 := hfr (k * 2 + 1)
      have HFR := Lib.hid hfr
      have HCC := Lib.hid (fun q => hcc w.heap.size q hsz)
      clear hb2 hb hcc hff v1 v2 v3 hv hfr c0 c1 d1
      go_wp2
      refine ⟨⟨k + 1, by omega, by go_num, Lib.hid ⟨fun j hj => ?_, fun j hj hj' => ?_, fun q => by simpa using HFR.out q⟩, by simpa using hsz2, ?_⟩, by simp [intOf]; omega⟩
      · by_cases hjk : j = k
        · subst hjk
          exact ⟨by rw [World.cell?_setCell_other _ _ _ _ (by simp)]; exact World.cell?_setCell_same _ _ _ (g0), by exact World.cell?_setCell_same _ _ _ (by rw [World.cell?_setCell_other _ _ _ _ (by simp)]; exact g1)⟩
        · have h1 := V1.out j (by omega)
          exact ⟨by rw [World.cell?_setCell_other _ _ _ _ (by simp <;> omega), World.cell?_setCell_other _ _ _ _ (by simp <;> omega)]; rw [HCC.out]; exact h1.1, by rw [World.cell?_setCell_other _ _ _ _ (by simp <;> omega), World.cell?_setCell_other _ _ _ _ (by simp <;> omega)]; rw [HCC.out]; exact h1.2⟩
      · have h1 := V2.out j (by omega) hj'
        exact ⟨by rw [World.cell?_setCell_other _ _ _ _ (by simp <;> omega), World.cell?_setCell_other _ _ _ _ (by simp <;> omega)]; rw [HCC.out]; exact h1.1, by rw [World.cell?_setCell_other _ _ _ _ (by simp <;> omega), World.cell?_setCell_other _ _ _ _ (by simp <;> omega)]; rw [HCC.out]; exact h1.2⟩
      · exact ((hB.out).setCell (Nat.le_refl _) _).setCell (Nat.le_refl _) _
    · go_wp2
      go_ret
      obtain rfl : k = n := by omega
      obtain ⟨v1, _, _⟩ := hv.out
      exact ⟨_, _, rfl, ⟨h.most, h.wf1, fun j hj => ⟨_, rfl, by simpa [add_plain] using (v1 j hj).1, by simpa [add_plain] using (v1 j hj).2⟩⟩, hb⟩
set_option maxHeartbeats 800000 in
theorem laws_eqTap {x1 y1 : Nat} {x0 : Int} {X1 : Option Nat} (w : World) (h1 : Fl .f32 x1 X1) (h1' : Fl .f32 y1 X1) : Calls Try.prog 73 #[.agg #[Value.int .i64 (x0), Value.float .f32 (x1)], .agg #[Value.int .i64 (x0), Value.float .f32 (y1)]] w (RV (.bool true) w) := by
  have hal := fun o o' m => below_drewN (((Below.refl _ w).alloc (Nat.le_refl _) o).alloc (by simp) o') m
  go_enter Try.func73, Try.ntmps73
  go_wp2_with fail
  refine (laws_sameFloat (h1.cw _) (h1'.cw _) _).mono ?_; rintro e w' ⟨rfl, q1, rfl⟩
  go_wp2_with fail
  go_ret
  exact ⟨rfl, hal _ _ _⟩
set_option maxHeartbeats 1600000 in
theorem laws_eqTapS {A A' : Option Addr} {n c c' : Nat} {f0 : Nat → Int} {f1 : Nat → Nat} (w : World) (h : RdTap w A n f0 f1) (h' : RdTap w A' n f0 f1) (hn : n ≤ 1048576) : Calls Try.prog 40 #[.slice A n c, .slice A' n c'] w (RV (.bool true) w) := by
  go_enter Try.func40, Try.ntmps40
  go_wp2
  go_loopw [5] (fun i w' => ∃ k, k ≤ n ∧ i = .int .i64 (k : Nat) ∧ Below w.heap.size w w') (fun i _ => n - (intOf i).toNat)
  case atStart => exact ⟨0, Nat.zero_le _, rfl, Below.refl _ _⟩
  case round =>
    obtain ⟨k, hk, rfl, hb⟩ := hrel
    by_cases hlt : k < n
    · obtain ⟨ad, rfl, c0, c1⟩ := (h.below hb).cell k hlt
      obtain ⟨bd, rfl, e0, e1⟩ := (h'.below hb).cell k hlt
      have d1 := c1
      rw [← add_off ad (k * 2) 1 (by decide)] at d1
      have j1 := e1
      rw [← add_off bd (k * 2) 1 (by decide)] at j1
      have hfl1 := Fl.self (h.wf1 k hlt)
      have hsz := hb.size
      clear h h'
      have CE := fun W => laws_eqTap (x0 := f0 k) (x1 := f1 k) (y1 := f1 k) W hfl1 hfl1
      go_wp2_with fail
      go_region_with (go_at_call 73; (with_reducible refine (CE _).mono ?_); rintro e w2 ⟨rfl, hb2⟩)
      all_goals
        have hB : Hid (Below w.heap.size w w2) := Lib.hid (by first | exact below_next (below_drewN hb 1) (by simpa using hsz) hb2 | exact below_next (below_drewN hb _) (by simpa using hsz) hb2)
        clear hb hb2
        go_wp2
        exact ⟨⟨k + 1, by omega, by go_num, hB.out⟩, by simp [intOf]; omega⟩
    · go_wp2
      go_ret
      exact ⟨rfl, hb⟩
end Go.Proofs.Ytlenpecnfilkjaa
