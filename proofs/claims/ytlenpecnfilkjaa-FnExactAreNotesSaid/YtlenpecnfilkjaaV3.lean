/- Slices of notes. Conditions: none beside the contracts' own. -/
import Derived.Test.YtlenpecnfilkjaaV2
import Derived.Deep.QuietTactic
import Derived.BigQuiet
set_option linter.unusedVariables false
set_option linter.unusedSimpArgs false
namespace Go.Proofs.Ytlenpecnfilkjaa
open Go.RowKit
/-- A slice of records that is read. -/
structure RdNote (w : World) (A : Option Addr) (n : Nat) (f0 : Nat → Int) (f1 : Nat → Int) (f2 : Nat → Int) (f3 : Nat → Nat) : Prop where
  most : n ≤ maxLen
  wf3 : ∀ k, k < n → f3 k < 2 ^ FloatKind.f32.format.width
  cell : ∀ k, k < n → ∃ ad, A = some ad ∧ w.cell? (ad.add (k * 4)) = some (Value.int .i64 (f0 k)) ∧ w.cell? (ad.add (k * 4 + 1)) = some (Value.int .i64 (f1 k)) ∧ w.cell? (ad.add (k * 4 + 2)) = some (Value.int .i64 (f2 k)) ∧ w.cell? (ad.add (k * 4 + 3)) = some (Value.float .f32 (f3 k))
theorem RdNote.below {w w' : World} {A : Option Addr} {n : Nat} {f0 : Nat → Int} {f1 : Nat → Int} {f2 : Nat → Int} {f3 : Nat → Nat} (h : RdNote w A n f0 f1 f2 f3) (hb : Below w.heap.size w w') : RdNote w' A n f0 f1 f2 f3 :=
  ⟨h.most, h.wf3, fun k hk => by
    obtain ⟨ad, e, c0, c1, c2, c3⟩ := h.cell k hk
    exact ⟨ad, e, (hb.cell (World.block_lt_of_cell? w _ c0)).trans c0, (hb.cell (World.block_lt_of_cell? w _ c1)).trans c1, (hb.cell (World.block_lt_of_cell? w _ c2)).trans c2, (hb.cell (World.block_lt_of_cell? w _ c3)).trans c3⟩⟩
set_option maxHeartbeats 400000 in
theorem laws_toNote {x0 : Int} {x1 : Int} {x2 : Int} {x3 : Nat} (w : World) : Calls Try.prog 63 #[.agg #[Value.int .i64 (x0), Value.int .i64 (x1), Value.int .i64 (x2), Value.float .f32 (x3)]] w (RV (.agg #[Value.int .i64 (x0), Value.int .i64 (x1), Value.int .i64 (x2), Value.float .f32 (x3)]) w) := by
  go_enter Try.func63, Try.ntmps63
  go_wp2
  refine bodyPost_ret (v := .agg #[Value.int .i64 (x0), Value.int .i64 (x1), Value.int .i64 (x2), Value.float .f32 (x3)]) ?_ rfl ⟨rfl, ?_⟩
  · simp [results, Try.results63, go_sem]
  · (repeat (first | exact Below.refl _ _ | (with_reducible assumption) | refine below_drewN ?_ _ | refine Below.drew ?_ | refine Below.alloc ?_ (by simp; try omega) _))
set_option maxHeartbeats 1600000 in
theorem laws_toNoteS {A : Option Addr} {n c : Nat} {f0 : Nat → Int} {f1 : Nat → Int} {f2 : Nat → Int} {f3 : Nat → Nat} (w : World) (h : RdNote w A n f0 f1 f2 f3) (hn : n ≤ 1048576) : Calls Try.prog 30 #[.slice A n c] w fun e w' => ∃ A' c', e = .returned (.slice A' n c') ∧ RdNote w' A' n f0 f1 f2 f3 ∧ Below w.heap.size w w' := by
  have hinfo : (Try.prog.info? 96).map (fun i => (i.zero, i.size, i.bytes)) = some (some (.agg #[.int .i64 0, .int .i64 0, .int .i64 0, .float .f32 0]), 4, 32) := by kernel_rfl
  obtain ⟨i0, hi, hzz⟩ := Option.map_eq_some_iff.1 hinfo
  simp only [Prod.mk.injEq] at hzz
  obtain ⟨hz0, hz1, hz2⟩ := hzz
  have hmk : ∀ W : World, (Instr.makeSlice 49 (.int .i64 (n : Int)) (.int .i64 (n : Int))).run Try.prog W = .ok (.slice (some ⟨W.heap.size, 0, none⟩) n n) (W.alloc (.cells (madeCells #[.int .i64 0, .int .i64 0, .int .i64 0, .float .f32 0] (n * 4)) 96)) := by
    intro W
    have := run_make W 49 96 i0 _ Try.underlying49 hi hz0 .i64 .i64 n n (by omega) (by omega) (by rw [hz2]; omega) (by omega)
    rw [hz1] at this
    simpa [Value.cells] using this
  clear hi hz0 hz1 hz2 hinfo
  go_enter Try.func30, Try.ntmps30
  go_wp2
  go_loopw [4] (fun i w' => ∃ k, k ≤ n ∧ i = .int .i64 (k : Nat) ∧ Hid ((∀ j, j < k → w'.cell? ⟨w.heap.size, j * 4, none⟩ = some (Value.int .i64 (f0 j)) ∧ w'.cell? ⟨w.heap.size, j * 4 + 1, none⟩ = some (Value.int .i64 (f1 j)) ∧ w'.cell? ⟨w.heap.size, j * 4 + 2, none⟩ = some (Value.int .i64 (f2 j)) ∧ w'.cell? ⟨w.heap.size, j * 4 + 3, none⟩ = some (Value.float .f32 (f3 j))) ∧ (∀ j, k ≤ j → j < n → (∃ u, w'.cell? ⟨w.heap.size, j * 4, none⟩ = some u) ∧ (∃ u, w'.cell? ⟨w.heap.size, j * 4 + 1, none⟩ = some u) ∧ (∃ u, w'.cell? ⟨w.heap.size, j * 4 + 2, none⟩ = some u) ∧ (∃ u, w'.cell? ⟨w.heap.size, j * 4 + 3, none⟩ = some u)) ∧ (∀ q, w'.frozen? ⟨w.heap.size, q, none⟩ = false)) ∧ w.heap.size < w'.heap.size ∧ Below w.heap.size w w') (fun i _ => n - (intOf i).toNat)
  case atStart =>
    refine ⟨0, Nat.zero_le _, rfl, Lib.hid ⟨fun j hj => by omega, fun j _ hj => ?_, fun q => by simp [go_sem]⟩, by simp, (Below.refl _ _).alloc (Nat.le_refl _) _⟩
    have key : ∀ q, q < n * 4 → ∃ u, (w.alloc (.cells (madeCells #[.int .i64 0, .int .i64 0, .int .i64 0, .float .f32 0] (n * 4)) 96)).cell? ⟨w.heap.size, q, none⟩ = some u := by
      intro q hq
      rw [cell_of_row _ _ _ _ _ (0, 0) (heap_alloc_new w _)]
      exact ⟨_, Array.getElem?_eq_getElem (by rw [size_madeCells]; exact hq)⟩
    exact ⟨key _ (by omega), key _ (by omega), key _ (by omega), key _ (by omega)⟩
  case round =>
    obtain ⟨k, hk, rfl, hv, hsz, hb⟩ := hrel
    by_cases hlt : k < n
    · obtain ⟨ad, rfl, c0, c1, c2, c3⟩ := (h.below hb).cell k hlt
      have d1 := c1
      rw [← add_off ad (k * 4) 1 (by decide)] at d1
      have d2 := c2
      rw [← add_off ad (k * 4) 2 (by decide)] at d2
      have d3 := c3
      rw [← add_off ad (k * 4) 3 (by decide)] at d3
      clear h
      go_wp2_with fail
      refine (laws_toNote _).mono ?_
      rintro e w2 ⟨rfl, hb2⟩
      obtain ⟨hcc, hff⟩ := bcell hb2
      have hsz2 : w.heap.size < w2.heap.size := Nat.lt_of_lt_of_le hsz hb2.size
      have hB := Lib.hid (below_next hb (Nat.le_of_lt hsz) hb2)
      obtain ⟨v1, v2, v3⟩ := hv.out
      have V1 := Lib.hid (fun j hj => v1 j hj)
      have V2 := Lib.hid (fun j hj hj' => v2 j hj hj')
      obtain ⟨⟨u0, hu0⟩, ⟨u1, hu1⟩, ⟨u2, hu2⟩, ⟨u3, hu3⟩⟩ := v2 k (Nat.le_refl _) hlt
      have g0 : w2.cell? ⟨w.heap.size, k * 4, none⟩ = some u0 := (hcc _ _ hsz).trans hu0
      have g1 : w2.cell? ⟨w.heap.size, k * 4 + 1, none⟩ = some u1 := (hcc _ _ hsz).trans hu1
      have g2 : w2.cell? ⟨w.heap.size, k * 4 + 2, none⟩ = some u2 := (hcc _ _ hsz).trans hu2
      have g3 : w2.cell? ⟨w.heap.size, k * 4 + 3, none⟩ = some u3 := (hcc _ _ hsz).trans hu3
      have hfr : ∀ q, w2.frozen? ⟨w.heap.size, q, none⟩ = false := fun q => by rw [hff _ _ hsz]; exact v3 q
      have hfr0 := hfr (k * 4)
      have hfr1 := hfr (k * 4 + 1)
      have hfr2 := hfr (k * 4 + 2)
      have hfr3 := hfr (k * 4 + 3)
      have HFR := Lib.hid hfr
      have HCC := Lib.hid (fun q => hcc w.heap.size q hsz)
      clear hb2 hb hcc hff v1 v2 v3 hv hfr c0 c1 c2 c3 d1 d2 d3
      go_wp2
      refine ⟨⟨k + 1, by omega, by go_num, Lib.hid ⟨fun j hj => ?_, fun j hj hj' => ?_, fun q => by simpa using HFR.out q⟩, by simpa using hsz2, ?_⟩, by simp [intOf]; omega⟩
      · by_cases hjk : j = k
        · subst hjk
          exact ⟨by rw [World.cell?_setCell_other _ _ _ _ (by simp)]; rw [World.cell?_setCell_other _ _ _ _ (by simp)]; rw [World.cell?_setCell_other _ _ _ _ (by simp)]; exact World.cell?_setCell_same _ _ _ (g0), by rw [World.cell?_setCell_other _ _ _ _ (by simp)]; rw [World.cell?_setCell_other _ _ _ _ (by simp)]; exact World.cell?_setCell_same _ _ _ (by rw [World.cell?_setCell_other _ _ _ _ (by simp)]; exact g1), by rw [World.cell?_setCell_other _ _ _ _ (by simp)]; exact World.cell?_setCell_same _ _ _ (by rw [World.cell?_setCell_other _ _ _ _ (by simp)]; rw [World.cell?_setCell_other _ _ _ _ (by simp)]; exact g2), by exact World.cell?_setCell_same _ _ _ (by rw [World.cell?_setCell_other _ _ _ _ (by simp)]; rw [World.cell?_setCell_other _ _ _ _ (by simp)]; rw [World.cell?_setCell_other _ _ _ _ (by simp)]; exact g3)⟩
        · have h1 := V1.out j (by omega)
          exact ⟨by rw [World.cell?_setCell_other _ _ _ _ (by simp <;> omega), World.cell?_setCell_other _ _ _ _ (by simp <;> omega), World.cell?_setCell_other _ _ _ _ (by simp <;> omega), World.cell?_setCell_other _ _ _ _ (by simp <;> omega)]; rw [HCC.out]; exact h1.1, by rw [World.cell?_setCell_other _ _ _ _ (by simp <;> omega), World.cell?_setCell_other _ _ _ _ (by simp <;> omega), World.cell?_setCell_other _ _ _ _ (by simp <;> omega), World.cell?_setCell_other _ _ _ _ (by simp <;> omega)]; rw [HCC.out]; exact h1.2.1, by rw [World.cell?_setCell_other _ _ _ _ (by simp <;> omega), World.cell?_setCell_other _ _ _ _ (by simp <;> omega), World.cell?_setCell_other _ _ _ _ (by simp <;> omega), World.cell?_setCell_other _ _ _ _ (by simp <;> omega)]; rw [HCC.out]; exact h1.2.2.1, by rw [World.cell?_setCell_other _ _ _ _ (by simp <;> omega), World.cell?_setCell_other _ _ _ _ (by simp <;> omega), World.cell?_setCell_other _ _ _ _ (by simp <;> omega), World.cell?_setCell_other _ _ _ _ (by simp <;> omega)]; rw [HCC.out]; exact h1.2.2.2⟩
      · have h1 := V2.out j (by omega) hj'
        exact ⟨by rw [World.cell?_setCell_other _ _ _ _ (by simp <;> omega), World.cell?_setCell_other _ _ _ _ (by simp <;> omega), World.cell?_setCell_other _ _ _ _ (by simp <;> omega), World.cell?_setCell_other _ _ _ _ (by simp <;> omega)]; rw [HCC.out]; exact h1.1, by rw [World.cell?_setCell_other _ _ _ _ (by simp <;> omega), World.cell?_setCell_other _ _ _ _ (by simp <;> omega), World.cell?_setCell_other _ _ _ _ (by simp <;> omega), World.cell?_setCell_other _ _ _ _ (by simp <;> omega)]; rw [HCC.out]; exact h1.2.1, by rw [World.cell?_setCell_other _ _ _ _ (by simp <;> omega), World.cell?_setCell_other _ _ _ _ (by simp <;> omega), World.cell?_setCell_other _ _ _ _ (by simp <;> omega), World.cell?_setCell_other _ _ _ _ (by simp <;> omega)]; rw [HCC.out]; exact h1.2.2.1, by rw [World.cell?_setCell_other _ _ _ _ (by simp <;> omega), World.cell?_setCell_other _ _ _ _ (by simp <;> omega), World.cell?_setCell_other _ _ _ _ (by simp <;> omega), World.cell?_setCell_other _ _ _ _ (by simp <;> omega)]; rw [HCC.out]; exact h1.2.2.2⟩
      · exact ((((hB.out).setCell (Nat.le_refl _) _).setCell (Nat.le_refl _) _).setCell (Nat.le_refl _) _).setCell (Nat.le_refl _) _
    · go_wp2
      go_ret
      obtain rfl : k = n := by omega
      obtain ⟨v1, _, _⟩ := hv.out
      exact ⟨_, _, rfl, ⟨h.most, h.wf3, fun j hj => ⟨_, rfl, by simpa [add_plain] using (v1 j hj).1, by simpa [add_plain] using (v1 j hj).2.1, by simpa [add_plain] using (v1 j hj).2.2.1, by simpa [add_plain] using (v1 j hj).2.2.2⟩⟩, hb⟩
set_option maxHeartbeats 800000 in
theorem laws_eqNote {x3 y3 : Nat} {x0 : Int} {x1 : Int} {x2 : Int} {X3 : Option Nat} (w : World) (h3 : Fl .f32 x3 X3) (h3' : Fl .f32 y3 X3) : Calls Try.prog 65 #[.agg #[Value.int .i64 (x0), Value.int .i64 (x1), Value.int .i64 (x2), Value.float .f32 (x3)], .agg #[Value.int .i64 (x0), Value.int .i64 (x1), Value.int .i64 (x2), Value.float .f32 (y3)]] w (RV (.bool true) w) := by
  have hal := fun o o' m => below_drewN (((Below.refl _ w).alloc (Nat.le_refl _) o).alloc (by simp) o') m
  go_enter Try.func65, Try.ntmps65
  go_wp2_with fail
  refine (laws_sameFloat (h3.cw _) (h3'.cw _) _).mono ?_; rintro e w' ⟨rfl, q3, rfl⟩
  go_wp2_with fail
  go_ret
  exact ⟨rfl, hal _ _ _⟩
set_option maxHeartbeats 1600000 in
theorem laws_eqNoteS {A A' : Option Addr} {n c c' : Nat} {f0 : Nat → Int} {f1 : Nat → Int} {f2 : Nat → Int} {f3 : Nat → Nat} (w : World) (h : RdNote w A n f0 f1 f2 f3) (h' : RdNote w A' n f0 f1 f2 f3) (hn : n ≤ 1048576) : Calls Try.prog 32 #[.slice A n c, .slice A' n c'] w (RV (.bool true) w) := by
  go_enter Try.func32, Try.ntmps32
  go_wp2
  go_loopw [5] (fun i w' => ∃ k, k ≤ n ∧ i = .int .i64 (k : Nat) ∧ Below w.heap.size w w') (fun i _ => n - (intOf i).toNat)
  case atStart => exact ⟨0, Nat.zero_le _, rfl, Below.refl _ _⟩
  case round =>
    obtain ⟨k, hk, rfl, hb⟩ := hrel
    by_cases hlt : k < n
    · obtain ⟨ad, rfl, c0, c1, c2, c3⟩ := (h.below hb).cell k hlt
      obtain ⟨bd, rfl, e0, e1, e2, e3⟩ := (h'.below hb).cell k hlt
      have d1 := c1
      rw [← add_off ad (k * 4) 1 (by decide)] at d1
      have d2 := c2
      rw [← add_off ad (k * 4) 2 (by decide)] at d2
      have d3 := c3
      rw [← add_off ad (k * 4) 3 (by decide)] at d3
      have j1 := e1
      rw [← add_off bd (k * 4) 1 (by decide)] at j1
      have j2 := e2
      rw [← add_off bd (k * 4) 2 (by decide)] at j2
      have j3 := e3
      rw [← add_off bd (k * 4) 3 (by decide)] at j3
      have hfl3 := Fl.self (h.wf3 k hlt)
      have hsz := hb.size
      clear h h'
      have CE := fun W => laws_eqNote (x0 := f0 k) (x1 := f1 k) (x2 := f2 k) (x3 := f3 k) (y3 := f3 k) W hfl3 hfl3
      go_wp2_with fail
      go_region_with (go_at_call 65; (with_reducible refine (CE _).mono ?_); rintro e w2 ⟨rfl, hb2⟩)
      all_goals
        have hB : Hid (Below w.heap.size w w2) := Lib.hid (by first | exact below_next (below_drewN hb 1) (by simpa using hsz) hb2 | exact below_next (below_drewN hb _) (by simpa using hsz) hb2)
        clear hb hb2
        go_wp2
        exact ⟨⟨k + 1, by omega, by go_num, hB.out⟩, by simp [intOf]; omega⟩
    · go_wp2
      go_ret
      exact ⟨rfl, hb⟩
theorem Row.rdNote {w : World} {A : Option Addr} {n : Nat} {l : List Value} (h : Row w [.i64, .i64, .i64, .f32] A n l) : ∃ f0 f1 f2 f3, RdNote w A n f0 f1 f2 f3 := by
  have key : ∀ j, j < n → ∃ p : Int × Int × Int × Nat, (∃ ad, A = some ad ∧ w.cell? (ad.add (j * 4)) = some (Value.int .i64 (p.1)) ∧ w.cell? (ad.add (j * 4 + 1)) = some (Value.int .i64 (p.2.1)) ∧ w.cell? (ad.add (j * 4 + 2)) = some (Value.int .i64 (p.2.2.1)) ∧ w.cell? (ad.add (j * 4 + 3)) = some (Value.float .f32 (p.2.2.2))) ∧ p.2.2.2 < 2 ^ FloatKind.f32.format.width := by
    intro j hj
    obtain ⟨u0, hu0, x0, rfl, hb0⟩ := h.kind j 0 .i64 hj rfl
    obtain ⟨u1, hu1, x1, rfl, hb1⟩ := h.kind j 1 .i64 hj rfl
    obtain ⟨u2, hu2, x2, rfl, hb2⟩ := h.kind j 2 .i64 hj rfl
    obtain ⟨u3, hu3, x3, rfl, hb3⟩ := h.kind j 3 .f32 hj rfl
    obtain ⟨ad0, e0, c0⟩ := h.cell _ _ hu0
    obtain ⟨ad1, e1, c1⟩ := h.cell _ _ hu1
    obtain ⟨ad2, e2, c2⟩ := h.cell _ _ hu2
    obtain ⟨ad3, e3, c3⟩ := h.cell _ _ hu3
    obtain rfl := Option.some.inj (e0.symm.trans e1)
    obtain rfl := Option.some.inj (e0.symm.trans e2)
    obtain rfl := Option.some.inj (e0.symm.trans e3)
    exact ⟨(x0, x1, x2, x3), ⟨ad0, e0, by simpa using c0, by simpa using c1, by simpa using c2, by simpa using c3⟩, hb3⟩
  obtain ⟨F, hF⟩ := Deep.choose_lt (α := Int × Int × Int × Nat) (n := n) key
  exact ⟨fun j => (F j).1, fun j => (F j).2.1, fun j => (F j).2.2.1, fun j => (F j).2.2.2, h.most, fun j hj => (hF j hj).2, fun j hj => (hF j hj).1⟩
set_option maxHeartbeats 400000 in
theorem laws_szNoteS {A : Option Addr} {n c : Nat} {left : Int} (w : World) (hl : 0 ≤ left ∧ left ≤ 1048576) (hn : n ≤ maxLen) : Calls Try.prog 28 #[.slice A n c, .int .i64 left] w fun e w' => e = .returned (.int .i64 (if left < (n : Int) then -1 else left - n)) ∧ w = w' := by
  obtain ⟨h0, h1⟩ := hl
  have hm : n ≤ 9223372036854775807 := by simp only [maxLen] at hn; omega
  by_cases h : left < (n : Int)
  all_goals
    go_enter Try.func28, Try.ntmps28
    go_wp2
    go_ret
    exact ⟨by simp [h], rfl⟩

def noteC (a b c : Int) : Bool := inC a 0 1000 && inC b 0 1000 && inC c 0 127
set_option maxHeartbeats 800000 in
theorem spec_l05Note {p : Addr} {a b c : Int} (w : World) (h0 : w.cell? p = some (.int .i64 a)) (h1 : w.cell? ⟨p.block, p.off + 1, none⟩ = some (.int .i64 b)) (h2 : w.cell? ⟨p.block, p.off + 2, none⟩ = some (.int .i64 c)) : Calls Try.prog 95 #[.pointer (some p)] w fun e w' => e = .returned (.bool (noteC a b c)) ∧ w = w' := by
  unfold noteC
  go_enter Try.func95, Try.ntmps95
  go_wp2_with (go_at_call 58; refine (spec_l00In _).mono ?_; rintro e w' ⟨rfl, rfl⟩)
  all_goals
    go_ret
    exact ⟨ret_bool (by simp_all), rfl⟩
set_option maxHeartbeats 400000 in
theorem impl_isHeld' (n : Int) (w : World) : Calls Try.prog 96 #[.int .i64 n] w fun e w' => e = .returned (.bool (inC n 0 1000)) ∧ w = w' := by
  go_enter Try.func96, Try.ntmps96
  go_wp2_with ((go_at_call 60; refine (impl_within _).mono ?_; rintro e w' ⟨rfl, rfl⟩))
  go_ret
  exact ⟨rfl, rfl⟩
set_option maxHeartbeats 400000 in
theorem impl_isPitch (n : Int) (w : World) : Calls Try.prog 97 #[.int .i64 n] w fun e w' => e = .returned (.bool (inC n 0 127)) ∧ w = w' := by
  go_enter Try.func97, Try.ntmps97
  go_wp2_with ((go_at_call 60; refine (impl_within _).mono ?_; rintro e w' ⟨rfl, rfl⟩))
  go_ret
  exact ⟨rfl, rfl⟩
set_option maxHeartbeats 400000 in
theorem impl_isNote {a b c : Int} {g : Nat} (w : World) : Calls Try.prog 64 #[.agg #[.int .i64 a, .int .i64 b, .int .i64 c, .float .f32 g]] w (RV (.bool (noteC a b c)) w) := by
  unfold noteC
  go_enter Try.func64, Try.ntmps64
  go_wp2_with (first | (go_at_call 96; refine (impl_isHeld' _ _).mono ?_; rintro e w' ⟨rfl, rfl⟩) | (go_at_call 97; refine (impl_isPitch _ _).mono ?_; rintro e w' ⟨rfl, rfl⟩))
  all_goals
    go_ret
    refine ⟨ret_bool (by simp_all), ?_⟩
    (repeat (first | exact Below.refl _ _ | (with_reducible assumption) | refine below_drewN ?_ _ | refine Below.drew ?_ | refine Below.alloc ?_ (by simp; try omega) _))
def stepC (f0 : Nat → Int) (k : Nat) : Bool := if k = 0 then true else decide (f0 (k - 1) ≤ f0 k)
def notesC (n : Nat) (f0 f1 f2 : Nat → Int) : Bool := upto n (fun k => noteC (f0 k) (f1 k) (f2 k) && stepC f0 k) && decide (n ≤ 12)
theorem qs5 {P : Program} {f : FuncId} {args : Array Value} {w : World} {n : Nat} {v : Value} (h : Calls P f args (w.drewN n) fun e w' => e = .returned v ∧ w.drewN n = w') : Calls P f args (w.drewN n) fun e w'' => e = .returned v ∧ ∃ m, w'' = w.drewN m :=
  h.mono fun _ _ ⟨he, hm⟩ => ⟨he, n, hm.symm⟩
theorem stepC_zero (f0 : Nat → Int) : stepC f0 0 = true := rfl
theorem stepC_pos (f0 : Nat → Int) {k : Nat} (h : 0 < k) : stepC f0 k = decide (f0 (k - 1) ≤ f0 k) := by
  unfold stepC; rw [if_neg (by omega)]
set_option maxHeartbeats 1600000 in
theorem spec_l05Notes {A : Option Addr} {n c : Nat} {f0 f1 f2 : Nat → Int} {f3 : Nat → Nat} (w : World) (h : RdNote w A n f0 f1 f2 f3) (hn : n ≤ 1048576) : Calls Try.prog 62 #[.slice A n c] w (RV (.bool (notesC n f0 f1 f2)) w) := by
  go_enter Try.func62, Try.ntmps62
  go_wp2
  go_loopw [6] (fun i w' => ∃ k, k ≤ n ∧ i = .int .i64 (k : Nat) ∧ Hid (∀ j, j < k → (noteC (f0 j) (f1 j) (f2 j) && stepC f0 j) = true) ∧ Below w.heap.size w w') (fun i _ => n - (intOf i).toNat)
  case atStart => exact ⟨0, Nat.zero_le _, rfl, Lib.hid (fun j hj => by omega), Below.refl _ _⟩
  case round =>
    obtain ⟨k, hk, rfl, ht, hb⟩ := hrel
    by_cases hlt : k < n
    · obtain ⟨ad, rfl, c0, c1, c2, c3⟩ := (h.below hb).cell k hlt
      have d1 := c1
      rw [← add_off ad (k * 4) 1 (by decide)] at d1
      have d2 := c2
      rw [← add_off ad (k * 4) 2 (by decide)] at d2
      have H := Lib.hid hlt
      have CN : ∀ m, Calls Try.prog 95 #[.pointer (some (ad.add (k * 4)))] (wr.drewN m) fun e w' => e = .returned (.bool (noteC (f0 k) (f1 k) (f2 k))) ∧ wr.drewN m = w' := fun m => spec_l05Note (wr.drewN m) c0 d1 d2
      cases cn : noteC (f0 k) (f1 k) (f2 k)
      · rw [cn] at CN
        clear h
        go_wp2_with fail
        go_quiet ((go_at_call 95; refine qs5 (CN _)))
        go_wp2
        go_ret
        exact ⟨by rw [notesC, upto_false (p := fun k => noteC (f0 k) (f1 k) (f2 k) && stepC f0 k) H.out (by simp [cn])]; rfl, below_drewN hb _⟩
      · rw [cn] at CN
        rcases Nat.eq_zero_or_pos k with h0 | h0
        · subst h0
          clear h
          go_wp2_with fail
          go_quiet ((go_at_call 95; refine qs5 (CN _)))
          go_wp2
          refine ⟨⟨1, by omega, by go_num, Lib.hid (fun j hj => ?_), below_drewN hb _⟩, by simp [intOf]; omega⟩
          obtain rfl : j = 0 := by omega
          rw [cn, stepC_zero]; rfl
        · have hk1 : k - 1 < n := by omega
          obtain ⟨ad2, he, p0, _, _, _⟩ := (h.below hb).cell (k - 1) hk1
          obtain rfl := Option.some.inj he
          have hk2 : ((k : Int) - 1).toNat = k - 1 := by omega
          have hk3 : (0 : Int) ≤ (k : Int) - 1 := by omega
          have hk4 : (k : Int) - 1 < (n : Int) := by omega
          have hk5 : (0 : Int) < (k : Int) := by omega
          have H0 := Lib.hid h0
          clear h he
          by_cases hcmp : f0 k < f0 (k - 1)
          · go_wp2_with fail
            go_quiet ((go_at_call 95; refine qs5 (CN _)))
            go_wp2
            go_ret
            exact ⟨by rw [notesC, upto_false (p := fun k => noteC (f0 k) (f1 k) (f2 k) && stepC f0 k) H.out (by rw [stepC_pos f0 H0.out, cn]; simp; omega)]; rfl, below_drewN hb _⟩
          · go_wp2_with fail
            go_quiet ((go_at_call 95; refine qs5 (CN _)))
            go_wp2
            refine ⟨⟨k + 1, by omega, by go_num, Lib.hid (fun j hj => ?_), below_drewN hb _⟩, by simp [intOf]; omega⟩
            rcases Nat.lt_or_ge j k with h1 | h1
            · exact ht.out j h1
            · obtain rfl : j = k := by omega
              rw [cn, stepC_pos f0 H0.out]; simp; omega
    · obtain rfl : k = n := by omega
      have hu := upto_true (p := fun k => noteC (f0 k) (f1 k) (f2 k) && stepC f0 k) ht.out
      by_cases h8 : k ≤ 12
      all_goals
        go_wp2
        go_ret
        refine ⟨ret_bool ?_, hb⟩
        rw [notesC, hu]
        simp
        try omega
end Go.Proofs.Ytlenpecnfilkjaa
