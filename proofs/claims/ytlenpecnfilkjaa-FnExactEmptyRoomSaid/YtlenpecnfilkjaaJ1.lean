/- Slices of delays and of passes: what is read, what is made. Conditions: none beside the contracts' own. -/
import Derived.Test.YtlenpecnfilkjaaQ1
import Derived.Test.YtlenpecnfilkjaaU0
import Derived.Handy
import Derived.Deep.RegionWith
set_option linter.unusedVariables false
set_option linter.unusedSimpArgs false
namespace Go.Proofs.Ytlenpecnfilkjaa
open Go.RowKit
theorem add_off (ad : Addr) (m j : Nat) (hj : (j == 0) = false) : (⟨(ad.add m).block, (ad.add m).off + j, none⟩ : Addr) = ad.add (m + j) := by
  have hj' : j ≠ 0 := by simpa using hj
  unfold Addr.add
  by_cases h1 : m = 0
  · subst h1; simp [hj']
  · have h2 : m + j ≠ 0 := by omega
    simp [h1, h2, Nat.add_assoc]
/-- A slice of records that is read. -/
structure RdDelay (w : World) (A : Option Addr) (n : Nat) (f0 : Nat → Int) (f1 : Nat → Nat) (f2 : Nat → Nat) (f3 : Nat → Nat) (f4 : Nat → Bool) : Prop where
  most : n ≤ maxLen
  wf1 : ∀ k, k < n → f1 k < 2 ^ FloatKind.f32.format.width
  wf2 : ∀ k, k < n → f2 k < 2 ^ FloatKind.f32.format.width
  wf3 : ∀ k, k < n → f3 k < 2 ^ FloatKind.f32.format.width
  cell : ∀ k, k < n → ∃ ad, A = some ad ∧ w.cell? (ad.add (k * 5)) = some (Value.int .i64 (f0 k)) ∧ w.cell? (ad.add (k * 5 + 1)) = some (Value.float .f32 (f1 k)) ∧ w.cell? (ad.add (k * 5 + 2)) = some (Value.float .f32 (f2 k)) ∧ w.cell? (ad.add (k * 5 + 3)) = some (Value.float .f32 (f3 k)) ∧ w.cell? (ad.add (k * 5 + 4)) = some (Value.bool (f4 k))
theorem RdDelay.below {w w' : World} {A : Option Addr} {n : Nat} {f0 : Nat → Int} {f1 : Nat → Nat} {f2 : Nat → Nat} {f3 : Nat → Nat} {f4 : Nat → Bool} (h : RdDelay w A n f0 f1 f2 f3 f4) (hb : Below w.heap.size w w') : RdDelay w' A n f0 f1 f2 f3 f4 :=
  ⟨h.most, h.wf1, h.wf2, h.wf3, fun k hk => by
    obtain ⟨ad, e, c0, c1, c2, c3, c4⟩ := h.cell k hk
    exact ⟨ad, e, (hb.cell (World.block_lt_of_cell? w _ c0)).trans c0, (hb.cell (World.block_lt_of_cell? w _ c1)).trans c1, (hb.cell (World.block_lt_of_cell? w _ c2)).trans c2, (hb.cell (World.block_lt_of_cell? w _ c3)).trans c3, (hb.cell (World.block_lt_of_cell? w _ c4)).trans c4⟩⟩
theorem RdDelay.same {g n : Nat} {w w' : World} {f0 : Nat → Int} {f1 : Nat → Nat} {f2 : Nat → Nat} {f3 : Nat → Nat} {f4 : Nat → Bool} (h : RdDelay w (some ⟨g, 0, none⟩) n f0 f1 f2 f3 f4) (hb : w'.heap[g]? = w.heap[g]?) : RdDelay w' (some ⟨g, 0, none⟩) n f0 f1 f2 f3 f4 :=
  ⟨h.most, h.wf1, h.wf2, h.wf3, fun k hk => by
    obtain ⟨ad, e, c0, c1, c2, c3, c4⟩ := h.cell k hk
    cases e
    refine ⟨_, rfl, ?_, ?_, ?_, ?_, ?_⟩
    · rw [add_plain] at c0 ⊢; exact (World.cell?_of_block (a := ⟨g, k * 5, none⟩) hb).trans c0
    · rw [add_plain] at c1 ⊢; exact (World.cell?_of_block (a := ⟨g, k * 5 + 1, none⟩) hb).trans c1
    · rw [add_plain] at c2 ⊢; exact (World.cell?_of_block (a := ⟨g, k * 5 + 2, none⟩) hb).trans c2
    · rw [add_plain] at c3 ⊢; exact (World.cell?_of_block (a := ⟨g, k * 5 + 3, none⟩) hb).trans c3
    · rw [add_plain] at c4 ⊢; exact (World.cell?_of_block (a := ⟨g, k * 5 + 4, none⟩) hb).trans c4⟩
/-- A slice of records of the call's own. -/
structure OwDelay (w : World) (B : Nat) (v : Value) (n : Nat) (f0 : Nat → Int) (f1 : Nat → Nat) (f2 : Nat → Nat) (f3 : Nat → Nat) (f4 : Nat → Bool) : Prop where
  own : ∃ g c, v = .slice (some ⟨g, 0, none⟩) n c ∧ B ≤ g ∧ g < w.heap.size ∧ RdDelay w (some ⟨g, 0, none⟩) n f0 f1 f2 f3 f4 ∧ ∀ q, w.frozen? ⟨g, q, none⟩ = false
section
variable {w w' : World} {B : Nat} {v : Value} {n : Nat} {f0 : Nat → Int} {f1 : Nat → Nat} {f2 : Nat → Nat} {f3 : Nat → Nat} {f4 : Nat → Bool}
theorem OwDelay.kept (h : OwDelay w B v n f0 f1 f2 f3 f4) (hs : w.heap.size ≤ w'.heap.size) (hk : ∀ g, v.ownBlock = some g → g < w.heap.size → w'.heap[g]? = w.heap[g]?) : OwDelay w' B v n f0 f1 f2 f3 f4 := by
  obtain ⟨g, c, rfl, hB, hg, hr, hf⟩ := h.own
  have hb := hk g (by simp [Value.ownBlock]) hg
  exact ⟨g, c, rfl, hB, Nat.lt_of_lt_of_le hg hs, hr.same hb, fun q => (World.frozen?_of_block (a := ⟨g, q, none⟩) hb).trans (hf q)⟩
theorem OwDelay.below (h : OwDelay w B v n f0 f1 f2 f3 f4) (hb : Below w.heap.size w w') : OwDelay w' B v n f0 f1 f2 f3 f4 := h.kept hb.size fun g _ hg => hb.block g hg
theorem OwDelay.other (h : OwDelay w B v n f0 f1 f2 f3 f4) {row : Option Nat} (hg : w.grownBy w' row) (hne : v.ownBlock = none ∨ v.ownBlock ≠ row) : OwDelay w' B v n f0 f1 f2 f3 f4 := h.kept hg.size fun g e hl => hg.block g hl (fun e' => by
  rcases hne with h1 | h1
  · rw [e] at h1; cases h1
  · exact h1 (by rw [e, e']))
theorem OwDelay.shape_n (h : OwDelay w B v n f0 f1 f2 f3 f4) {m : Nat} (hl : n = m) : ∃ A c, v = .slice A m c := by
  obtain ⟨g, c, rfl, _⟩ := h.own
  exact ⟨_, c, by rw [hl]⟩
theorem OwDelay.base (h : OwDelay w B v n f0 f1 f2 f3 f4) (k : Nat) (hk : v.ownBlock = some k) : B ≤ k := by
  obtain ⟨g, c, rfl, hB, _⟩ := h.own
  have : g = k := by simpa [Value.ownBlock] using hk
  omega
theorem OwDelay.lt (h : OwDelay w B v n f0 f1 f2 f3 f4) (k : Nat) (hk : v.ownBlock = some k) : k < w.heap.size := by
  obtain ⟨g, c, rfl, _, hg, _⟩ := h.own
  have : g = k := by simpa [Value.ownBlock] using hk
  omega
theorem OwDelay.put (h : OwDelay w B v n f0 f1 f2 f3 f4) {a : Addr} (ha : a.block < B) (u : Value) : OwDelay (w.setCell a u) B v n f0 f1 f2 f3 f4 := h.other (grown_set w a u) (.inr (fun e => by have := h.base _ e; omega))
theorem OwDelay.low (h : OwDelay w B v n f0 f1 f2 f3 f4) {B' : Nat} (hb : B' ≤ B) : OwDelay w B' v n f0 f1 f2 f3 f4 := by
  obtain ⟨g, c, e, hB, hr⟩ := h.own
  exact ⟨g, c, e, Nat.le_trans hb hB, hr⟩
theorem OwDelay.rd {A : Option Addr} {c m : Nat} (h : OwDelay w B (.slice A m c) n f0 f1 f2 f3 f4) (_ : n = m) : RdDelay w A n f0 f1 f2 f3 f4 := by
  obtain ⟨g, c', hv, _, _, hr, _⟩ := h.own
  injection hv with h1 h2 h3
  subst h1
  exact hr
end
set_option maxHeartbeats 400000 in
theorem laws_toDelay {x0 : Int} {x1 : Nat} {x2 : Nat} {x3 : Nat} {x4 : Bool} (w : World) : Calls Try.prog 102 #[.agg #[Value.int .i64 (x0), Value.float .f32 (x1), Value.float .f32 (x2), Value.float .f32 (x3), Value.bool (x4)]] w (RV (.agg #[Value.int .i64 (x0), Value.float .f32 (x1), Value.float .f32 (x2), Value.float .f32 (x3), Value.bool (x4)]) w) := by
  go_enter Try.func102, Try.ntmps102
  go_wp2
  refine bodyPost_ret (v := .agg #[Value.int .i64 (x0), Value.float .f32 (x1), Value.float .f32 (x2), Value.float .f32 (x3), Value.bool (x4)]) ?_ rfl ⟨rfl, ?_⟩
  · simp [results, Try.results102, go_sem]
  · (repeat (first | exact Below.refl _ _ | (with_reducible assumption) | refine below_drewN ?_ _ | refine Below.drew ?_ | refine Below.alloc ?_ (by simp; try omega) _))
set_option maxHeartbeats 1600000 in
theorem laws_toDelayS {A : Option Addr} {n c : Nat} {f0 : Nat → Int} {f1 : Nat → Nat} {f2 : Nat → Nat} {f3 : Nat → Nat} {f4 : Nat → Bool} (w : World) (h : RdDelay w A n f0 f1 f2 f3 f4) (hn : n ≤ 1048576) : Calls Try.prog 77 #[.slice A n c] w fun e w' => ∃ v, e = .returned v ∧ OwDelay w' w.heap.size v n f0 f1 f2 f3 f4 ∧ Below w.heap.size w w' := by
  have hinfo : (Try.prog.info? 140).map (fun i => (i.zero, i.size, i.bytes)) = some (some (.agg #[.int .i64 0, .float .f32 0, .float .f32 0, .float .f32 0, .bool false]), 5, 24) := by kernel_rfl
  obtain ⟨i0, hi, hzz⟩ := Option.map_eq_some_iff.1 hinfo
  simp only [Prod.mk.injEq] at hzz
  obtain ⟨hz0, hz1, hz2⟩ := hzz
  have hmk : ∀ W : World, (Instr.makeSlice 73 (.int .i64 (n : Int)) (.int .i64 (n : Int))).run Try.prog W = .ok (.slice (some ⟨W.heap.size, 0, none⟩) n n) (W.alloc (.cells (madeCells #[.int .i64 0, .float .f32 0, .float .f32 0, .float .f32 0, .bool false] (n * 5)) 140)) := by
    intro W
    have := run_make W 73 140 i0 _ Try.underlying73 hi hz0 .i64 .i64 n n (by omega) (by omega) (by rw [hz2]; omega) (by omega)
    rw [hz1] at this
    simpa [Value.cells] using this
  clear hi hz0 hz1 hz2 hinfo
  go_enter Try.func77, Try.ntmps77
  go_wp2
  go_loopw [4] (fun i w' => ∃ k, k ≤ n ∧ i = .int .i64 (k : Nat) ∧ Hid ((∀ j, j < k → w'.cell? ⟨w.heap.size, j * 5, none⟩ = some (Value.int .i64 (f0 j)) ∧ w'.cell? ⟨w.heap.size, j * 5 + 1, none⟩ = some (Value.float .f32 (f1 j)) ∧ w'.cell? ⟨w.heap.size, j * 5 + 2, none⟩ = some (Value.float .f32 (f2 j)) ∧ w'.cell? ⟨w.heap.size, j * 5 + 3, none⟩ = some (Value.float .f32 (f3 j)) ∧ w'.cell? ⟨w.heap.size, j * 5 + 4, none⟩ = some (Value.bool (f4 j))) ∧ (∀ j, k ≤ j → j < n → (∃ u, w'.cell? ⟨w.heap.size, j * 5, none⟩ = some u) ∧ (∃ u, w'.cell? ⟨w.heap.size, j * 5 + 1, none⟩ = some u) ∧ (∃ u, w'.cell? ⟨w.heap.size, j * 5 + 2, none⟩ = some u) ∧ (∃ u, w'.cell? ⟨w.heap.size, j * 5 + 3, none⟩ = some u) ∧ (∃ u, w'.cell? ⟨w.heap.size, j * 5 + 4, none⟩ = some u)) ∧ (∀ q, w'.frozen? ⟨w.heap.size, q, none⟩ = false)) ∧ w.heap.size < w'.heap.size ∧ Below w.heap.size w w') (fun i _ => n - (intOf i).toNat)
  case atStart =>
    refine ⟨0, Nat.zero_le _, rfl, Lib.hid ⟨fun j hj => by omega, fun j _ hj => ?_, fun q => by simp [go_sem]⟩, by simp, (Below.refl _ _).alloc (Nat.le_refl _) _⟩
    have key : ∀ q, q < n * 5 → ∃ u, (w.alloc (.cells (madeCells #[.int .i64 0, .float .f32 0, .float .f32 0, .float .f32 0, .bool false] (n * 5)) 140)).cell? ⟨w.heap.size, q, none⟩ = some u := by
      intro q hq
      rw [cell_of_row _ _ _ _ _ (0, 0) (heap_alloc_new w _)]
      exact ⟨_, Array.getElem?_eq_getElem (by rw [size_madeCells]; exact hq)⟩
    exact ⟨key _ (by omega), key _ (by omega), key _ (by omega), key _ (by omega), key _ (by omega)⟩
  case round =>
    obtain ⟨k, hk, rfl, hv, hsz, hb⟩ := hrel
    by_cases hlt : k < n
    · obtain ⟨ad, rfl, c0, c1, c2, c3, c4⟩ := (h.below hb).cell k hlt
      have d1 := c1
      rw [← add_off ad (k * 5) 1 (by decide)] at d1
      have d2 := c2
      rw [← add_off ad (k * 5) 2 (by decide)] at d2
      have d3 := c3
      rw [← add_off ad (k * 5) 3 (by decide)] at d3
      have d4 := c4
      rw [← add_off ad (k * 5) 4 (by decide)] at d4
      clear h
      go_wp2_with fail
      refine (laws_toDelay _).mono ?_
      rintro e w2 ⟨rfl, hb2⟩
      obtain ⟨hcc, hff⟩ := bcell hb2
      have hsz2 : w.heap.size < w2.heap.size := Nat.lt_of_lt_of_le hsz hb2.size
      have hB := Lib.hid (below_next hb (Nat.le_of_lt hsz) hb2)
      obtain ⟨v1, v2, v3⟩ := hv.out
      have V1 := Lib.hid (fun j hj => v1 j hj)
      have V2 := Lib.hid (fun j hj hj' => v2 j hj hj')
      obtain ⟨⟨u0, hu0⟩, ⟨u1, hu1⟩, ⟨u2, hu2⟩, ⟨u3, hu3⟩, ⟨u4, hu4⟩⟩ := v2 k (Nat.le_refl _) hlt
      have g0 : w2.cell? ⟨w.heap.size, k * 5, none⟩ = some u0 := (hcc _ _ hsz).trans hu0
      have g1 : w2.cell? ⟨w.heap.size, k * 5 + 1, none⟩ = some u1 := (hcc _ _ hsz).trans hu1
      have g2 : w2.cell? ⟨w.heap.size, k * 5 + 2, none⟩ = some u2 := (hcc _ _ hsz).trans hu2
      have g3 : w2.cell? ⟨w.heap.size, k * 5 + 3, none⟩ = some u3 := (hcc _ _ hsz).trans hu3
      have g4 : w2.cell? ⟨w.heap.size, k * 5 + 4, none⟩ = some u4 := (hcc _ _ hsz).trans hu4
      have hfr : ∀ q, w2.frozen? ⟨w.heap.size, q, none⟩ = false := fun q => by rw [hff _ _ hsz]; exact v3 q
      have hfr0 := hfr (k * 5)
      have hfr1 := hfr (k * 5 + 1)
      have hfr2 := hfr (k * 5 + 2)
      have hfr3 := hfr (k * 5 + 3)
      have hfr4 := hfr (k * 5 + 4)
      have HFR := Lib.hid hfr
      have HCC := Lib.hid (fun q => hcc w.heap.size q hsz)
      clear hb2 hb hcc hff v1 v2 v3 hv hfr c0 c1 c2 c3 c4 d1 d2 d3 d4
      go_wp2
      refine ⟨⟨k + 1, by omega, by go_num, Lib.hid ⟨fun j hj => ?_, fun j hj hj' => ?_, fun q => by simpa using HFR.out q⟩, by simpa using hsz2, ?_⟩, by simp [intOf]; omega⟩
      · by_cases hjk : j = k
        · subst hjk
          exact ⟨by rw [World.cell?_setCell_other _ _ _ _ (by simp)]; rw [World.cell?_setCell_other _ _ _ _ (by simp)]; rw [World.cell?_setCell_other _ _ _ _ (by simp)]; rw [World.cell?_setCell_other _ _ _ _ (by simp)]; exact World.cell?_setCell_same _ _ _ (g0), by rw [World.cell?_setCell_other _ _ _ _ (by simp)]; rw [World.cell?_setCell_other _ _ _ _ (by simp)]; rw [World.cell?_setCell_other _ _ _ _ (by simp)]; exact World.cell?_setCell_same _ _ _ (by rw [World.cell?_setCell_other _ _ _ _ (by simp)]; exact g1), by rw [World.cell?_setCell_other _ _ _ _ (by simp)]; rw [World.cell?_setCell_other _ _ _ _ (by simp)]; exact World.cell?_setCell_same _ _ _ (by rw [World.cell?_setCell_other _ _ _ _ (by simp)]; rw [World.cell?_setCell_other _ _ _ _ (by simp)]; exact g2), by rw [World.cell?_setCell_other _ _ _ _ (by simp)]; exact World.cell?_setCell_same _ _ _ (by rw [World.cell?_setCell_other _ _ _ _ (by simp)]; rw [World.cell?_setCell_other _ _ _ _ (by simp)]; rw [World.cell?_setCell_other _ _ _ _ (by simp)]; exact g3), by exact World.cell?_setCell_same _ _ _ (by rw [World.cell?_setCell_other _ _ _ _ (by simp)]; rw [World.cell?_setCell_other _ _ _ _ (by simp)]; rw [World.cell?_setCell_other _ _ _ _ (by simp)]; rw [World.cell?_setCell_other _ _ _ _ (by simp)]; exact g4)⟩
        · have h1 := V1.out j (by omega)
          exact ⟨by rw [World.cell?_setCell_other _ _ _ _ (by simp <;> omega), World.cell?_setCell_other _ _ _ _ (by simp <;> omega), World.cell?_setCell_other _ _ _ _ (by simp <;> omega), World.cell?_setCell_other _ _ _ _ (by simp <;> omega), World.cell?_setCell_other _ _ _ _ (by simp <;> omega)]; rw [HCC.out]; exact h1.1, by rw [World.cell?_setCell_other _ _ _ _ (by simp <;> omega), World.cell?_setCell_other _ _ _ _ (by simp <;> omega), World.cell?_setCell_other _ _ _ _ (by simp <;> omega), World.cell?_setCell_other _ _ _ _ (by simp <;> omega), World.cell?_setCell_other _ _ _ _ (by simp <;> omega)]; rw [HCC.out]; exact h1.2.1, by rw [World.cell?_setCell_other _ _ _ _ (by simp <;> omega), World.cell?_setCell_other _ _ _ _ (by simp <;> omega), World.cell?_setCell_other _ _ _ _ (by simp <;> omega), World.cell?_setCell_other _ _ _ _ (by simp <;> omega), World.cell?_setCell_other _ _ _ _ (by simp <;> omega)]; rw [HCC.out]; exact h1.2.2.1, by rw [World.cell?_setCell_other _ _ _ _ (by simp <;> omega), World.cell?_setCell_other _ _ _ _ (by simp <;> omega), World.cell?_setCell_other _ _ _ _ (by simp <;> omega), World.cell?_setCell_other _ _ _ _ (by simp <;> omega), World.cell?_setCell_other _ _ _ _ (by simp <;> omega)]; rw [HCC.out]; exact h1.2.2.2.1, by rw [World.cell?_setCell_other _ _ _ _ (by simp <;> omega), World.cell?_setCell_other _ _ _ _ (by simp <;> omega), World.cell?_setCell_other _ _ _ _ (by simp <;> omega), World.cell?_setCell_other _ _ _ _ (by simp <;> omega), World.cell?_setCell_other _ _ _ _ (by simp <;> omega)]; rw [HCC.out]; exact h1.2.2.2.2⟩
      · have h1 := V2.out j (by omega) hj'
        exact ⟨by rw [World.cell?_setCell_other _ _ _ _ (by simp <;> omega), World.cell?_setCell_other _ _ _ _ (by simp <;> omega), World.cell?_setCell_other _ _ _ _ (by simp <;> omega), World.cell?_setCell_other _ _ _ _ (by simp <;> omega), World.cell?_setCell_other _ _ _ _ (by simp <;> omega)]; rw [HCC.out]; exact h1.1, by rw [World.cell?_setCell_other _ _ _ _ (by simp <;> omega), World.cell?_setCell_other _ _ _ _ (by simp <;> omega), World.cell?_setCell_other _ _ _ _ (by simp <;> omega), World.cell?_setCell_other _ _ _ _ (by simp <;> omega), World.cell?_setCell_other _ _ _ _ (by simp <;> omega)]; rw [HCC.out]; exact h1.2.1, by rw [World.cell?_setCell_other _ _ _ _ (by simp <;> omega), World.cell?_setCell_other _ _ _ _ (by simp <;> omega), World.cell?_setCell_other _ _ _ _ (by simp <;> omega), World.cell?_setCell_other _ _ _ _ (by simp <;> omega), World.cell?_setCell_other _ _ _ _ (by simp <;> omega)]; rw [HCC.out]; exact h1.2.2.1, by rw [World.cell?_setCell_other _ _ _ _ (by simp <;> omega), World.cell?_setCell_other _ _ _ _ (by simp <;> omega), World.cell?_setCell_other _ _ _ _ (by simp <;> omega), World.cell?_setCell_other _ _ _ _ (by simp <;> omega), World.cell?_setCell_other _ _ _ _ (by simp <;> omega)]; rw [HCC.out]; exact h1.2.2.2.1, by rw [World.cell?_setCell_other _ _ _ _ (by simp <;> omega), World.cell?_setCell_other _ _ _ _ (by simp <;> omega), World.cell?_setCell_other _ _ _ _ (by simp <;> omega), World.cell?_setCell_other _ _ _ _ (by simp <;> omega), World.cell?_setCell_other _ _ _ _ (by simp <;> omega)]; rw [HCC.out]; exact h1.2.2.2.2⟩
      · exact (((((hB.out).setCell (Nat.le_refl _) _).setCell (Nat.le_refl _) _).setCell (Nat.le_refl _) _).setCell (Nat.le_refl _) _).setCell (Nat.le_refl _) _
    · go_wp2
      go_ret
      obtain rfl : k = n := by omega
      obtain ⟨v1, _, v3⟩ := hv.out
      exact ⟨_, rfl, ⟨_, _, rfl, Nat.le_refl _, hsz, ⟨h.most, h.wf1, h.wf2, h.wf3, fun j hj => ⟨_, rfl, by simpa [add_plain] using (v1 j hj).1, by simpa [add_plain] using (v1 j hj).2.1, by simpa [add_plain] using (v1 j hj).2.2.1, by simpa [add_plain] using (v1 j hj).2.2.2.1, by simpa [add_plain] using (v1 j hj).2.2.2.2⟩⟩, v3⟩, hb⟩
set_option maxHeartbeats 800000 in
theorem laws_eqDelay {x1 y1 : Nat} {x2 y2 : Nat} {x3 y3 : Nat} {x0 : Int} {x4 : Bool} {X1 : Option Nat} {X2 : Option Nat} {X3 : Option Nat} (w : World) (h1 : Fl .f32 x1 X1) (h1' : Fl .f32 y1 X1) (h2 : Fl .f32 x2 X2) (h2' : Fl .f32 y2 X2) (h3 : Fl .f32 x3 X3) (h3' : Fl .f32 y3 X3) : Calls Try.prog 104 #[.agg #[Value.int .i64 (x0), Value.float .f32 (x1), Value.float .f32 (x2), Value.float .f32 (x3), Value.bool (x4)], .agg #[Value.int .i64 (x0), Value.float .f32 (y1), Value.float .f32 (y2), Value.float .f32 (y3), Value.bool (x4)]] w (RV (.bool true) w) := by
  have hal := fun o o' m => below_drewN (((Below.refl _ w).alloc (Nat.le_refl _) o).alloc (by simp) o') m
  go_enter Try.func104, Try.ntmps104
  go_wp2_with fail
  refine (laws_sameFloat (h1.cw _) (h1'.cw _) _).mono ?_; rintro e w' ⟨rfl, q1, rfl⟩
  go_wp2_with fail
  refine (laws_sameFloat (h2.cw _) (h2'.cw _) _).mono ?_; rintro e w' ⟨rfl, q2, rfl⟩
  go_wp2_with fail
  refine (laws_sameFloat (h3.cw _) (h3'.cw _) _).mono ?_; rintro e w' ⟨rfl, q3, rfl⟩
  go_wp2_with fail
  go_ret
  exact ⟨rfl, hal _ _ _⟩
set_option maxHeartbeats 1600000 in
theorem laws_eqDelayS {A A' : Option Addr} {n c c' : Nat} {f0 : Nat → Int} {f1 : Nat → Nat} {f2 : Nat → Nat} {f3 : Nat → Nat} {f4 : Nat → Bool} (w : World) (h : RdDelay w A n f0 f1 f2 f3 f4) (h' : RdDelay w A' n f0 f1 f2 f3 f4) (hn : n ≤ 1048576) : Calls Try.prog 81 #[.slice A n c, .slice A' n c'] w (RV (.bool true) w) := by
  go_enter Try.func81, Try.ntmps81
  go_wp2
  go_loopw [5] (fun i w' => ∃ k, k ≤ n ∧ i = .int .i64 (k : Nat) ∧ Below w.heap.size w w') (fun i _ => n - (intOf i).toNat)
  case atStart => exact ⟨0, Nat.zero_le _, rfl, Below.refl _ _⟩
  case round =>
    obtain ⟨k, hk, rfl, hb⟩ := hrel
    by_cases hlt : k < n
    · obtain ⟨ad, rfl, c0, c1, c2, c3, c4⟩ := (h.below hb).cell k hlt
      obtain ⟨bd, rfl, e0, e1, e2, e3, e4⟩ := (h'.below hb).cell k hlt
      have d1 := c1
      rw [← add_off ad (k * 5) 1 (by decide)] at d1
      have d2 := c2
      rw [← add_off ad (k * 5) 2 (by decide)] at d2
      have d3 := c3
      rw [← add_off ad (k * 5) 3 (by decide)] at d3
      have d4 := c4
      rw [← add_off ad (k * 5) 4 (by decide)] at d4
      have j1 := e1
      rw [← add_off bd (k * 5) 1 (by decide)] at j1
      have j2 := e2
      rw [← add_off bd (k * 5) 2 (by decide)] at j2
      have j3 := e3
      rw [← add_off bd (k * 5) 3 (by decide)] at j3
      have j4 := e4
      rw [← add_off bd (k * 5) 4 (by decide)] at j4
      have hfl1 := Fl.self (h.wf1 k hlt)
      have hfl2 := Fl.self (h.wf2 k hlt)
      have hfl3 := Fl.self (h.wf3 k hlt)
      have hsz := hb.size
      clear h h'
      have CE := fun W => laws_eqDelay (x0 := f0 k) (x1 := f1 k) (y1 := f1 k) (x2 := f2 k) (y2 := f2 k) (x3 := f3 k) (y3 := f3 k) (x4 := f4 k) W hfl1 hfl1 hfl2 hfl2 hfl3 hfl3
      go_wp2_with fail
      go_region_with (go_at_call 104; (with_reducible refine (CE _).mono ?_); rintro e w2 ⟨rfl, hb2⟩)
      all_goals
        have hB : Hid (Below w.heap.size w w2) := Lib.hid (by first | exact below_next (below_drewN hb 1) (by simpa using hsz) hb2 | exact below_next (below_drewN hb _) (by simpa using hsz) hb2)
        clear hb hb2
        go_wp2
        exact ⟨⟨k + 1, by omega, by go_num, hB.out⟩, by simp [intOf]; omega⟩
    · go_wp2
      go_ret
      exact ⟨rfl, hb⟩
/-- A slice of records that is read. -/
structure RdPass (w : World) (A : Option Addr) (n : Nat) (f0 : Nat → Int) (f1 : Nat → Nat) : Prop where
  most : n ≤ maxLen
  wf1 : ∀ k, k < n → f1 k < 2 ^ FloatKind.f32.format.width
  cell : ∀ k, k < n → ∃ ad, A = some ad ∧ w.cell? (ad.add (k * 2)) = some (Value.int .i64 (f0 k)) ∧ w.cell? (ad.add (k * 2 + 1)) = some (Value.float .f32 (f1 k))
theorem RdPass.below {w w' : World} {A : Option Addr} {n : Nat} {f0 : Nat → Int} {f1 : Nat → Nat} (h : RdPass w A n f0 f1) (hb : Below w.heap.size w w') : RdPass w' A n f0 f1 :=
  ⟨h.most, h.wf1, fun k hk => by
    obtain ⟨ad, e, c0, c1⟩ := h.cell k hk
    exact ⟨ad, e, (hb.cell (World.block_lt_of_cell? w _ c0)).trans c0, (hb.cell (World.block_lt_of_cell? w _ c1)).trans c1⟩⟩
theorem RdPass.same {g n : Nat} {w w' : World} {f0 : Nat → Int} {f1 : Nat → Nat} (h : RdPass w (some ⟨g, 0, none⟩) n f0 f1) (hb : w'.heap[g]? = w.heap[g]?) : RdPass w' (some ⟨g, 0, none⟩) n f0 f1 :=
  ⟨h.most, h.wf1, fun k hk => by
    obtain ⟨ad, e, c0, c1⟩ := h.cell k hk
    cases e
    refine ⟨_, rfl, ?_, ?_⟩
    · rw [add_plain] at c0 ⊢; exact (World.cell?_of_block (a := ⟨g, k * 2, none⟩) hb).trans c0
    · rw [add_plain] at c1 ⊢; exact (World.cell?_of_block (a := ⟨g, k * 2 + 1, none⟩) hb).trans c1⟩
/-- A slice of records of the call's own. -/
structure OwPass (w : World) (B : Nat) (v : Value) (n : Nat) (f0 : Nat → Int) (f1 : Nat → Nat) : Prop where
  own : ∃ g c, v = .slice (some ⟨g, 0, none⟩) n c ∧ B ≤ g ∧ g < w.heap.size ∧ RdPass w (some ⟨g, 0, none⟩) n f0 f1 ∧ ∀ q, w.frozen? ⟨g, q, none⟩ = false
section
variable {w w' : World} {B : Nat} {v : Value} {n : Nat} {f0 : Nat → Int} {f1 : Nat → Nat}
theorem OwPass.kept (h : OwPass w B v n f0 f1) (hs : w.heap.size ≤ w'.heap.size) (hk : ∀ g, v.ownBlock = some g → g < w.heap.size → w'.heap[g]? = w.heap[g]?) : OwPass w' B v n f0 f1 := by
  obtain ⟨g, c, rfl, hB, hg, hr, hf⟩ := h.own
  have hb := hk g (by simp [Value.ownBlock]) hg
  exact ⟨g, c, rfl, hB, Nat.lt_of_lt_of_le hg hs, hr.same hb, fun q => (World.frozen?_of_block (a := ⟨g, q, none⟩) hb).trans (hf q)⟩
theorem OwPass.below (h : OwPass w B v n f0 f1) (hb : Below w.heap.size w w') : OwPass w' B v n f0 f1 := h.kept hb.size fun g _ hg => hb.block g hg
theorem OwPass.other (h : OwPass w B v n f0 f1) {row : Option Nat} (hg : w.grownBy w' row) (hne : v.ownBlock = none ∨ v.ownBlock ≠ row) : OwPass w' B v n f0 f1 := h.kept hg.size fun g e hl => hg.block g hl (fun e' => by
  rcases hne with h1 | h1
  · rw [e] at h1; cases h1
  · exact h1 (by rw [e, e']))
theorem OwPass.shape_n (h : OwPass w B v n f0 f1) {m : Nat} (hl : n = m) : ∃ A c, v = .slice A m c := by
  obtain ⟨g, c, rfl, _⟩ := h.own
  exact ⟨_, c, by rw [hl]⟩
theorem OwPass.base (h : OwPass w B v n f0 f1) (k : Nat) (hk : v.ownBlock = some k) : B ≤ k := by
  obtain ⟨g, c, rfl, hB, _⟩ := h.own
  have : g = k := by simpa [Value.ownBlock] using hk
  omega
theorem OwPass.lt (h : OwPass w B v n f0 f1) (k : Nat) (hk : v.ownBlock = some k) : k < w.heap.size := by
  obtain ⟨g, c, rfl, _, hg, _⟩ := h.own
  have : g = k := by simpa [Value.ownBlock] using hk
  omega
theorem OwPass.put (h : OwPass w B v n f0 f1) {a : Addr} (ha : a.block < B) (u : Value) : OwPass (w.setCell a u) B v n f0 f1 := h.other (grown_set w a u) (.inr (fun e => by have := h.base _ e; omega))
theorem OwPass.low (h : OwPass w B v n f0 f1) {B' : Nat} (hb : B' ≤ B) : OwPass w B' v n f0 f1 := by
  obtain ⟨g, c, e, hB, hr⟩ := h.own
  exact ⟨g, c, e, Nat.le_trans hb hB, hr⟩
theorem OwPass.rd {A : Option Addr} {c m : Nat} (h : OwPass w B (.slice A m c) n f0 f1) (_ : n = m) : RdPass w A n f0 f1 := by
  obtain ⟨g, c', hv, _, _, hr, _⟩ := h.own
  injection hv with h1 h2 h3
  subst h1
  exact hr
end
set_option maxHeartbeats 400000 in
theorem laws_toPass {x0 : Int} {x1 : Nat} (w : World) : Calls Try.prog 103 #[.agg #[Value.int .i64 (x0), Value.float .f32 (x1)]] w (RV (.agg #[Value.int .i64 (x0), Value.float .f32 (x1)]) w) := by
  go_enter Try.func103, Try.ntmps103
  go_wp2
  refine bodyPost_ret (v := .agg #[Value.int .i64 (x0), Value.float .f32 (x1)]) ?_ rfl ⟨rfl, ?_⟩
  · simp [results, Try.results103, go_sem]
  · (repeat (first | exact Below.refl _ _ | (with_reducible assumption) | refine below_drewN ?_ _ | refine Below.drew ?_ | refine Below.alloc ?_ (by simp; try omega) _))
set_option maxHeartbeats 1600000 in
theorem laws_toPassS {A : Option Addr} {n c : Nat} {f0 : Nat → Int} {f1 : Nat → Nat} (w : World) (h : RdPass w A n f0 f1) (hn : n ≤ 1048576) : Calls Try.prog 78 #[.slice A n c] w fun e w' => ∃ v, e = .returned v ∧ OwPass w' w.heap.size v n f0 f1 ∧ Below w.heap.size w w' := by
  have hinfo : (Try.prog.info? 142).map (fun i => (i.zero, i.size, i.bytes)) = some (some (.agg #[.int .i64 0, .float .f32 0]), 2, 16) := by kernel_rfl
  obtain ⟨i0, hi, hzz⟩ := Option.map_eq_some_iff.1 hinfo
  simp only [Prod.mk.injEq] at hzz
  obtain ⟨hz0, hz1, hz2⟩ := hzz
  have hmk : ∀ W : World, (Instr.makeSlice 74 (.int .i64 (n : Int)) (.int .i64 (n : Int))).run Try.prog W = .ok (.slice (some ⟨W.heap.size, 0, none⟩) n n) (W.alloc (.cells (madeCells #[.int .i64 0, .float .f32 0] (n * 2)) 142)) := by
    intro W
    have := run_make W 74 142 i0 _ Try.underlying74 hi hz0 .i64 .i64 n n (by omega) (by omega) (by rw [hz2]; omega) (by omega)
    rw [hz1] at this
    simpa [Value.cells] using this
  clear hi hz0 hz1 hz2 hinfo
  go_enter Try.func78, Try.ntmps78
  go_wp2
  go_loopw [4] (fun i w' => ∃ k, k ≤ n ∧ i = .int .i64 (k : Nat) ∧ Hid ((∀ j, j < k → w'.cell? ⟨w.heap.size, j * 2, none⟩ = some (Value.int .i64 (f0 j)) ∧ w'.cell? ⟨w.heap.size, j * 2 + 1, none⟩ = some (Value.float .f32 (f1 j))) ∧ (∀ j, k ≤ j → j < n → (∃ u, w'.cell? ⟨w.heap.size, j * 2, none⟩ = some u) ∧ (∃ u, w'.cell? ⟨w.heap.size, j * 2 + 1, none⟩ = some u)) ∧ (∀ q, w'.frozen? ⟨w.heap.size, q, none⟩ = false)) ∧ w.heap.size < w'.heap.size ∧ Below w.heap.size w w') (fun i _ => n - (intOf i).toNat)
  case atStart =>
    refine ⟨0, Nat.zero_le _, rfl, Lib.hid ⟨fun j hj => by omega, fun j _ hj => ?_, fun q => by simp [go_sem]⟩, by simp, (Below.refl _ _).alloc (Nat.le_refl _) _⟩
    have key : ∀ q, q < n * 2 → ∃ u, (w.alloc (.cells (madeCells #[.int .i64 0, .float .f32 0] (n * 2)) 142)).cell? ⟨w.heap.size, q, none⟩ = some u := by
      intro q hq
      rw [cell_of_row _ _ _ _ _ (0, 0) (heap_alloc_new w _)]
      exact ⟨_, Array.getElem?_eq_getElem (by rw [size_madeCells]; exact hq)⟩
    exact ⟨key _ (by omega), key _ (by omega)⟩
  case round =>
    obtain ⟨k, hk, rfl, hv, hsz, hb⟩ := hrel
    by_cases hlt : k < n
    · obtain ⟨ad, rfl, c0, c1⟩ := (h.below hb).cell k hlt
      have d1 := c1
      rw [← add_off ad (k * 2) 1 (by decide)] at d1
      clear h
      go_wp2_with fail
      refine (laws_toPass _).mono ?_
      rintro e w2 ⟨rfl, hb2⟩
      obtain ⟨hcc, hff⟩ := bcell hb2
      have hsz2 : w.heap.size < w2.heap.size := Nat.lt_of_lt_of_le hsz hb2.size
      have hB := Lib.hid (below_next hb (Nat.le_of_lt hsz) hb2)
      obtain ⟨v1, v2, v3⟩ := hv.out
      have V1 := Lib.hid (fun j hj => v1 j hj)
      have V2 := Lib.hid (fun j hj hj' => v2 j hj hj')
      obtain ⟨⟨u0, hu0⟩, ⟨u1, hu1⟩⟩ := v2 k (Nat.le_refl _) hlt
      have g0 : w2.cell? ⟨w.heap.size, k * 2, none⟩ = some u0 := (hcc _ _ hsz).trans hu0
      have g1 : w2.cell? ⟨w.heap.size, k * 2 + 1, none⟩ = some u1 := (hcc _ _ hsz).trans hu1
      have hfr : ∀ q, w2.frozen? ⟨w.heap.size, q, none⟩ = false := fun q => by rw [hff _ _ hsz]; exact v3 q
      have hfr0 := hfr (k * 2)
      have hfr1 := hfr (k * 2 + 1)
      have HFR := Lib.hid hfr
      have HCC := Lib.hid (fun q => hcc w.heap.size q hsz)
      clear hb2 hb hcc hff v1 v2 v3 hv hfr c0 c1 d1
      go_wp2
      refine ⟨⟨k + 1, by omega, by go_num, Lib.hid ⟨fun j hj => ?_, fun j hj hj' => ?_, fun q => by simpa using HFR.out q⟩, by simpa using hsz2, ?_⟩, by simp [intOf]; omega⟩
      · by_cases hjk : j = k
        · subst hjk
          exact ⟨by rw [World.cell?_setCell_other _ _ _ _ (by simp)]; exact World.cell?_setCell_same _ _ _ (g0), by exact World.cell?_setCell_same _ _ _ (by rw [World.cell?_setCell_other _ _ _ _ (by simp)]; exact g1)⟩
        · have h1 := V1.out j (by omega)
          exact ⟨by rw [World.cell?_setCell_other _ _ _ _ (by simp <;> omega), World.cell?_setCell_other _ _ _ _ (by simp <;> omega)]; rw [HCC.out]; exact h1.1, by rw [World.cell?_setCell_other _ _ _ _ (by simp <;> omega), World.cell?_setCell_other _ _ _ _ (by simp <;> omega)]; rw [HCC.out]; exact h1.2⟩
      · have h1 := V2.out j (by omega) hj'
        exact ⟨by rw [World.cell?_setCell_other _ _ _ _ (by simp <;> omega), World.cell?_setCell_other _ _ _ _ (by simp <;> omega)]; rw [HCC.out]; exact h1.1, by rw [World.cell?_setCell_other _ _ _ _ (by simp <;> omega), World.cell?_setCell_other _ _ _ _ (by simp <;> omega)]; rw [HCC.out]; exact h1.2⟩
      · exact ((hB.out).setCell (Nat.le_refl _) _).setCell (Nat.le_refl _) _
    · go_wp2
      go_ret
      obtain rfl : k = n := by omega
      obtain ⟨v1, _, v3⟩ := hv.out
      exact ⟨_, rfl, ⟨_, _, rfl, Nat.le_refl _, hsz, ⟨h.most, h.wf1, fun j hj => ⟨_, rfl, by simpa [add_plain] using (v1 j hj).1, by simpa [add_plain] using (v1 j hj).2⟩⟩, v3⟩, hb⟩
set_option maxHeartbeats 800000 in
theorem laws_eqPass {x1 y1 : Nat} {x0 : Int} {X1 : Option Nat} (w : World) (h1 : Fl .f32 x1 X1) (h1' : Fl .f32 y1 X1) : Calls Try.prog 105 #[.agg #[Value.int .i64 (x0), Value.float .f32 (x1)], .agg #[Value.int .i64 (x0), Value.float .f32 (y1)]] w (RV (.bool true) w) := by
  have hal := fun o o' m => below_drewN (((Below.refl _ w).alloc (Nat.le_refl _) o).alloc (by simp) o') m
  go_enter Try.func105, Try.ntmps105
  go_wp2_with fail
  refine (laws_sameFloat (h1.cw _) (h1'.cw _) _).mono ?_; rintro e w' ⟨rfl, q1, rfl⟩
  go_wp2_with fail
  go_ret
  exact ⟨rfl, hal _ _ _⟩
set_option maxHeartbeats 1600000 in
theorem laws_eqPassS {A A' : Option Addr} {n c c' : Nat} {f0 : Nat → Int} {f1 : Nat → Nat} (w : World) (h : RdPass w A n f0 f1) (h' : RdPass w A' n f0 f1) (hn : n ≤ 1048576) : Calls Try.prog 82 #[.slice A n c, .slice A' n c'] w (RV (.bool true) w) := by
  go_enter Try.func82, Try.ntmps82
  go_wp2
  go_loopw [5] (fun i w' => ∃ k, k ≤ n ∧ i = .int .i64 (k : Nat) ∧ Below w.heap.size w w') (fun i _ => n - (intOf i).toNat)
  case atStart => exact ⟨0, Nat.zero_le _, rfl, Below.refl _ _⟩
  case round =>
    obtain ⟨k, hk, rfl, hb⟩ := hrel
    by_cases hlt : k < n
    · obtain ⟨ad, rfl, c0, c1⟩ := (h.below hb).cell k hlt
      obtain ⟨bd, rfl, e0, e1⟩ := (h'.below hb).cell k hlt
      have d1 := c1
      rw [← add_off ad (k * 2) 1 (by decide)] at d1
      have j1 := e1
      rw [← add_off bd (k * 2) 1 (by decide)] at j1
      have hfl1 := Fl.self (h.wf1 k hlt)
      have hsz := hb.size
      clear h h'
      have CE := fun W => laws_eqPass (x0 := f0 k) (x1 := f1 k) (y1 := f1 k) W hfl1 hfl1
      go_wp2_with fail
      go_region_with (go_at_call 105; (with_reducible refine (CE _).mono ?_); rintro e w2 ⟨rfl, hb2⟩)
      all_goals
        have hB : Hid (Below w.heap.size w w2) := Lib.hid (by first | exact below_next (below_drewN hb 1) (by simpa using hsz) hb2 | exact below_next (below_drewN hb _) (by simpa using hsz) hb2)
        clear hb hb2
        go_wp2
        exact ⟨⟨k + 1, by omega, by go_num, hB.out⟩, by simp [intOf]; omega⟩
    · go_wp2
      go_ret
      exact ⟨rfl, hb⟩
theorem Row.rdDelay {w : World} {A : Option Addr} {n : Nat} {l : List Value} (h : Row w [.i64, .f32, .f32, .f32, .bool] A n l) : ∃ f0 f1 f2 f3 f4, RdDelay w A n f0 f1 f2 f3 f4 := by
  have key : ∀ j, j < n → ∃ p : Int × Nat × Nat × Nat × Bool, (∃ ad, A = some ad ∧ w.cell? (ad.add (j * 5)) = some (Value.int .i64 (p.1)) ∧ w.cell? (ad.add (j * 5 + 1)) = some (Value.float .f32 (p.2.1)) ∧ w.cell? (ad.add (j * 5 + 2)) = some (Value.float .f32 (p.2.2.1)) ∧ w.cell? (ad.add (j * 5 + 3)) = some (Value.float .f32 (p.2.2.2.1)) ∧ w.cell? (ad.add (j * 5 + 4)) = some (Value.bool (p.2.2.2.2))) ∧ p.2.1 < 2 ^ FloatKind.f32.format.width ∧ p.2.2.1 < 2 ^ FloatKind.f32.format.width ∧ p.2.2.2.1 < 2 ^ FloatKind.f32.format.width := by
    intro j hj
    obtain ⟨u0, hu0, x0, rfl, hb0⟩ := h.kind j 0 .i64 hj rfl
    obtain ⟨u1, hu1, x1, rfl, hb1⟩ := h.kind j 1 .f32 hj rfl
    obtain ⟨u2, hu2, x2, rfl, hb2⟩ := h.kind j 2 .f32 hj rfl
    obtain ⟨u3, hu3, x3, rfl, hb3⟩ := h.kind j 3 .f32 hj rfl
    obtain ⟨u4, hu4, x4, rfl⟩ := h.kind j 4 .bool hj rfl
    obtain ⟨ad0, e0, c0⟩ := h.cell _ _ hu0
    obtain ⟨ad1, e1, c1⟩ := h.cell _ _ hu1
    obtain ⟨ad2, e2, c2⟩ := h.cell _ _ hu2
    obtain ⟨ad3, e3, c3⟩ := h.cell _ _ hu3
    obtain ⟨ad4, e4, c4⟩ := h.cell _ _ hu4
    obtain rfl := Option.some.inj (e0.symm.trans e1)
    obtain rfl := Option.some.inj (e0.symm.trans e2)
    obtain rfl := Option.some.inj (e0.symm.trans e3)
    obtain rfl := Option.some.inj (e0.symm.trans e4)
    exact ⟨(x0, x1, x2, x3, x4), ⟨ad0, e0, by simpa using c0, by simpa using c1, by simpa using c2, by simpa using c3, by simpa using c4⟩, hb1, hb2, hb3⟩
  obtain ⟨F, hF⟩ := Deep.choose_lt (α := Int × Nat × Nat × Nat × Bool) (n := n) key
  exact ⟨fun j => (F j).1, fun j => (F j).2.1, fun j => (F j).2.2.1, fun j => (F j).2.2.2.1, fun j => (F j).2.2.2.2, h.most, fun j hj => (hF j hj).2.1, fun j hj => (hF j hj).2.2.1, fun j hj => (hF j hj).2.2.2, fun j hj => (hF j hj).1⟩
theorem Row.rdPass {w : World} {A : Option Addr} {n : Nat} {l : List Value} (h : Row w [.i64, .f32] A n l) : ∃ f0 f1, RdPass w A n f0 f1 := by
  have key : ∀ j, j < n → ∃ p : Int × Nat, (∃ ad, A = some ad ∧ w.cell? (ad.add (j * 2)) = some (Value.int .i64 (p.1)) ∧ w.cell? (ad.add (j * 2 + 1)) = some (Value.float .f32 (p.2))) ∧ p.2 < 2 ^ FloatKind.f32.format.width := by
    intro j hj
    obtain ⟨u0, hu0, x0, rfl, hb0⟩ := h.kind j 0 .i64 hj rfl
    obtain ⟨u1, hu1, x1, rfl, hb1⟩ := h.kind j 1 .f32 hj rfl
    obtain ⟨ad0, e0, c0⟩ := h.cell _ _ hu0
    obtain ⟨ad1, e1, c1⟩ := h.cell _ _ hu1
    obtain rfl := Option.some.inj (e0.symm.trans e1)
    exact ⟨(x0, x1), ⟨ad0, e0, by simpa using c0, by simpa using c1⟩, hb1⟩
  obtain ⟨F, hF⟩ := Deep.choose_lt (α := Int × Nat) (n := n) key
  exact ⟨fun j => (F j).1, fun j => (F j).2, h.most, fun j hj => (hF j hj).2, fun j hj => (hF j hj).1⟩
set_option maxHeartbeats 400000 in
theorem laws_szDelayS {A : Option Addr} {n c : Nat} {left : Int} (w : World) (hl : 0 ≤ left ∧ left ≤ 1048576) (hn : n ≤ maxLen) : Calls Try.prog 74 #[.slice A n c, .int .i64 left] w fun e w' => e = .returned (.int .i64 (if left < (n : Int) then -1 else left - n)) ∧ w = w' := by
  obtain ⟨h0, h1⟩ := hl
  have hm : n ≤ 9223372036854775807 := by simp only [maxLen] at hn; omega
  by_cases h : left < (n : Int)
  all_goals
    go_enter Try.func74, Try.ntmps74
    go_wp2
    go_ret
    exact ⟨by simp [h], rfl⟩
set_option maxHeartbeats 400000 in
theorem laws_szPassS {A : Option Addr} {n c : Nat} {left : Int} (w : World) (hl : 0 ≤ left ∧ left ≤ 1048576) (hn : n ≤ maxLen) : Calls Try.prog 75 #[.slice A n c, .int .i64 left] w fun e w' => e = .returned (.int .i64 (if left < (n : Int) then -1 else left - n)) ∧ w = w' := by
  obtain ⟨h0, h1⟩ := hl
  have hm : n ≤ 9223372036854775807 := by simp only [maxLen] at hn; omega
  by_cases h : left < (n : Int)
  all_goals
    go_enter Try.func75, Try.ntmps75
    go_wp2
    go_ret
    exact ⟨by simp [h], rfl⟩
end Go.Proofs.Ytlenpecnfilkjaa
