/- Slices of taps: what is read, what is made, marks. Conditions: none beside the contracts' own. -/
import Derived.Test.YtbaokmapgdnhlaaL9
import Derived.Handy
import Derived.Deep.RegionWith
set_option linter.unusedVariables false
set_option linter.unusedSimpArgs false
namespace Go.Proofs.Ytbaokmapgdnhlaa
open Go.RowKit
theorem add_off (ad : Addr) (m j : Nat) (hj : (j == 0) = false) : (⟨(ad.add m).block, (ad.add m).off + j, none⟩ : Addr) = ad.add (m + j) := by
  have hj' : j ≠ 0 := by simpa using hj
  unfold Addr.add
  by_cases h1 : m = 0
  · subst h1; simp [hj']
  · have h2 : m + j ≠ 0 := by omega
    simp [h1, h2, Nat.add_assoc]
/-- A slice of records that is read. -/
structure RdTap (w : World) (A : Option Addr) (n : Nat) (f0 : Nat → Int) (f1 : Nat → Nat) : Prop where
  most : n ≤ maxLen
  wf1 : ∀ k, k < n → f1 k < 2 ^ FloatKind.f32.format.width
  cell : ∀ k, k < n → ∃ ad, A = some ad ∧ w.cell? (ad.add (k * 2)) = some (Value.int .i64 (f0 k)) ∧ w.cell? (ad.add (k * 2 + 1)) = some (Value.float .f32 (f1 k))
theorem RdTap.below {w w' : World} {A : Option Addr} {n : Nat} {f0 : Nat → Int} {f1 : Nat → Nat} (h : RdTap w A n f0 f1) (hb : Below w.heap.size w w') : RdTap w' A n f0 f1 :=
  ⟨h.most, h.wf1, fun k hk => by
    obtain ⟨ad, e, c0, c1⟩ := h.cell k hk
    exact ⟨ad, e, (hb.cell (World.block_lt_of_cell? w _ c0)).trans c0, (hb.cell (World.block_lt_of_cell? w _ c1)).trans c1⟩⟩
theorem RdTap.same {g n : Nat} {w w' : World} {f0 : Nat → Int} {f1 : Nat → Nat} (h : RdTap w (some ⟨g, 0, none⟩) n f0 f1) (hb : w'.heap[g]? = w.heap[g]?) : RdTap w' (some ⟨g, 0, none⟩) n f0 f1 :=
  ⟨h.most, h.wf1, fun k hk => by
    obtain ⟨ad, e, c0, c1⟩ := h.cell k hk
    cases e
    refine ⟨_, rfl, ?_, ?_⟩
    · rw [add_plain] at c0 ⊢; exact (World.cell?_of_block (a := ⟨g, k * 2, none⟩) hb).trans c0
    · rw [add_plain] at c1 ⊢; exact (World.cell?_of_block (a := ⟨g, k * 2 + 1, none⟩) hb).trans c1⟩
/-- A slice of taps of the call's own. -/
structure OwTap (w : World) (B : Nat) (v : Value) (n : Nat) (f0 : Nat → Int) (f1 : Nat → Nat) : Prop where
  own : ∃ g c, v = .slice (some ⟨g, 0, none⟩) n c ∧ B ≤ g ∧ g < w.heap.size ∧ RdTap w (some ⟨g, 0, none⟩) n f0 f1 ∧ ∀ q, w.frozen? ⟨g, q, none⟩ = false
section
variable {w w' : World} {B : Nat} {v : Value} {n : Nat} {f0 : Nat → Int} {f1 : Nat → Nat}
theorem OwTap.kept (h : OwTap w B v n f0 f1) (hs : w.heap.size ≤ w'.heap.size) (hk : ∀ g, v.ownBlock = some g → g < w.heap.size → w'.heap[g]? = w.heap[g]?) : OwTap w' B v n f0 f1 := by
  obtain ⟨g, c, rfl, hB, hg, hr, hf⟩ := h.own
  have hb := hk g (by simp [Value.ownBlock]) hg
  exact ⟨g, c, rfl, hB, Nat.lt_of_lt_of_le hg hs, hr.same hb, fun q => (World.frozen?_of_block (a := ⟨g, q, none⟩) hb).trans (hf q)⟩
theorem OwTap.below (h : OwTap w B v n f0 f1) (hb : Below w.heap.size w w') : OwTap w' B v n f0 f1 := h.kept hb.size fun g _ hg => hb.block g hg
theorem OwTap.other (h : OwTap w B v n f0 f1) {row : Option Nat} (hg : w.grownBy w' row) (hne : v.ownBlock = none ∨ v.ownBlock ≠ row) : OwTap w' B v n f0 f1 := h.kept hg.size fun g e hl => hg.block g hl (fun e' => by
  rcases hne with h1 | h1
  · rw [e] at h1; cases h1
  · exact h1 (by rw [e, e']))
theorem OwTap.shape_n (h : OwTap w B v n f0 f1) {m : Nat} (hl : n = m) : ∃ A c, v = .slice A m c := by
  obtain ⟨g, c, rfl, _⟩ := h.own
  exact ⟨_, c, by rw [hl]⟩
theorem OwTap.base (h : OwTap w B v n f0 f1) (k : Nat) (hk : v.ownBlock = some k) : B ≤ k := by
  obtain ⟨g, c, rfl, hB, _⟩ := h.own
  have : g = k := by simpa [Value.ownBlock] using hk
  omega
theorem OwTap.lt (h : OwTap w B v n f0 f1) (k : Nat) (hk : v.ownBlock = some k) : k < w.heap.size := by
  obtain ⟨g, c, rfl, _, hg, _⟩ := h.own
  have : g = k := by simpa [Value.ownBlock] using hk
  omega
theorem OwTap.rd {A : Option Addr} {c m : Nat} (h : OwTap w B (.slice A m c) n f0 f1) (_ : n = m) : RdTap w A n f0 f1 := by
  obtain ⟨g, c', hv, _, _, hr, _⟩ := h.own
  injection hv with h1 h2 h3
  subst h1
  exact hr
end
theorem grown_setCell' (w : World) (a : Addr) (u : Value) : w.grownBy (w.setCell a u) (some a.block) :=
  ⟨rfl, rfl, rfl, by simp, fun k _ hk => heap_setCell_other w a k u (fun e => hk (by rw [e]))⟩
set_option maxHeartbeats 400000 in
theorem laws_toTap {x0 : Int} {x1 : Nat} (w : World) : Calls Try.prog 74 #[.agg #[Value.int .i64 (x0), Value.float .f32 (x1)]] w (RV (.agg #[Value.int .i64 (x0), Value.float .f32 (x1)]) w) := by
  go_enter Try.func74, Try.ntmps74
  go_wp2
  refine bodyPost_ret (v := .agg #[Value.int .i64 (x0), Value.float .f32 (x1)]) ?_ rfl ⟨rfl, ?_⟩
  · simp [results, Try.results74, go_sem]
  · (repeat (first | exact Below.refl _ _ | (with_reducible assumption) | refine below_drewN ?_ _ | refine Below.drew ?_ | refine Below.alloc ?_ (by simp; try omega) _))
set_option maxHeartbeats 1600000 in
theorem laws_toTapS {A : Option Addr} {n c : Nat} {f0 : Nat → Int} {f1 : Nat → Nat} (w : World) (h : RdTap w A n f0 f1) (hn : n ≤ 1048576) : Calls Try.prog 27 #[.slice A n c] w fun e w' => ∃ v, e = .returned v ∧ OwTap w' w.heap.size v n f0 f1 ∧ Below w.heap.size w w' := by
  have hinfo : (Try.prog.info? 104).map (fun i => (i.zero, i.size, i.bytes)) = some (some (.agg #[.int .i64 0, .float .f32 0]), 2, 16) := by kernel_rfl
  obtain ⟨i0, hi, hzz⟩ := Option.map_eq_some_iff.1 hinfo
  simp only [Prod.mk.injEq] at hzz
  obtain ⟨hz0, hz1, hz2⟩ := hzz
  have hmk : ∀ W : World, (Instr.makeSlice 46 (.int .i64 (n : Int)) (.int .i64 (n : Int))).run Try.prog W = .ok (.slice (some ⟨W.heap.size, 0, none⟩) n n) (W.alloc (.cells (madeCells #[.int .i64 0, .float .f32 0] (n * 2)) 104)) := by
    intro W
    have := run_make W 46 104 i0 _ Try.underlying46 hi hz0 .i64 .i64 n n (by omega) (by omega) (by rw [hz2]; omega) (by omega)
    rw [hz1] at this
    simpa [Value.cells] using this
  clear hi hz0 hz1 hz2 hinfo
  go_enter Try.func27, Try.ntmps27
  go_wp2
  go_loopw [4] (fun i w' => ∃ k, k ≤ n ∧ i = .int .i64 (k : Nat) ∧ Hid ((∀ j, j < k → w'.cell? ⟨w.heap.size, j * 2, none⟩ = some (Value.int .i64 (f0 j)) ∧ w'.cell? ⟨w.heap.size, j * 2 + 1, none⟩ = some (Value.float .f32 (f1 j))) ∧ (∀ j, k ≤ j → j < n → (∃ u, w'.cell? ⟨w.heap.size, j * 2, none⟩ = some u) ∧ (∃ u, w'.cell? ⟨w.heap.size, j * 2 + 1, none⟩ = some u)) ∧ (∀ q, w'.frozen? ⟨w.heap.size, q, none⟩ = false)) ∧ w.heap.size < w'.heap.size ∧ Below w.heap.size w w') (fun i _ => n - (intOf i).toNat)
  case atStart =>
    refine ⟨0, Nat.zero_le _, rfl, Lib.hid ⟨fun j hj => by omega, fun j _ hj => ?_, fun q => by simp [go_sem]⟩, by simp, (Below.refl _ _).alloc (Nat.le_refl _) _⟩
    have key : ∀ q, q < n * 2 → ∃ u, (w.alloc (.cells (madeCells #[.int .i64 0, .float .f32 0] (n * 2)) 104)).cell? ⟨w.heap.size, q, none⟩ = some u := by
      intro q hq
      rw [cell_of_row _ _ _ _ _ (0, 0) (heap_alloc_new w _)]
      exact ⟨_, Array.getElem?_eq_getElem (by rw [size_madeCells]; exact hq)⟩
    exact ⟨key _ (by omega), key _ (by omega)⟩
  case round =>
    obtain ⟨k, hk, rfl, hv, hsz, hb⟩ := hrel
    by_cases hlt : k < n
    · obtain ⟨ad, rfl, c0, c1⟩ := (h.below hb).cell k hlt
      have d1 := c1
      rw [← add_off ad (k * 2) 1 (by decide)] at d1
      clear h
      go_wp2_with fail
      refine (laws_toTap _).mono ?_
      rintro e w2 ⟨rfl, hb2⟩
      obtain ⟨hcc, hff⟩ := bcell hb2
      have hsz2 : w.heap.size < w2.heap.size := Nat.lt_of_lt_of_le hsz hb2.size
      have hB := Lib.hid (below_next hb (Nat.le_of_lt hsz) hb2)
      obtain ⟨v1, v2, v3⟩ := hv.out
      have V1 := Lib.hid (fun j hj => v1 j hj)
      have V2 := Lib.hid (fun j hj hj' => v2 j hj hj')
      obtain ⟨⟨u0, hu0⟩, ⟨u1, hu1⟩⟩ := v2 k (Nat.le_refl _) hlt
      have g0 : w2.cell? ⟨w.heap.size, k * 2, none⟩ = some u0 := (hcc _ _ hsz).trans hu0
      have g1 : w2.cell? ⟨w.heap.size, k * 2 + 1, none⟩ = some u1 := (hcc _ _ hsz).trans hu1
      have hfr : ∀ q, w2.frozen? ⟨w.heap.size, q, none⟩ = false := fun q => by rw [hff _ _ hsz]; exact v3 q
      have hfr0 := hfr (k * 2)
      have hfr1 := hfr (k * 2 + 1)
      have HFR := Lib.hid hfr
      have HCC := Lib.hid (fun q => hcc w.heap.size q hsz)
      clear hb2 hb hcc hff v1 v2 v3 hv hfr c0 c1 d1
      go_wp2
      refine ⟨⟨k + 1, by omega, by go_num, Lib.hid ⟨fun j hj => ?_, fun j hj hj' => ?_, fun q => by simpa using HFR.out q⟩, by simpa using hsz2, ?_⟩, by simp [intOf]; omega⟩
      · by_cases hjk : j = k
        · subst hjk
          exact ⟨by rw [World.cell?_setCell_other _ _ _ _ (by simp)]; exact World.cell?_setCell_same _ _ _ (g0), by exact World.cell?_setCell_same _ _ _ (by rw [World.cell?_setCell_other _ _ _ _ (by simp)]; exact g1)⟩
        · have h1 := V1.out j (by omega)
          exact ⟨by rw [World.cell?_setCell_other _ _ _ _ (by simp <;> omega), World.cell?_setCell_other _ _ _ _ (by simp <;> omega)]; rw [HCC.out]; exact h1.1, by rw [World.cell?_setCell_other _ _ _ _ (by simp <;> omega), World.cell?_setCell_other _ _ _ _ (by simp <;> omega)]; rw [HCC.out]; exact h1.2⟩
      · have h1 := V2.out j (by omega) hj'
        exact ⟨by rw [World.cell?_setCell_other _ _ _ _ (by simp <;> omega), World.cell?_setCell_other _ _ _ _ (by simp <;> omega)]; rw [HCC.out]; exact h1.1, by rw [World.cell?_setCell_other _ _ _ _ (by simp <;> omega), World.cell?_setCell_other _ _ _ _ (by simp <;> omega)]; rw [HCC.out]; exact h1.2⟩
      · exact ((hB.out).setCell (Nat.le_refl _) _).setCell (Nat.le_refl _) _
    · go_wp2
      go_ret
      obtain rfl : k = n := by omega
      obtain ⟨v1, _, v3⟩ := hv.out
      exact ⟨_, rfl, ⟨_, _, rfl, Nat.le_refl _, hsz, ⟨h.most, h.wf1, fun j hj => ⟨_, rfl, by simpa [add_plain] using (v1 j hj).1, by simpa [add_plain] using (v1 j hj).2⟩⟩, v3⟩, hb⟩
set_option maxHeartbeats 800000 in
theorem laws_eqTap {x1 y1 : Nat} {x0 : Int} {X1 : Option Nat} (w : World) (h1 : Fl .f32 x1 X1) (h1' : Fl .f32 y1 X1) : Calls Try.prog 76 #[.agg #[Value.int .i64 (x0), Value.float .f32 (x1)], .agg #[Value.int .i64 (x0), Value.float .f32 (y1)]] w (RV (.bool true) w) := by
  have hal := fun o o' m => below_drewN (((Below.refl _ w).alloc (Nat.le_refl _) o).alloc (by simp) o') m
  go_enter Try.func76, Try.ntmps76
  go_wp2_with fail
  refine (laws_sameFloat (h1.cw _) (h1'.cw _) _).mono ?_; rintro e w' ⟨rfl, q1, rfl⟩
  go_wp2_with fail
  go_ret
  exact ⟨rfl, hal _ _ _⟩
set_option maxHeartbeats 1600000 in
theorem laws_eqTapS {A A' : Option Addr} {n c c' : Nat} {f0 : Nat → Int} {f1 : Nat → Nat} (w : World) (h : RdTap w A n f0 f1) (h' : RdTap w A' n f0 f1) (hn : n ≤ 1048576) : Calls Try.prog 29 #[.slice A n c, .slice A' n c'] w (RV (.bool true) w) := by
  go_enter Try.func29, Try.ntmps29
  go_wp2
  go_loopw [5] (fun i w' => ∃ k, k ≤ n ∧ i = .int .i64 (k : Nat) ∧ Below w.heap.size w w') (fun i _ => n - (intOf i).toNat)
  case atStart => exact ⟨0, Nat.zero_le _, rfl, Below.refl _ _⟩
  case round =>
    obtain ⟨k, hk, rfl, hb⟩ := hrel
    by_cases hlt : k < n
    · obtain ⟨ad, rfl, c0, c1⟩ := (h.below hb).cell k hlt
      obtain ⟨bd, rfl, e0, e1⟩ := (h'.below hb).cell k hlt
      have d1 := c1
      rw [← add_off ad (k * 2) 1 (by decide)] at d1
      have j1 := e1
      rw [← add_off bd (k * 2) 1 (by decide)] at j1
      have hfl1 := Fl.self (h.wf1 k hlt)
      have hsz := hb.size
      clear h h'
      have CE := fun W => laws_eqTap (x0 := f0 k) (x1 := f1 k) (y1 := f1 k) W hfl1 hfl1
      go_wp2_with fail
      go_region_with (go_at_call 76; (with_reducible refine (CE _).mono ?_); rintro e w2 ⟨rfl, hb2⟩)
      all_goals
        have hB : Hid (Below w.heap.size w w2) := Lib.hid (by first | exact below_next (below_drewN hb 1) (by simpa using hsz) hb2 | exact below_next (below_drewN hb _) (by simpa using hsz) hb2)
        clear hb hb2
        go_wp2
        exact ⟨⟨k + 1, by omega, by go_num, hB.out⟩, by simp [intOf]; omega⟩
    · go_wp2
      go_ret
      exact ⟨rfl, hb⟩
theorem Row.rdTap {w : World} {A : Option Addr} {n : Nat} {l : List Value} (h : Row w [.i64, .f32] A n l) : ∃ f0 f1, RdTap w A n f0 f1 := by
  have key : ∀ j, j < n → ∃ p : Int × Nat, (∃ ad, A = some ad ∧ w.cell? (ad.add (j * 2)) = some (Value.int .i64 (p.1)) ∧ w.cell? (ad.add (j * 2 + 1)) = some (Value.float .f32 (p.2))) ∧ p.2 < 2 ^ FloatKind.f32.format.width := by
    intro j hj
    obtain ⟨u0, hu0, x0, rfl, hb0⟩ := h.kind j 0 .i64 hj rfl
    obtain ⟨u1, hu1, x1, rfl, hb1⟩ := h.kind j 1 .f32 hj rfl
    obtain ⟨ad0, e0, c0⟩ := h.cell _ _ hu0
    obtain ⟨ad1, e1, c1⟩ := h.cell _ _ hu1
    obtain rfl := Option.some.inj (e0.symm.trans e1)
    exact ⟨(x0, x1), ⟨ad0, e0, by simpa using c0, by simpa using c1⟩, hb1⟩
  obtain ⟨F, hF⟩ := Deep.choose_lt (α := Int × Nat) (n := n) key
  exact ⟨fun j => (F j).1, fun j => (F j).2, h.most, fun j hj => (hF j hj).2, fun j hj => (hF j hj).1⟩
/-- Does it hold of all the first n? -/
def upto (n : Nat) (p : Nat → Bool) : Bool := (List.range n).all p
theorem upto_true {n : Nat} {p : Nat → Bool} (h : ∀ k, k < n → p k = true) : upto n p = true := by
  simp only [upto, List.all_eq_true, List.mem_range]; exact h
theorem upto_false {n k : Nat} {p : Nat → Bool} (hk : k < n) (h : p k = false) : upto n p = false := by
  rw [upto, List.all_eq_false]
  exact ⟨k, List.mem_range.2 hk, by rw [h]; decide⟩
def tapsC (n : Nat) (f : Nat → Int) : Bool := upto n (fun k => inC (f k) 0 64) && decide (n ≤ 8)
set_option maxHeartbeats 800000 in
theorem spec_l03Taps {A : Option Addr} {n c : Nat} {f0 : Nat → Int} {f1 : Nat → Nat} (w : World) (h : RdTap w A n f0 f1) (hn : n ≤ 1048576) : Calls Try.prog 73 #[.slice A n c] w fun e w' => e = .returned (.bool (tapsC n f0)) ∧ w = w' := by
  go_enter Try.func73, Try.ntmps73
  go_wp2
  go_loop [6] (fun i => ∃ k, k ≤ n ∧ i = .int .i64 (k : Nat) ∧ Hid (∀ j, j < k → inC (f0 j) 0 64 = true)) (fun i => n - (intOf i).toNat)
  case atStart => exact ⟨0, Nat.zero_le _, rfl, Lib.hid (fun j hj => by omega)⟩
  case round =>
    obtain ⟨k, hk, rfl, ht⟩ := hrel
    by_cases hlt : k < n
    · obtain ⟨ad, rfl, c0, c1⟩ := h.cell k hlt
      have H := Lib.hid hlt
      clear h
      cases cc : inC (f0 k) 0 64
      · go_wp2_with (go_at_call 77; refine (spec_l00In _).mono ?_; rintro e w' ⟨rfl, rfl⟩)
        go_ret
        exact ⟨by rw [tapsC, upto_false (p := fun k => inC (f0 k) 0 64) H.out cc]; rfl, rfl⟩
      · go_wp2_with (go_at_call 77; refine (spec_l00In _).mono ?_; rintro e w' ⟨rfl, rfl⟩)
        refine ⟨⟨k + 1, by omega, by go_num, Lib.hid (fun j hj => ?_)⟩, by simp [intOf]; omega⟩
        rcases Nat.lt_or_ge j k with h1 | h1
        · exact ht.out j h1
        · obtain rfl : j = k := by omega
          exact cc
    · obtain rfl : k = n := by omega
      have hu := upto_true (p := fun k => inC (f0 k) 0 64) ht.out
      by_cases h8 : k ≤ 8
      all_goals
        go_wp2
        go_ret
        refine ⟨ret_bool ?_, rfl⟩
        rw [tapsC, hu]
        simp
        try omega
set_option maxHeartbeats 800000 in
theorem impl_ValidTaps {A : Option Addr} {n c : Nat} {f0 : Nat → Int} {f1 : Nat → Nat} (w : World) (h : RdTap w A n f0 f1) (hn : n ≤ 1048576) : Calls Try.prog 75 #[.slice A n c] w (RV (.bool (tapsC n f0)) w) := by
  by_cases h8 : 8 < n
  · have h8' : decide (n ≤ 8) = false := by simp; omega
    unfold tapsC
    rw [h8', Bool.and_false]
    go_enter Try.func75, Try.ntmps75
    go_wp2
    go_ret
    exact ⟨rfl, Below.refl _ _⟩
  · have h8' : decide (n ≤ 8) = true := by simp; omega
    unfold tapsC
    rw [h8', Bool.and_true]
    go_enter Try.func75, Try.ntmps75
    go_wp2
    go_loopw [10] (fun i w' => ∃ k, k ≤ n ∧ i = .int .i64 (k : Nat) ∧ Hid (∀ j, j < k → inC (f0 j) 0 64 = true) ∧ Below w.heap.size w w') (fun i _ => n - (intOf i).toNat)
    case atStart => exact ⟨0, Nat.zero_le _, rfl, Lib.hid (fun j hj => by omega), Below.refl _ _⟩
    case round =>
      obtain ⟨k, hk, rfl, ht, hb⟩ := hrel
      have hsz := hb.size
      by_cases hlt : k < n
      · obtain ⟨ad, rfl, c0, c1⟩ := (h.below hb).cell k hlt
        have H := Lib.hid hlt
        clear h
        have d1 := c1
        rw [← add_off ad (k * 2) 1 (by decide)] at d1
        cases cc : inC (f0 k) 0 64
        · go_wp2_with (go_at_call 80; refine (impl_within _).mono ?_; rintro e w' ⟨rfl, rfl⟩)
          go_ret
          exact ⟨by rw [upto_false (p := fun k => inC (f0 k) 0 64) H.out cc]; rfl, hb.alloc hsz _⟩
        · go_wp2_with (go_at_call 80; refine (impl_within _).mono ?_; rintro e w' ⟨rfl, rfl⟩)
          refine ⟨⟨k + 1, by omega, by go_num, Lib.hid (fun j hj => ?_), hb.alloc hsz _⟩, by simp [intOf]; omega⟩
          rcases Nat.lt_or_ge j k with h1 | h1
          · exact ht.out j h1
          · obtain rfl : j = k := by omega
            exact cc
      · obtain rfl : k = n := by omega
        have hu := upto_true (p := fun k => inC (f0 k) 0 64) ht.out
        go_wp2
        go_ret
        exact ⟨by first | rfl | (rw [hu]; rfl), hb⟩
set_option maxHeartbeats 400000 in
theorem laws_szTapS {A : Option Addr} {n c : Nat} {left : Int} (w : World) (hl : 0 ≤ left ∧ left ≤ 1048576) (hn : n ≤ maxLen) : Calls Try.prog 25 #[.slice A n c, .int .i64 left] w fun e w' => e = .returned (.int .i64 (if left < (n : Int) then -1 else left - n)) ∧ w = w' := by
  obtain ⟨h0, h1⟩ := hl
  have hm : n ≤ 9223372036854775807 := by simp only [maxLen] at hn; omega
  by_cases h : left < (n : Int)
  all_goals
    go_enter Try.func25, Try.ntmps25
    go_wp2
    go_ret
    exact ⟨by simp [h], rfl⟩
set_option maxHeartbeats 800000 in
theorem laws_markTapS {A : Option Addr} {n c B : Nat} {f0 : Nat → Int} {f1 : Nat → Nat} {k : Int} (w : World) (h : OwTap w B (.slice A n c) n f0 f1) (hl : n = n) (hn : n ≤ 1048576) (h0 : 0 ≤ k) (h1 : k ≤ 1073741824) :
    Calls Try.prog 30 #[.slice A n c, .int .i64 k] w fun e w' => e = .returned (.int .i64 (k + 2 * (n : Int))) ∧ True ∧ w.grownBy w' (Value.slice A n c).ownBlock := by
  obtain ⟨g, c', hv, _, _, hr, hf⟩ := h.own
  injection hv with e1 e2 e3
  subst e1
  have hcl : ∀ j, j < n → (∃ u, w.cell? ⟨g, j * 2, none⟩ = some u) ∧ (∃ u, w.cell? ⟨g, j * 2 + 1, none⟩ = some u) := fun j hj => by
    obtain ⟨ad, e, c0, c1⟩ := hr.cell j hj
    cases e
    rw [add_plain] at c0 c1
    exact ⟨⟨_, c0⟩, ⟨_, c1⟩⟩
  clear h hr hl
  go_enter Try.func30, Try.ntmps30
  go_wp2
  go_loopw [1, 5] (fun q i w' => ∃ j, j ≤ n ∧ i = .int .i64 (j : Nat) ∧ q = .int .i64 (k + 2 * (j : Int)) ∧ Hid (∀ t, t < n → (∃ u, w'.cell? ⟨g, t * 2, none⟩ = some u) ∧ (∃ u, w'.cell? ⟨g, t * 2 + 1, none⟩ = some u)) ∧ Hid (∀ q, w'.frozen? ⟨g, q, none⟩ = false) ∧ Hid (w.grownBy w' (some g))) (fun _ i _ => n - (intOf i).toNat)
  case atStart => exact ⟨0, Nat.zero_le _, rfl, by simp, Lib.hid hcl, Lib.hid hf, Lib.hid (World.grownBy.refl _ _)⟩
  case round =>
    obtain ⟨j, hj, rfl, rfl, hc, hf', hg⟩ := hrel
    rename World => W
    by_cases hlt : j < n
    · obtain ⟨⟨u0, c0⟩, ⟨u1, c1⟩⟩ := hc.out j hlt
      have f0' := hf'.out (j * 2)
      have f1' := hf'.out (j * 2 + 1)
      have c1' : (W.setCell ⟨g, j * 2, none⟩ (.int .i64 (k + 2 * (j : Int)))).cell? ⟨g, j * 2 + 1, none⟩ = some u1 := by rw [World.cell?_setCell_other _ _ _ _ (by simp)]; exact c1
      have f1'' : (W.setCell ⟨g, j * 2, none⟩ (.int .i64 (k + 2 * (j : Int)))).frozen? ⟨g, j * 2 + 1, none⟩ = false := by simpa using f1'
      clear hcl hf
      have key : ∀ (a b : Value), Hid ((∀ t, t < n → (∃ u, ((W.setCell ⟨g, j * 2, none⟩ a).setCell ⟨g, j * 2 + 1, none⟩ b).cell? ⟨g, t * 2, none⟩ = some u) ∧ (∃ u, ((W.setCell ⟨g, j * 2, none⟩ a).setCell ⟨g, j * 2 + 1, none⟩ b).cell? ⟨g, t * 2 + 1, none⟩ = some u)) ∧ (∀ q, ((W.setCell ⟨g, j * 2, none⟩ a).setCell ⟨g, j * 2 + 1, none⟩ b).frozen? ⟨g, q, none⟩ = false) ∧ w.grownBy ((W.setCell ⟨g, j * 2, none⟩ a).setCell ⟨g, j * 2 + 1, none⟩ b) (some g)) := fun a b => by
        refine Lib.hid ⟨fun t ht => ?_, fun q => (by first | (simp; done) | simpa using hf'.out q), (hg.out.trans (grown_setCell' W ⟨g, j * 2, none⟩ a)).trans (grown_setCell' _ ⟨g, j * 2 + 1, none⟩ b)⟩
        have hs : ∀ (V : World) (o p : Nat) (x : Value), (∃ u, V.cell? ⟨g, p, none⟩ = some u) → ∃ u, (V.setCell ⟨g, o, none⟩ x).cell? ⟨g, p, none⟩ = some u := fun V o p x ⟨u, hu⟩ => by
          by_cases he : o = p
          · subst he; exact ⟨x, World.cell?_setCell_same _ _ _ hu⟩
          · exact ⟨u, by rw [World.cell?_setCell_other _ _ _ _ (by simp)]; exact hu⟩
        obtain ⟨q0, q1⟩ := hc.out t ht
        exact ⟨hs _ _ _ _ (hs _ _ _ _ q0), hs _ _ _ _ (hs _ _ _ _ q1)⟩
      clear hc hf' hg
      go_wp2
      exact ⟨⟨j + 1, by omega, by go_num, by go_num, Lib.hid (key _ _).out.1, Lib.hid (key _ _).out.2.1, Lib.hid (key _ _).out.2.2⟩, by simp [intOf]; omega⟩
    · go_wp2
      go_ret
      obtain rfl : j = n := by omega
      exact ⟨rfl, trivial, hg.out⟩
end Go.Proofs.Ytbaokmapgdnhlaa
