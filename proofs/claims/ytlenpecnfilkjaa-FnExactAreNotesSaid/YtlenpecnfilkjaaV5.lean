/- The walk of the law on notes. Conditions: none beside the contracts' own. -/
import Derived.Test.YtlenpecnfilkjaaV3
set_option linter.unusedVariables false
set_option linter.unusedSimpArgs false
namespace Go.Proofs.Ytlenpecnfilkjaa
open Go.RowKit
/-- A region whose operations yield, in each world of a class, and leave one of it: walked once, in the order of the text. -/
theorem quiet_litC {P : Program} {C : World → Prop} {id : Nat} {Q : Exit → Act → World → Prop} {a : Act} {w : World} {l : List Oper} (hm : P.follows .mixedOrders = true) (hB : Region.lexB .any l.toArray = true) (hC : C { w with drawn := w.drawn + 1 })
    (h : wpQuiet P l.toArray C (fun a' => ∀ w', C w' → Q .normal a' w') l a) : (Code.region id l.toArray true).wp P Q a w :=
  wp_region_quiet hm hB hC (by simpa using h)
set_option maxHeartbeats 3200000 in
theorem impl_AreNotes {A : Option Addr} {n c : Nat} {f0 f1 f2 : Nat → Int} {f3 : Nat → Nat} (w : World) (h : RdNote w A n f0 f1 f2 f3) (hn : n ≤ 1048576) : Calls Try.prog 31 #[.slice A n c] w (RV (.bool (notesC n f0 f1 f2)) w) := by
  by_cases h8 : 12 < n
  · have h8' : decide (n ≤ 12) = false := by simp; omega
    unfold notesC
    rw [h8', Bool.and_false]
    go_enter Try.func31, Try.ntmps31
    go_wp2
    go_ret
    exact ⟨rfl, Below.refl _ _⟩
  · have h8' : decide (n ≤ 12) = true := by simp; omega
    unfold notesC
    rw [h8', Bool.and_true]
    go_enter Try.func31, Try.ntmps31
    go_wp2
    go_loopw [10] (fun i w' => ∃ k, k ≤ n ∧ i = .int .i64 (k : Nat) ∧ Hid (∀ j, j < k → (noteC (f0 j) (f1 j) (f2 j) && stepC f0 j) = true) ∧ Below w.heap.size w w') (fun i _ => n - (intOf i).toNat)
    case atStart => exact ⟨0, Nat.zero_le _, rfl, Lib.hid (fun j hj => by omega), Below.refl _ _⟩
    case round =>
      obtain ⟨k, hk, rfl, ht, hb⟩ := hrel
      have hsz := hb.size
      by_cases hlt : k < n
      · obtain ⟨ad, rfl, c0, c1, c2, c3⟩ := (h.below hb).cell k hlt
        have d1 := c1
        rw [← add_off ad (k * 4) 1 (by decide)] at d1
        have d2 := c2
        rw [← add_off ad (k * 4) 2 (by decide)] at d2
        have d3 := c3
        rw [← add_off ad (k * 4) 3 (by decide)] at d3
        have H := Lib.hid hlt
        have hsA : ∀ (u : Unit) m, ((wr.alloc (.cells #[.int .i64 (f0 k), .int .i64 (f1 k), .int .i64 (f2 k), .float .f32 (f3 k)] 96)).drewN m).cell? ⟨wr.heap.size, 0, none⟩ = some (.int .i64 (f0 k)) := fun _ m => by simp [go_sem]
        have CN : ∀ W, Calls Try.prog 64 #[.agg #[.int .i64 (f0 k), .int .i64 (f1 k), .int .i64 (f2 k), .float .f32 (f3 k)]] W (RV (.bool (noteC (f0 k) (f1 k) (f2 k))) W) := fun W => impl_isNote W
        cases cn : noteC (f0 k) (f1 k) (f2 k)
        · rw [cn] at CN
          clear h
          go_wp2_with fail
          obtain ⟨X, hX⟩ : ∃ X, X = wr.alloc (.cells #[.int .i64 (f0 k), .int .i64 (f1 k), .int .i64 (f2 k), .float .f32 (f3 k)] 96) := ⟨_, rfl⟩
          rw [← hX]
          have hXl : wr.heap.size < X.heap.size := by rw [hX]; simp
          have hXb : Below w.heap.size w X := by rw [hX]; exact hb.alloc hsz _
          have hXz : w.heap.size ≤ X.heap.size := hXb.size
          have x0 : X.cell? ⟨wr.heap.size, 0, none⟩ = some (.int .i64 (f0 k)) := by rw [hX]; simp [go_sem]
          have x1 : X.cell? ⟨wr.heap.size, 1, none⟩ = some (.int .i64 (f1 k)) := by rw [hX]; simp [go_sem]
          have x2 : X.cell? ⟨wr.heap.size, 2, none⟩ = some (.int .i64 (f2 k)) := by rw [hX]; simp [go_sem]
          have x3 : X.cell? ⟨wr.heap.size, 3, none⟩ = some (.float .f32 (f3 k)) := by rw [hX]; simp [go_sem]
          refine quiet_litC (C := (fun w' => w'.cell? ⟨wr.heap.size, 0, none⟩ = some (Value.int .i64 (f0 k)) ∧ w'.cell? ⟨wr.heap.size, 1, none⟩ = some (Value.int .i64 (f1 k)) ∧ w'.cell? ⟨wr.heap.size, 2, none⟩ = some (Value.int .i64 (f2 k)) ∧ w'.cell? ⟨wr.heap.size, 3, none⟩ = some (Value.float .f32 (f3 k)) ∧ Below X.heap.size X w')) (by kernel_rfl) (by kernel_rfl) ⟨x0, x1, x2, x3, below_drewN (Below.refl _ _) 1⟩ ?_
          clear hX x0 x1 x2 x3
          repeat
            first
              | go_big_quiet_skip
              | (go_big_quiet_want; go_big_quiet_op; go_big_quiet_on)
              | (go_big_quiet_want; go_big_quiet_op; apply Exists.intro; refine ⟨fun w' l0 l1 l2 l3 lb => ?_, ?_⟩
                 · (first | exact rfl | (go_at_call 64; refine (CN w').mono ?_; rintro e w2 ⟨rfl, lb2⟩; exact ⟨rfl, ⟨(cell_below lb2 (Nat.lt_of_lt_of_le hXl lb.size)).trans l0, (cell_below lb2 (Nat.lt_of_lt_of_le hXl lb.size)).trans l1, (cell_below lb2 (Nat.lt_of_lt_of_le hXl lb.size)).trans l2, (cell_below lb2 (Nat.lt_of_lt_of_le hXl lb.size)).trans l3, below_next lb lb.size lb2⟩⟩) | (go_simp; rfl))
                 go_big_quiet_on)
          refine wpQuiet_nil ?_
          rintro w3 ⟨-, -, -, -, eb⟩
          have hB := Lib.hid (below_next hXb hXz eb)
          clear hXb eb hb hXz hXl CN hsA
          go_wp2
          go_ret
          exact ⟨by rw [upto_false (p := fun k => noteC (f0 k) (f1 k) (f2 k) && stepC f0 k) H.out (by simp [cn])]; rfl, hB.out⟩
        · rw [cn] at CN
          rcases Nat.eq_zero_or_pos k with h0 | h0
          · have H0 := Lib.hid h0
            have hk0 : decide ((0 : Int) < (k : Int)) = false := by simp; omega
            clear h h0
            go_wp2_with fail
            obtain ⟨X, hX⟩ : ∃ X, X = wr.alloc (.cells #[.int .i64 (f0 k), .int .i64 (f1 k), .int .i64 (f2 k), .float .f32 (f3 k)] 96) := ⟨_, rfl⟩
            rw [← hX]
            have hXl : wr.heap.size < X.heap.size := by rw [hX]; simp
            have hXb : Below w.heap.size w X := by rw [hX]; exact hb.alloc hsz _
            have hXz : w.heap.size ≤ X.heap.size := hXb.size
            have x0 : X.cell? ⟨wr.heap.size, 0, none⟩ = some (.int .i64 (f0 k)) := by rw [hX]; simp [go_sem]
            have x1 : X.cell? ⟨wr.heap.size, 1, none⟩ = some (.int .i64 (f1 k)) := by rw [hX]; simp [go_sem]
            have x2 : X.cell? ⟨wr.heap.size, 2, none⟩ = some (.int .i64 (f2 k)) := by rw [hX]; simp [go_sem]
            have x3 : X.cell? ⟨wr.heap.size, 3, none⟩ = some (.float .f32 (f3 k)) := by rw [hX]; simp [go_sem]
            refine quiet_litC (C := (fun w' => w'.cell? ⟨wr.heap.size, 0, none⟩ = some (Value.int .i64 (f0 k)) ∧ w'.cell? ⟨wr.heap.size, 1, none⟩ = some (Value.int .i64 (f1 k)) ∧ w'.cell? ⟨wr.heap.size, 2, none⟩ = some (Value.int .i64 (f2 k)) ∧ w'.cell? ⟨wr.heap.size, 3, none⟩ = some (Value.float .f32 (f3 k)) ∧ Below X.heap.size X w')) (by kernel_rfl) (by kernel_rfl) ⟨x0, x1, x2, x3, below_drewN (Below.refl _ _) 1⟩ ?_
            clear hX x0 x1 x2 x3
            have hk9 : decide (0 < k) = false := by have := H0.out; simp; omega
            repeat
              first
                | go_big_quiet_skip
                | (go_big_quiet_want; go_big_quiet_op; go_big_quiet_on)
                | (go_big_quiet_want; go_big_quiet_op; apply Exists.intro; refine ⟨fun w' l0 l1 l2 l3 lb => ?_, ?_⟩
                   · (first | exact rfl | (go_at_call 64; refine (CN w').mono ?_; rintro e w2 ⟨rfl, lb2⟩; exact ⟨rfl, ⟨(cell_below lb2 (Nat.lt_of_lt_of_le hXl lb.size)).trans l0, (cell_below lb2 (Nat.lt_of_lt_of_le hXl lb.size)).trans l1, (cell_below lb2 (Nat.lt_of_lt_of_le hXl lb.size)).trans l2, (cell_below lb2 (Nat.lt_of_lt_of_le hXl lb.size)).trans l3, below_next lb lb.size lb2⟩⟩) | (go_simp; rfl))
                   go_big_quiet_on)
            refine wpQuiet_nil ?_
            rintro w3 ⟨-, -, -, -, eb⟩
            have hB := Lib.hid (below_next hXb hXz eb)
            clear hXb eb hb hXz hXl CN hsA
            go_wp2
            refine ⟨⟨k + 1, by omega, by go_num, Lib.hid (fun j hj => ?_), hB.out⟩, by simp [intOf]; omega⟩
            obtain rfl : j = k := by have := H0.out; omega
            rw [cn, show stepC f0 j = true by unfold stepC; rw [if_pos H0.out]]; rfl
          · have hk1 : k - 1 < n := by omega
            obtain ⟨ad2, he, p0, _, _, _⟩ := (h.below hb).cell (k - 1) hk1
            obtain rfl := Option.some.inj he
            have hpA : ∀ (u : Unit) m, ((wr.alloc (.cells #[.int .i64 (f0 k), .int .i64 (f1 k), .int .i64 (f2 k), .float .f32 (f3 k)] 96)).drewN m).cell? (ad.add ((k - 1) * 4)) = some (.int .i64 (f0 (k - 1))) := fun _ m => ((below_drewN ((Below.refl _ wr).alloc (Nat.le_refl _) _) m).cell (World.block_lt_of_cell? wr _ p0)).trans p0
            have hk2 : ((k : Int) - 1).toNat = k - 1 := by omega
            have hk3 : (0 : Int) ≤ (k : Int) - 1 := by omega
            have hk4 : (k : Int) - 1 < (n : Int) := by omega
            have hk5 : (0 : Int) < (k : Int) := by omega
            have H0 := Lib.hid h0
            clear h he
            by_cases hcmp : f0 k < f0 (k - 1)
            · go_wp2_with fail
              obtain ⟨X, hX⟩ : ∃ X, X = wr.alloc (.cells #[.int .i64 (f0 k), .int .i64 (f1 k), .int .i64 (f2 k), .float .f32 (f3 k)] 96) := ⟨_, rfl⟩
              rw [← hX]
              have hXl : wr.heap.size < X.heap.size := by rw [hX]; simp
              have hXb : Below w.heap.size w X := by rw [hX]; exact hb.alloc hsz _
              have hXz : w.heap.size ≤ X.heap.size := hXb.size
              have x0 : X.cell? ⟨wr.heap.size, 0, none⟩ = some (.int .i64 (f0 k)) := by rw [hX]; simp [go_sem]
              have x1 : X.cell? ⟨wr.heap.size, 1, none⟩ = some (.int .i64 (f1 k)) := by rw [hX]; simp [go_sem]
              have x2 : X.cell? ⟨wr.heap.size, 2, none⟩ = some (.int .i64 (f2 k)) := by rw [hX]; simp [go_sem]
              have x3 : X.cell? ⟨wr.heap.size, 3, none⟩ = some (.float .f32 (f3 k)) := by rw [hX]; simp [go_sem]
              have xp : X.cell? (ad.add ((k - 1) * 4)) = some (.int .i64 (f0 (k - 1))) := by rw [hX]; exact hpA () 0
              refine quiet_litC (C := (fun w' => w'.cell? ⟨wr.heap.size, 0, none⟩ = some (Value.int .i64 (f0 k)) ∧ w'.cell? ⟨wr.heap.size, 1, none⟩ = some (Value.int .i64 (f1 k)) ∧ w'.cell? ⟨wr.heap.size, 2, none⟩ = some (Value.int .i64 (f2 k)) ∧ w'.cell? ⟨wr.heap.size, 3, none⟩ = some (Value.float .f32 (f3 k)) ∧ w'.cell? (ad.add ((k - 1) * 4)) = some (Value.int .i64 (f0 (k - 1))) ∧ Below X.heap.size X w')) (by kernel_rfl) (by kernel_rfl) ⟨x0, x1, x2, x3, xp, below_drewN (Below.refl _ _) 1⟩ ?_
              clear hX x0 x1 x2 x3 xp
              repeat
                first
                  | go_big_quiet_skip
                  | (go_big_quiet_want; go_big_quiet_op; go_big_quiet_on)
                  | (go_big_quiet_want; go_big_quiet_op; apply Exists.intro; refine ⟨fun w' l0 l1 l2 l3 lp lb => ?_, ?_⟩
                     · (first | exact rfl | (go_at_call 64; refine (CN w').mono ?_; rintro e w2 ⟨rfl, lb2⟩; exact ⟨rfl, ⟨(cell_below lb2 (Nat.lt_of_lt_of_le hXl lb.size)).trans l0, (cell_below lb2 (Nat.lt_of_lt_of_le hXl lb.size)).trans l1, (cell_below lb2 (Nat.lt_of_lt_of_le hXl lb.size)).trans l2, (cell_below lb2 (Nat.lt_of_lt_of_le hXl lb.size)).trans l3, (lb2.cell (World.block_lt_of_cell? _ _ lp)).trans lp, below_next lb lb.size lb2⟩⟩) | (go_simp; rfl))
                     go_big_quiet_on)
              refine wpQuiet_nil ?_
              rintro w3 ⟨-, -, -, -, -, eb⟩
              have hB := Lib.hid (below_next hXb hXz eb)
              clear hXb eb hb hXz hXl CN hsA hpA p0
              go_wp2
              go_ret
              exact ⟨by rw [upto_false (p := fun k => noteC (f0 k) (f1 k) (f2 k) && stepC f0 k) H.out (by rw [stepC_pos f0 H0.out, cn]; simp; omega)]; rfl, hB.out⟩
            · go_wp2_with fail
              obtain ⟨X, hX⟩ : ∃ X, X = wr.alloc (.cells #[.int .i64 (f0 k), .int .i64 (f1 k), .int .i64 (f2 k), .float .f32 (f3 k)] 96) := ⟨_, rfl⟩
              rw [← hX]
              have hXl : wr.heap.size < X.heap.size := by rw [hX]; simp
              have hXb : Below w.heap.size w X := by rw [hX]; exact hb.alloc hsz _
              have hXz : w.heap.size ≤ X.heap.size := hXb.size
              have x0 : X.cell? ⟨wr.heap.size, 0, none⟩ = some (.int .i64 (f0 k)) := by rw [hX]; simp [go_sem]
              have x1 : X.cell? ⟨wr.heap.size, 1, none⟩ = some (.int .i64 (f1 k)) := by rw [hX]; simp [go_sem]
              have x2 : X.cell? ⟨wr.heap.size, 2, none⟩ = some (.int .i64 (f2 k)) := by rw [hX]; simp [go_sem]
              have x3 : X.cell? ⟨wr.heap.size, 3, none⟩ = some (.float .f32 (f3 k)) := by rw [hX]; simp [go_sem]
              have xp : X.cell? (ad.add ((k - 1) * 4)) = some (.int .i64 (f0 (k - 1))) := by rw [hX]; exact hpA () 0
              refine quiet_litC (C := (fun w' => w'.cell? ⟨wr.heap.size, 0, none⟩ = some (Value.int .i64 (f0 k)) ∧ w'.cell? ⟨wr.heap.size, 1, none⟩ = some (Value.int .i64 (f1 k)) ∧ w'.cell? ⟨wr.heap.size, 2, none⟩ = some (Value.int .i64 (f2 k)) ∧ w'.cell? ⟨wr.heap.size, 3, none⟩ = some (Value.float .f32 (f3 k)) ∧ w'.cell? (ad.add ((k - 1) * 4)) = some (Value.int .i64 (f0 (k - 1))) ∧ Below X.heap.size X w')) (by kernel_rfl) (by kernel_rfl) ⟨x0, x1, x2, x3, xp, below_drewN (Below.refl _ _) 1⟩ ?_
              clear hX x0 x1 x2 x3 xp
              repeat
                first
                  | go_big_quiet_skip
                  | (go_big_quiet_want; go_big_quiet_op; go_big_quiet_on)
                  | (go_big_quiet_want; go_big_quiet_op; apply Exists.intro; refine ⟨fun w' l0 l1 l2 l3 lp lb => ?_, ?_⟩
                     · (first | exact rfl | (go_at_call 64; refine (CN w').mono ?_; rintro e w2 ⟨rfl, lb2⟩; exact ⟨rfl, ⟨(cell_below lb2 (Nat.lt_of_lt_of_le hXl lb.size)).trans l0, (cell_below lb2 (Nat.lt_of_lt_of_le hXl lb.size)).trans l1, (cell_below lb2 (Nat.lt_of_lt_of_le hXl lb.size)).trans l2, (cell_below lb2 (Nat.lt_of_lt_of_le hXl lb.size)).trans l3, (lb2.cell (World.block_lt_of_cell? _ _ lp)).trans lp, below_next lb lb.size lb2⟩⟩) | (go_simp; rfl))
                     go_big_quiet_on)
              refine wpQuiet_nil ?_
              rintro w3 ⟨-, -, -, -, -, eb⟩
              have hB := Lib.hid (below_next hXb hXz eb)
              clear hXb eb hb hXz hXl CN hsA hpA p0
              go_wp2
              refine ⟨⟨k + 1, by omega, by go_num, Lib.hid (fun j hj => ?_), hB.out⟩, by simp [intOf]; omega⟩
              rcases Nat.lt_or_ge j k with h1 | h1
              · exact ht.out j h1
              · obtain rfl : j = k := by omega
                rw [cn, stepC_pos f0 H0.out]; simp; omega
      · obtain rfl : k = n := by omega
        have hu := upto_true (p := fun k => noteC (f0 k) (f1 k) (f2 k) && stepC f0 k) ht.out
        go_wp2
        go_ret
        exact ⟨by first | rfl | (rw [hu]; rfl), hb⟩
set_option maxHeartbeats 400000 in
theorem spec_AreNotes {A : Option Addr} {n c : Nat} {f0 f1 f2 : Nat → Int} {f3 : Nat → Nat} (w : World) (h : RdNote w A n f0 f1 f2 f3) (hn : n ≤ 1048576) : Calls Try.prog 29 #[.slice A n c] w (RV (.bool (notesC n f0 f1 f2)) w) := by
  go_enter Try.func29, Try.ntmps29
  go_wp2_with fail
  refine (spec_l05Notes _ h hn).mono ?_
  rintro e w1 ⟨rfl, hb1⟩
  go_wp2_with fail
  go_ret
  exact ⟨rfl, hb1⟩
end Go.Proofs.Ytlenpecnfilkjaa
