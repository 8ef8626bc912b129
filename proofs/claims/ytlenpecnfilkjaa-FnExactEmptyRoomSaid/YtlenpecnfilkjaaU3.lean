/- Rows of rows: comparing and marking; marks of rooms. Conditions: none beside the contracts' own. -/
import Derived.Test.YtlenpecnfilkjaaU2
import Derived.Test.YtlenpecnfilkjaaL
set_option linter.unusedVariables false
set_option linter.unusedSimpArgs false
namespace Go.Proofs.Ytlenpecnfilkjaa
open Go.RowKit
set_option maxHeartbeats 1600000 in
theorem laws_markDelayS {A : Option Addr} {n c B : Nat} {f0 : Nat → Int} {f1 : Nat → Nat} {f2 : Nat → Nat} {f3 : Nat → Nat} {f4 : Nat → Bool} {k : Int} (w : World) (h : OwDelay w B (.slice A n c) n f0 f1 f2 f3 f4) (hn : n ≤ 1048576) (h0 : 0 ≤ k) (h1 : k ≤ 536870912) :
    Calls Try.prog 86 #[.slice A n c, .int .i64 k] w fun e w' => e = .returned (.int .i64 (k + 5 * (n : Int))) ∧ w.grownBy w' (Value.slice A n c).ownBlock := by
  obtain ⟨g, c', hv, _, _, hr, hf⟩ := h.own
  injection hv with e1 e2 e3
  subst e1
  have hcl : ∀ j, j < n → (∃ u, w.cell? ⟨g, j * 5, none⟩ = some u) ∧ (∃ u, w.cell? ⟨g, j * 5 + 1, none⟩ = some u) ∧ (∃ u, w.cell? ⟨g, j * 5 + 2, none⟩ = some u) ∧ (∃ u, w.cell? ⟨g, j * 5 + 3, none⟩ = some u) ∧ (∃ u, w.cell? ⟨g, j * 5 + 4, none⟩ = some u) := fun j hj => by
    obtain ⟨ad, e, c0, c1, c2, c3, c4⟩ := hr.cell j hj
    cases e
    rw [add_plain] at c0 c1 c2 c3 c4
    exact ⟨⟨_, c0⟩, ⟨_, c1⟩, ⟨_, c2⟩, ⟨_, c3⟩, ⟨_, c4⟩⟩
  clear h hr
  go_enter Try.func86, Try.ntmps86
  go_wp2
  go_loopw [1, 5] (fun q i w' => ∃ j, j ≤ n ∧ i = .int .i64 (j : Nat) ∧ q = .int .i64 (k + 5 * (j : Int)) ∧ Hid (∀ t, t < n → (∃ u, w'.cell? ⟨g, t * 5, none⟩ = some u) ∧ (∃ u, w'.cell? ⟨g, t * 5 + 1, none⟩ = some u) ∧ (∃ u, w'.cell? ⟨g, t * 5 + 2, none⟩ = some u) ∧ (∃ u, w'.cell? ⟨g, t * 5 + 3, none⟩ = some u) ∧ (∃ u, w'.cell? ⟨g, t * 5 + 4, none⟩ = some u)) ∧ Hid (∀ q, w'.frozen? ⟨g, q, none⟩ = false) ∧ Hid (w.grownBy w' (some g))) (fun _ i _ => n - (intOf i).toNat)
  case atStart => exact ⟨0, Nat.zero_le _, rfl, by simp, Lib.hid hcl, Lib.hid hf, Lib.hid (World.grownBy.refl _ _)⟩
  case round =>
    obtain ⟨j, hj, rfl, rfl, hc, hf', hg⟩ := hrel
    rename World => W
    by_cases hlt : j < n
    · obtain ⟨⟨u0, d0⟩, ⟨u1, d1⟩, ⟨u2, d2⟩, ⟨u3, d3⟩, ⟨u4, d4⟩⟩ := hc.out j hlt
      have hs : ∀ (V : World) (o p : Nat) (x : Value), (∃ u, V.cell? ⟨g, p, none⟩ = some u) → ∃ u, (V.setCell ⟨g, o, none⟩ x).cell? ⟨g, p, none⟩ = some u := fun V o p x ⟨u, hu⟩ => by
        by_cases he : o = p
        · subst he; exact ⟨x, World.cell?_setCell_same _ _ _ hu⟩
        · exact ⟨u, by rw [World.cell?_setCell_other _ _ _ _ (by simp)]; exact hu⟩
      have key : ∀ (a0 a1 a2 a3 a4 : Value), Hid ((∀ t, t < n → (∃ u, (((((W.setCell ⟨g, j * 5, none⟩ a0).setCell ⟨g, j * 5 + 1, none⟩ a1).setCell ⟨g, j * 5 + 2, none⟩ a2).setCell ⟨g, j * 5 + 3, none⟩ a3).setCell ⟨g, j * 5 + 4, none⟩ a4).cell? ⟨g, t * 5, none⟩ = some u) ∧ (∃ u, (((((W.setCell ⟨g, j * 5, none⟩ a0).setCell ⟨g, j * 5 + 1, none⟩ a1).setCell ⟨g, j * 5 + 2, none⟩ a2).setCell ⟨g, j * 5 + 3, none⟩ a3).setCell ⟨g, j * 5 + 4, none⟩ a4).cell? ⟨g, t * 5 + 1, none⟩ = some u) ∧ (∃ u, (((((W.setCell ⟨g, j * 5, none⟩ a0).setCell ⟨g, j * 5 + 1, none⟩ a1).setCell ⟨g, j * 5 + 2, none⟩ a2).setCell ⟨g, j * 5 + 3, none⟩ a3).setCell ⟨g, j * 5 + 4, none⟩ a4).cell? ⟨g, t * 5 + 2, none⟩ = some u) ∧ (∃ u, (((((W.setCell ⟨g, j * 5, none⟩ a0).setCell ⟨g, j * 5 + 1, none⟩ a1).setCell ⟨g, j * 5 + 2, none⟩ a2).setCell ⟨g, j * 5 + 3, none⟩ a3).setCell ⟨g, j * 5 + 4, none⟩ a4).cell? ⟨g, t * 5 + 3, none⟩ = some u) ∧ (∃ u, (((((W.setCell ⟨g, j * 5, none⟩ a0).setCell ⟨g, j * 5 + 1, none⟩ a1).setCell ⟨g, j * 5 + 2, none⟩ a2).setCell ⟨g, j * 5 + 3, none⟩ a3).setCell ⟨g, j * 5 + 4, none⟩ a4).cell? ⟨g, t * 5 + 4, none⟩ = some u)) ∧ (∀ q, (((((W.setCell ⟨g, j * 5, none⟩ a0).setCell ⟨g, j * 5 + 1, none⟩ a1).setCell ⟨g, j * 5 + 2, none⟩ a2).setCell ⟨g, j * 5 + 3, none⟩ a3).setCell ⟨g, j * 5 + 4, none⟩ a4).frozen? ⟨g, q, none⟩ = false) ∧ w.grownBy (((((W.setCell ⟨g, j * 5, none⟩ a0).setCell ⟨g, j * 5 + 1, none⟩ a1).setCell ⟨g, j * 5 + 2, none⟩ a2).setCell ⟨g, j * 5 + 3, none⟩ a3).setCell ⟨g, j * 5 + 4, none⟩ a4) (some g)) := fun a0 a1 a2 a3 a4 => by
        refine Lib.hid ⟨fun t ht => ?_, fun q => (by first | (simp; done) | simpa using hf'.out q), (((((hg.out.trans (grown_set W ⟨g, j * 5, none⟩ a0)).trans (grown_set _ ⟨g, j * 5 + 1, none⟩ a1)).trans (grown_set _ ⟨g, j * 5 + 2, none⟩ a2)).trans (grown_set _ ⟨g, j * 5 + 3, none⟩ a3)).trans (grown_set _ ⟨g, j * 5 + 4, none⟩ a4))⟩
        obtain ⟨q0, q1, q2, q3, q4⟩ := hc.out t ht
        exact ⟨hs _ _ _ _ (hs _ _ _ _ (hs _ _ _ _ (hs _ _ _ _ (hs _ _ _ _ q0)))), hs _ _ _ _ (hs _ _ _ _ (hs _ _ _ _ (hs _ _ _ _ (hs _ _ _ _ q1)))), hs _ _ _ _ (hs _ _ _ _ (hs _ _ _ _ (hs _ _ _ _ (hs _ _ _ _ q2)))), hs _ _ _ _ (hs _ _ _ _ (hs _ _ _ _ (hs _ _ _ _ (hs _ _ _ _ q3)))), hs _ _ _ _ (hs _ _ _ _ (hs _ _ _ _ (hs _ _ _ _ (hs _ _ _ _ q4))))⟩
      have fr0 := hf'.out (j * 5)
      have fr1 := hf'.out (j * 5 + 1)
      have fr2 := hf'.out (j * 5 + 2)
      have fr3 := hf'.out (j * 5 + 3)
      have fr4 := hf'.out (j * 5 + 4)
      have s1 : ∀ (a0 : Value), (W.setCell ⟨g, j * 5, none⟩ a0).cell? ⟨g, j * 5 + 1, none⟩ = some u1 := fun a0 => by rw [World.cell?_setCell_other _ _ _ _ (by simp)]; exact d1
      have s2 : ∀ (a0 a1 : Value), ((W.setCell ⟨g, j * 5, none⟩ a0).setCell ⟨g, j * 5 + 1, none⟩ a1).cell? ⟨g, j * 5 + 2, none⟩ = some u2 := fun a0 a1 => by rw [World.cell?_setCell_other _ _ _ _ (by simp)]; rw [World.cell?_setCell_other _ _ _ _ (by simp)]; exact d2
      have s3 : ∀ (a0 a1 a2 : Value), (((W.setCell ⟨g, j * 5, none⟩ a0).setCell ⟨g, j * 5 + 1, none⟩ a1).setCell ⟨g, j * 5 + 2, none⟩ a2).cell? ⟨g, j * 5 + 3, none⟩ = some u3 := fun a0 a1 a2 => by rw [World.cell?_setCell_other _ _ _ _ (by simp)]; rw [World.cell?_setCell_other _ _ _ _ (by simp)]; rw [World.cell?_setCell_other _ _ _ _ (by simp)]; exact d3
      have s4 : ∀ (a0 a1 a2 a3 : Value), ((((W.setCell ⟨g, j * 5, none⟩ a0).setCell ⟨g, j * 5 + 1, none⟩ a1).setCell ⟨g, j * 5 + 2, none⟩ a2).setCell ⟨g, j * 5 + 3, none⟩ a3).cell? ⟨g, j * 5 + 4, none⟩ = some u4 := fun a0 a1 a2 a3 => by rw [World.cell?_setCell_other _ _ _ _ (by simp)]; rw [World.cell?_setCell_other _ _ _ _ (by simp)]; rw [World.cell?_setCell_other _ _ _ _ (by simp)]; rw [World.cell?_setCell_other _ _ _ _ (by simp)]; exact d4
      clear hcl hf hc hf' hg hs
      go_wp2
      exact ⟨⟨j + 1, by omega, by go_num, by go_num, Lib.hid (key _ _ _ _ _).out.1, Lib.hid (key _ _ _ _ _).out.2.1, Lib.hid (key _ _ _ _ _).out.2.2⟩, by simp [intOf]; omega⟩
    · go_wp2
      go_ret
      obtain rfl : j = n := by omega
      exact ⟨rfl, hg.out⟩
set_option maxHeartbeats 1600000 in
theorem laws_markPassS {A : Option Addr} {n c B : Nat} {f0 : Nat → Int} {f1 : Nat → Nat} {k : Int} (w : World) (h : OwPass w B (.slice A n c) n f0 f1) (hn : n ≤ 1048576) (h0 : 0 ≤ k) (h1 : k ≤ 536870912) :
    Calls Try.prog 87 #[.slice A n c, .int .i64 k] w fun e w' => e = .returned (.int .i64 (k + 2 * (n : Int))) ∧ w.grownBy w' (Value.slice A n c).ownBlock := by
  obtain ⟨g, c', hv, _, _, hr, hf⟩ := h.own
  injection hv with e1 e2 e3
  subst e1
  have hcl : ∀ j, j < n → (∃ u, w.cell? ⟨g, j * 2, none⟩ = some u) ∧ (∃ u, w.cell? ⟨g, j * 2 + 1, none⟩ = some u) := fun j hj => by
    obtain ⟨ad, e, c0, c1⟩ := hr.cell j hj
    cases e
    rw [add_plain] at c0 c1
    exact ⟨⟨_, c0⟩, ⟨_, c1⟩⟩
  clear h hr
  go_enter Try.func87, Try.ntmps87
  go_wp2
  go_loopw [1, 5] (fun q i w' => ∃ j, j ≤ n ∧ i = .int .i64 (j : Nat) ∧ q = .int .i64 (k + 2 * (j : Int)) ∧ Hid (∀ t, t < n → (∃ u, w'.cell? ⟨g, t * 2, none⟩ = some u) ∧ (∃ u, w'.cell? ⟨g, t * 2 + 1, none⟩ = some u)) ∧ Hid (∀ q, w'.frozen? ⟨g, q, none⟩ = false) ∧ Hid (w.grownBy w' (some g))) (fun _ i _ => n - (intOf i).toNat)
  case atStart => exact ⟨0, Nat.zero_le _, rfl, by simp, Lib.hid hcl, Lib.hid hf, Lib.hid (World.grownBy.refl _ _)⟩
  case round =>
    obtain ⟨j, hj, rfl, rfl, hc, hf', hg⟩ := hrel
    rename World => W
    by_cases hlt : j < n
    · obtain ⟨⟨u0, d0⟩, ⟨u1, d1⟩⟩ := hc.out j hlt
      have hs : ∀ (V : World) (o p : Nat) (x : Value), (∃ u, V.cell? ⟨g, p, none⟩ = some u) → ∃ u, (V.setCell ⟨g, o, none⟩ x).cell? ⟨g, p, none⟩ = some u := fun V o p x ⟨u, hu⟩ => by
        by_cases he : o = p
        · subst he; exact ⟨x, World.cell?_setCell_same _ _ _ hu⟩
        · exact ⟨u, by rw [World.cell?_setCell_other _ _ _ _ (by simp)]; exact hu⟩
      have key : ∀ (a0 a1 : Value), Hid ((∀ t, t < n → (∃ u, ((W.setCell ⟨g, j * 2, none⟩ a0).setCell ⟨g, j * 2 + 1, none⟩ a1).cell? ⟨g, t * 2, none⟩ = some u) ∧ (∃ u, ((W.setCell ⟨g, j * 2, none⟩ a0).setCell ⟨g, j * 2 + 1, none⟩ a1).cell? ⟨g, t * 2 + 1, none⟩ = some u)) ∧ (∀ q, ((W.setCell ⟨g, j * 2, none⟩ a0).setCell ⟨g, j * 2 + 1, none⟩ a1).frozen? ⟨g, q, none⟩ = false) ∧ w.grownBy ((W.setCell ⟨g, j * 2, none⟩ a0).setCell ⟨g, j * 2 + 1, none⟩ a1) (some g)) := fun a0 a1 => by
        refine Lib.hid ⟨fun t ht => ?_, fun q => (by first | (simp; done) | simpa using hf'.out q), ((hg.out.trans (grown_set W ⟨g, j * 2, none⟩ a0)).trans (grown_set _ ⟨g, j * 2 + 1, none⟩ a1))⟩
        obtain ⟨q0, q1⟩ := hc.out t ht
        exact ⟨hs _ _ _ _ (hs _ _ _ _ q0), hs _ _ _ _ (hs _ _ _ _ q1)⟩
      have fr0 := hf'.out (j * 2)
      have fr1 := hf'.out (j * 2 + 1)
      have s1 : ∀ (a0 : Value), (W.setCell ⟨g, j * 2, none⟩ a0).cell? ⟨g, j * 2 + 1, none⟩ = some u1 := fun a0 => by rw [World.cell?_setCell_other _ _ _ _ (by simp)]; exact d1
      clear hcl hf hc hf' hg hs
      go_wp2
      exact ⟨⟨j + 1, by omega, by go_num, by go_num, Lib.hid (key _ _).out.1, Lib.hid (key _ _).out.2.1, Lib.hid (key _ _).out.2.2⟩, by simp [intOf]; omega⟩
    · go_wp2
      go_ret
      obtain rfl : j = n := by omega
      exact ⟨rfl, hg.out⟩

theorem grown_behind' {w w1 w2 : World} {row : Option Nat} (h : Below w.heap.size w w1) (g : w1.grownBy w2 row) : w.grownBy w2 row :=
  ⟨g.os.trans h.os, g.tape.trans h.tape, g.output.trans h.output, Nat.le_trans h.size g.size, fun i hi hr => (g.block i (Nat.lt_of_lt_of_le hi h.size) hr).trans (h.block i hi)⟩
set_option maxHeartbeats 800000 in
theorem laws_markRoom {A B : Option Addr} {n m c d x y D : Nat} {f0 : Nat → Int} {f1 f2 f3 : Nat → Nat} {f4 : Nat → Bool} {g0 : Nat → Int} {g1 : Nat → Nat} {k : Int} (w : World) (h : OwDelay w D (.slice A n c) n f0 f1 f2 f3 f4) (hn : n ≤ 1048576) (h' : OwPass w D (.slice B m d) m g0 g1) (hm : m ≤ 1048576) (hap : (Value.slice A n c).ownBlock = none ∨ (Value.slice A n c).ownBlock ≠ (Value.slice B m d).ownBlock) (h0 : 0 ≤ k) (h1 : k ≤ 1048576) :
    Calls Try.prog 49 #[.agg #[.slice A n c, .slice B m d, .float .f32 x, .float .f32 y], .int .i64 k] w fun e w' => e = .returned (.int .i64 (k + 5 * (n : Int) + 2 * (m : Int))) ∧ ∃ w1, w.grownBy w1 (Value.slice A n c).ownBlock ∧ w1.grownBy w' (Value.slice B m d).ownBlock := by
  have hK := PrK.start w [.slice A n c, .slice B m d, .float .f32 x, .float .f32 y] 76
  have hlt := h.base
  have hle : ∀ j, (Value.slice A n c).ownBlock = some j → j < w.heap.size := h.lt
  go_enter Try.func49, Try.ntmps49
  go_wp2_with fail
  refine (laws_markDelayS _ (h.below hK.bel) hn h0 (by omega)).mono ?_
  rintro e w1 ⟨rfl, hg1⟩
  have hp1 : w1.cell? ⟨w.heap.size, 1, none⟩ = some (.slice B m d) := (World.cell?_of_block (a := ⟨w.heap.size, 1, none⟩) (hg1.block _ hK.sz (fun e => absurd (hle _ e.symm) (Nat.lt_irrefl _)))).trans (hK.cp 1 _ rfl)
  have h2 := (h'.below hK.bel).other hg1 (ne_swap hap)
  clear hK
  go_wp2_with fail
  refine (laws_markPassS _ h2 hm (by omega) (by omega)).mono ?_
  rintro e w2 ⟨rfl, hg2⟩
  go_wp2_with fail
  go_ret
  exact ⟨rfl, w1, grown_behind' ((Below.refl _ w).alloc (Nat.le_refl _) _) hg1, hg2⟩
/-- What grows only in blocks from B to M. -/
def Grows (B M : Nat) (w w' : World) : Prop := ∀ P : World → Prop, (∀ u u' row, u.grownBy u' row → (∀ k, row = some k → B ≤ k ∧ k < M) → P u → P u') → P w → P w'
theorem Grows.refl (B M : Nat) (w : World) : Grows B M w w := fun _ _ h => h
theorem Grows.step {B M : Nat} {w w' w'' : World} (h : Grows B M w w') {row : Option Nat} (hg : w'.grownBy w'' row) (hr : ∀ k, row = some k → B ≤ k ∧ k < M) : Grows B M w w'' := fun P hP hw => hP _ _ row hg hr (h P hP hw)
theorem OwSS.put {w w2 : World} {B M n j : Nat} {v : Value} {F : Nat → Value} {X : Nat → List Nat} {xs : List Nat} (h : OwSS w B M v n F X) (hj : j < n) (hu : OfJ w2 B (F j) xs) (hg : w.grownBy w2 (F j).ownBlock) : OwSS w2 B M v n F (fun i => if i = j then xs else X i) := by
  refine ⟨h.own.kept hg (h.outer j hj), fun i hi => ?_, h.inc, h.outer, h.top, h.low⟩
  by_cases hij : i = j
  · subst hij; simp only [if_pos]; exact hu
  · simp only [if_neg hij]
    refine (h.each i hi).other hg ?_
    cases e1 : (F i).ownBlock with
    | none => exact .inl rfl
    | some a =>
      refine .inr (fun e => ?_)
      rcases Nat.lt_or_ge i j with hlt | hge
      · have := h.inc i j a a hlt hj e1 e.symm; omega
      · have := h.inc j i a a (by omega) hi e.symm e1; omega
def tot (X : Nat → List Nat) : Nat → Int
  | 0 => 0
  | i + 1 => tot X i + ((X i).length : Int)
theorem tot_le {X : Nat → List Nat} {n : Nat} (hX : ∀ i, i < n → (X i).length ≤ 64) : ∀ j, j ≤ n → 0 ≤ tot X j ∧ tot X j ≤ 64 * (j : Int)
  | 0, _ => by simp [tot]
  | j + 1, hj => by
    have h1 := tot_le hX j (by omega)
    have h2 := hX j (by omega)
    rw [tot]; omega
set_option maxHeartbeats 1600000 in
theorem laws_eqFloat32SS {A A' : Option Addr} {B M B' M' n c c' : Nat} {F F' : Nat → Value} {X X' : Nat → List Nat} (w : World) (h : OwSS w B M (.slice A n c) n F X) (h' : OwSS w B' M' (.slice A' n c') n F' X') (hX : ∀ i, i < n → (X i).length ≤ 64 ∧ clss (X i) = clss (X' i)) (hn : n ≤ 64) :
    Calls Try.prog 48 #[.slice A n c, .slice A' n c'] w (RV (.bool true) w) := by
  go_enter Try.func48, Try.ntmps48
  go_wp2
  go_loopw [5] (fun i w' => ∃ k, k ≤ n ∧ i = .int .i64 (k : Nat) ∧ Below w.heap.size w w') (fun i _ => n - (intOf i).toNat)
  case atStart => exact ⟨0, Nat.zero_le _, rfl, Below.refl _ _⟩
  case round =>
    obtain ⟨k, hk, rfl, hb⟩ := hrel
    have hsz := hb.size
    by_cases hlt : k < n
    · obtain ⟨g, cc, e, c0⟩ := (h.below hb).at_ hlt
      cases e
      obtain ⟨g', cc', e, c0'⟩ := (h'.below hb).at_ hlt
      cases e
      obtain ⟨Ak, ck, ek⟩ := ((h.below hb).each k hlt).shape
      obtain ⟨Ak', ck', ek'⟩ := ((h'.below hb).each k hlt).shape
      have ho := (h.below hb).each k hlt
      have ho' := (h'.below hb).each k hlt
      rw [ek] at c0 ho
      rw [ek'] at c0' ho'
      obtain ⟨h64, hcl⟩ := hX k hlt
      have HCL := Lib.hid hcl
      have HO := Lib.hid ho
      have HO' := Lib.hid ho'
      have HB := Lib.hid hb
      clear h h' hX ek ek' hcl ho ho' hb
      go_wp2_with fail
      go_region_with (go_at_call 85; (refine (laws_eqFloat32S _ ((HO.out.drewN _).rd rfl) ((HO'.out.drewN _).rd rfl) HCL.out (by omega)).mono ?_); rintro e w2 ⟨rfl, q, rfl⟩)
      all_goals
        go_wp2
        exact ⟨⟨k + 1, by omega, by go_num, below_drewN HB.out _⟩, by simp [intOf]; omega⟩
    · go_wp2
      go_ret
      exact ⟨rfl, hb⟩
set_option maxHeartbeats 1600000 in
theorem laws_markFloat32SS {A : Option Addr} {B M n c : Nat} {F : Nat → Value} {X : Nat → List Nat} {k : Int} (w : World) (h : OwSS w B M (.slice A n c) n F X) (hX : ∀ i, i < n → (X i).length ≤ 64) (hn : n ≤ 64) (h0 : 0 ≤ k) (h1 : k ≤ 1048576) :
    Calls Try.prog 50 #[.slice A n c, .int .i64 k] w fun e w' => e = .returned (.int .i64 (k + tot X n)) ∧ OwSS w' B M (.slice A n c) n F (fun i => marks (k + tot X i) (X i).length) ∧ Grows B M w w' := by
  go_enter Try.func50, Try.ntmps50
  go_wp2
  go_loopw [1, 5] (fun q i w' => ∃ j, j ≤ n ∧ i = .int .i64 (j : Nat) ∧ q = .int .i64 (k + tot X j) ∧ OwSS w' B M (.slice A n c) n F (fun i => if i < j then marks (k + tot X i) (X i).length else X i) ∧ Hid (Grows B M w w')) (fun _ i _ => n - (intOf i).toNat)
  case atStart => exact ⟨0, Nat.zero_le _, rfl, by simp [tot], h.congr (fun i _ => by simp), Lib.hid (Grows.refl _ _ _)⟩
  case round =>
    clear h
    obtain ⟨j, hj, rfl, rfl, ho, hgr⟩ := hrel
    have ht := tot_le hX j hj
    by_cases hlt : j < n
    · obtain ⟨g, cc, e, c0⟩ := ho.at_ hlt
      cases e
      have hoj := ho.each j hlt
      simp only [Nat.lt_irrefl, if_false] at hoj
      obtain ⟨Ak, ck, ek⟩ := hoj.shape
      have hoj2 := hoj
      rw [ek] at c0 hoj2
      have h64 := hX j hlt
      have HT := Lib.hid (show tot X (j + 1) = tot X j + ((X j).length : Int) from rfl)
      have HO := Lib.hid ho
      have HE := Lib.hid ek
      clear ho ek hoj hX
      go_wp2_with fail
      refine (laws_markFloat32S _ hoj2 rfl (by omega) (by omega) (by omega)).mono ?_
      rintro e w2 ⟨rfl, ho2, hg2⟩
      rw [← HE.out] at ho2 hg2
      have HP := Lib.hid ((HO.out.put hlt ho2 hg2).congr (X' := fun i => if i < j + 1 then marks (k + tot X i) (X i).length else X i) (fun i hi => by
        by_cases h1 : i = j
        · subst h1; simp
        · by_cases h2 : i < j
          · simp [h1, h2, show i < j + 1 by omega]
          · simp [h1, h2, show ¬ i < j + 1 by omega]))
      have HG := Lib.hid (hgr.out.step hg2 (fun b e => ⟨(HO.out.each j hlt).base b e, HO.out.top b (.inr ⟨j, hlt, e⟩)⟩))
      clear ho2 hg2 hgr hoj2 c0
      go_wp2
      exact ⟨⟨j + 1, by omega, by go_num, by rw [HT.out, Int.add_assoc], HP.out, HG.out⟩, by simp [intOf]; omega⟩
    · obtain rfl : j = n := by omega
      go_wp2
      go_ret
      exact ⟨rfl, ho.congr (fun i hi => by simp [hi]), hgr.out⟩
set_option maxHeartbeats 1600000 in
theorem laws_heldFloat32SS {A : Option Addr} {B M n c : Nat} {F : Nat → Value} {X : Nat → List Nat} {k : Int} (w : World) (h : OwSS w B M (.slice A n c) n F (fun i => marks (k + tot X i) (X i).length)) (hX : ∀ i, i < n → (X i).length ≤ 64) (hn : n ≤ 64) (h0 : 0 ≤ k) (h1 : k ≤ 1048576) :
    Calls Try.prog 51 #[.slice A n c, .int .i64 k] w fun e w' => e = .returned (.int .i64 (k + tot X n)) ∧ w = w' := by
  go_enter Try.func51, Try.ntmps51
  go_wp2
  go_loop [1, 5] (fun q i => ∃ j, j ≤ n ∧ i = .int .i64 (j : Nat) ∧ q = .int .i64 (k + tot X j)) (fun _ i => n - (intOf i).toNat)
  case atStart => exact ⟨0, Nat.zero_le _, rfl, by simp [tot]⟩
  case round =>
    obtain ⟨j, hj, rfl, rfl⟩ := hrel
    have ht := tot_le hX j hj
    by_cases hlt : j < n
    · obtain ⟨g, cc, e, c0⟩ := h.at_ hlt
      cases e
      have hoj := h.each j hlt
      obtain ⟨Ak, ck, ek⟩ := hoj.shape
      rw [marks_length] at ek
      rw [ek] at c0 hoj
      have h64 := hX j hlt
      have HR := Lib.hid (hoj.rd (marks_length _ _))
      have HT := Lib.hid (show tot X (j + 1) = tot X j + ((X j).length : Int) from rfl)
      clear h hX ek hoj
      go_wp2_with fail
      refine (laws_heldFloat32S _ HR.out (by omega) (by omega) (by omega)).mono ?_
      rintro e w2 ⟨rfl, rfl⟩
      go_wp2
      exact ⟨⟨j + 1, by omega, by go_num, by rw [HT.out, Int.add_assoc]⟩, by simp [intOf]; omega⟩
    · obtain rfl : j = n := by omega
      go_wp2
      go_ret
      exact ⟨rfl, rfl⟩
end Go.Proofs.Ytlenpecnfilkjaa
