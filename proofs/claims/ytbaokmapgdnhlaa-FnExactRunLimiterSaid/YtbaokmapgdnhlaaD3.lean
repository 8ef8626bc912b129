/- The walk of the law on passes. Conditions: none beside the contracts' own. -/
import Derived.Test.YtbaokmapgdnhlaaD2
set_option linter.unusedVariables false
set_option linter.unusedSimpArgs false
namespace Go.Proofs.Ytbaokmapgdnhlaa
open Go.RowKit
theorem grown_drewN {w w1 : World} {row : Option Nat} (h : w.grownBy w1 row) (k : Nat) : w.grownBy (w1.drewN k) row := h.trans (grown_of_below (below_draws _ k) row)
theorem cell_below {w w' : World} {b o : Nat} (h : Below w.heap.size w w') (hb : b < w.heap.size) : w'.cell? ⟨b, o, none⟩ = w.cell? ⟨b, o, none⟩ := h.cell (p := ⟨b, o, none⟩) hb
theorem cell_grown {w w' : World} {row : Option Nat} {b o : Nat} (g : w.grownBy w' row) (hb : b < w.heap.size) (hr : row ≠ some b) : w'.cell? ⟨b, o, none⟩ = w.cell? ⟨b, o, none⟩ := World.cell?_of_block (a := ⟨b, o, none⟩) (g.block b hb (fun e => hr e.symm))
theorem grown_behind {w w1 w2 : World} {row : Option Nat} (h : Below w.heap.size w w1) (g : w1.grownBy w2 row) : w.grownBy w2 row :=
  ⟨g.os.trans h.os, g.tape.trans h.tape, g.output.trans h.output, Nat.le_trans h.size g.size, fun i hi hr => (g.block i (Nat.lt_of_lt_of_le hi h.size) hr).trans (h.block i hi)⟩
def passV (G X : Option Nat) (L : List (Option Nat)) : Option Nat := fadd X (fmul G (L.headD none))
def passY (G X : Option Nat) (L : List (Option Nat)) : Option Nat := fsub (L.headD none) (fmul G (passV G X L))
theorem head_of {L : List (Option Nat)} {X : Option Nat} (h : L[0]? = some X) : L.headD none = X := by cases L <;> simp_all
theorem clss_take1 {xs : List Nat} {v : Nat} {V : Option Nat} (hv : Fl .f32 v V) : clss (xs.tail ++ [v]) = (clss xs).tail ++ [V] := by
  rw [clss_append]; simp [clss, hv.cl]
/-- A sample, and the line in its place. -/
def RLs (Y : Option Nat) (L : List (Option Nat)) (B : Nat) (v : Value) (w : World) (e : Ending) (w' : World) : Prop := ∃ r zs, e = .returned (.float .f32 r) ∧ Fl .f32 r Y ∧ Of w' B v zs ∧ clss zs = L ∧ w.grownBy w' v.ownBlock
/-- A sample, and a new line. -/
def RYL (Y : Option Nat) (L : List (Option Nat)) (w : World) (e : Ending) (w' : World) : Prop := ∃ r v zs, e = .returned (.tuple #[.float .f32 r, v]) ∧ Fl .f32 r Y ∧ Of w' w.heap.size v zs ∧ clss zs = L ∧ Below w.heap.size w w'
set_option maxHeartbeats 800000 in
theorem spec_l03Pass {A : Option Addr} {n c B b : Nat} {xs : List Nat} {g x : Nat} {G X : Option Nat} (w : World) (h : Of w B (.slice A n c) xs) (hl : xs.length = n) (hn0 : 0 < n) (hn : n ≤ 1048576) (hg : Fl .f32 g G) (hx : Fl .f32 x X)
    (hc : w.cell? ⟨b, 1, none⟩ = some (.float .f32 g)) (hb : b < B) :
    Calls Try.prog 58 #[.pointer (some ⟨b, 0, none⟩), .slice A n c, .float .f32 x] w (RLs (passY G X (clss xs)) ((clss xs).tail ++ [passV G X (clss xs)]) B (.slice A n c) w) := by
  obtain ⟨q, rfl, hq⟩ := h.form hl hn0
  obtain ⟨_, y, Y, he, hy, hfy, hxy, hY⟩ := (h.rd hl).at_ (k := 0) hn0
  obtain rfl := (Option.some.inj he).symm
  have hc0 : w.cell? ⟨q, 0, none⟩ = some (.float .f32 y) := by simpa [Addr.add] using hy
  have hbs : b < w.heap.size := World.block_lt_of_cell? w ⟨b, 1, none⟩ hc
  unfold passY passV
  rw [head_of hY]
  have HL := Lib.hid hl
  have HO := Lib.hid h
  have HV := Lib.hid (fun w1 w2 => hx.fr (hg.fr hfy .mul w1) .add w2)
  clear hl hy hxy hY h he
  go_enter Try.func58, Try.ntmps58
  go_wp2_with fail
  refine (spec_l03Take _ (HO.out.drewN _) HL.out hn0 hn (HV.out _ _).wf).mono ?_
  rintro e w1 ⟨rfl, ho, hgr⟩
  have hc1 : w1.cell? ⟨b, 1, none⟩ = some (.float .f32 g) := (cell_grown hgr (by simpa using hbs) (by simp [Value.ownBlock]; omega)).trans hc
  have HG := Lib.hid (World.grownBy.trans (grown_of_below (below_draws w _) _) hgr)
  have hVV := HV.out w (w.drewN (fd .mul .f32 g y))
  clear hgr
  go_wp2_with fail
  go_ret
  exact ⟨_, _, rfl, (by repeat (first | (with_reducible assumption) | exact Fl.of_lit (by decide) (by decide) | apply Fl.fr | apply Fl.cw | apply Fl.cn)), ho.drewN _, clss_take1 hVV, grown_drewN HG.out _⟩
set_option maxHeartbeats 800000 in
theorem impl_Pass_step {A : Option Addr} {n c : Nat} {xs : List Nat} {l : Int} {g x : Nat} {G X : Option Nat} (w : World) (h : Rd w A n xs) (hc : n ≤ c) (hn0 : 0 < n) (hn : n ≤ 1048576) (hg : Fl .f32 g G) (hx : Fl .f32 x X) :
    Calls Try.prog 63 #[.agg #[.int .i64 l, .float .f32 g], .slice A n c, .float .f32 x] w (RYL (passY G X (clss xs)) ((clss xs).tail ++ [passV G X (clss xs)]) w) := by
  obtain ⟨ad, y, Y, rfl, hy, hfy, hxy, hY⟩ := h.at_ (k := 0) hn0
  have hc0 : w.cell? ad = some (.float .f32 y) := by simpa [Addr.add] using hy
  unfold passY passV
  rw [head_of hY]
  have hcA : ∀ o k, ((w.alloc o).drewN k).cell? ad = some (.float .f32 y) := fun o k => ((below_drewN ((Below.refl _ w).alloc (Nat.le_refl _) o) k).cell (World.block_lt_of_cell? w _ hc0)).trans hc0
  have hcB := fun o => hcA o 0
  simp only [World.drewN_zero] at hcB
  have HV := Lib.hid (fun w1 w2 => hx.fr (hg.fr hfy .mul w1) .add w2)
  clear hy hxy hY
  go_enter Try.func63, Try.ntmps63
  go_wp2_with fail
  obtain ⟨W1, hW1⟩ : ∃ W1, W1 = w.alloc (.cells #[.int .i64 l, .float .f32 g] 28) := ⟨_, rfl⟩
  rw [← hW1]
  have hB1 : Below w.heap.size w W1 := by rw [hW1]; exact (Below.refl _ _).alloc (Nat.le_refl _) _
  have hz1 : W1.heap.size = w.heap.size + 1 := by rw [hW1]; simp
  have hg1 : W1.cell? ⟨w.heap.size, 1, none⟩ = some (.float .f32 g) := by rw [hW1]; simp [go_sem]
  have hy1 : W1.cell? ad = some (.float .f32 y) := by rw [hW1]; exact hcB _
  clear hW1 hcA hcB
  obtain ⟨v, hv⟩ : ∃ v, v = fr .add .f32 x (fr .mul .f32 g y W1) (W1.drewN (fd .mul .f32 g y)) := ⟨_, rfl⟩
  rw [← hv]
  have hV := HV.out W1 (W1.drewN (fd .mul .f32 g y))
  rw [← hv] at hV
  clear hv
  obtain ⟨k0, hk0⟩ : ∃ k0, k0 = fd .mul .f32 g y + fd .add .f32 x (fr .mul .f32 g y W1) := ⟨_, rfl⟩
  rw [← hk0]
  clear hk0
  have CT : ∀ W, W.heap = W1.heap → Calls Try.prog 81 #[.slice (some ad) n c, .float .f32 v] W (RX (xs.tail ++ [v]) W) := fun W e => impl_take _ ((h.below hB1).same e) hc hn0 hn hV.wf
  have HC := Lib.hid h
  clear h HV hc0
  go_region_with (go_at_call 81; (with_reducible refine (CT _ ?_).mono ?_); rfl; rintro e w1 ⟨v1, rfl, ho1, hb1⟩; have hg2 : w1.cell? ⟨w.heap.size, 1, none⟩ = some (.float .f32 g) := (cell_below hb1 (by simp [hz1])).trans hg1)
  all_goals
    have hlow := Lib.hid (ho1.low (B' := w.heap.size) (by simp [hz1]))
    have hbel := Lib.hid (below_next (below_drewN hB1 _) (by simp [hz1]) hb1)
    clear ho1 hb1 hB1 CT
    go_wp2
    go_ret2
    refine ⟨_, _, _, rfl, (by repeat (first | (with_reducible assumption) | exact Fl.of_lit (by decide) (by decide) | apply Fl.fr | apply Fl.cw | apply Fl.cn)), ?_, clss_take1 hV, ?_⟩
    · first | exact hlow.out | exact hlow.out.drewN _
    · first | exact hbel.out | exact below_drewN hbel.out _
/-- Two new lists of samples and a bool. -/
def RSSB (s : List (Option Nat) × List (Option Nat)) (b : Bool) (w : World) (e : Ending) (w' : World) : Prop :=
  ∃ v zs u ys, e = .returned (.tuple #[v, u, .bool b]) ∧ Of w' w.heap.size v zs ∧ clss zs = s.1 ∧ zs.length ≤ 1048576 ∧ Of w' w.heap.size u ys ∧ clss ys = s.2 ∧ ys.length ≤ 1048576 ∧ (v.ownBlock = none ∨ v.ownBlock ≠ u.ownBlock) ∧ Below w.heap.size w w'
def passS (G : Option Nat) (s : List (Option Nat) × List (Option Nat)) (X : Option Nat) : List (Option Nat) × List (Option Nat) := (s.1 ++ [passY G X s.2], s.2.tail ++ [passV G X s.2])
def passT (G : Option Nat) (L l : List (Option Nat)) : List (Option Nat) × List (Option Nat) := l.foldl (passS G) ([], L)
theorem passT_snoc (G : Option Nat) (L l : List (Option Nat)) (X : Option Nat) : passT G L (l ++ [X]) = passS G (passT G L l) X := by simp [passT]
theorem pass_len (G : Option Nat) (l : List (Option Nat)) : ∀ s : List (Option Nat) × List (Option Nat), (l.foldl (passS G) s).1.length = s.1.length + l.length := by
  induction l with
  | nil => intro s; simp
  | cons X l ih => intro s; rw [List.foldl_cons, ih]; simp [passS]; omega
theorem passT_len (G : Option Nat) (L l : List (Option Nat)) : (passT G L l).1.length = l.length := by rw [passT, pass_len]; simp
def lineOk (len : Int) (n m : Nat) : Bool := inC len 1 64 && decide ((n : Int) = len) && few m
def passNC (len : Int) (n m : Nat) (G : Option Nat) (L X : List (Option Nat)) : List (Option Nat) × List (Option Nat) := if lineOk len n m = true then passT G L X else ([], [])
theorem line_ok {len : Int} {n m : Nat} (h : lineOk len n m = true) : inC len 1 64 = true ∧ len = (n : Int) ∧ 0 < n ∧ n ≤ 64 ∧ few m = true := by
  simp only [lineOk, Bool.and_eq_true, decide_eq_true_eq] at h
  obtain ⟨⟨h1, h2⟩, h3⟩ := h
  obtain ⟨h4, h5⟩ := (inC_iff _ _ _).1 h1
  exact ⟨h1, h2.symm, by omega, by omega, h3⟩
theorem line_not {len : Int} {n m : Nat} (h : lineOk len n m = false) : inC len 1 64 = false ∨ (inC len 1 64 = true ∧ ((n : Int) != len) = true) ∨ (inC len 1 64 = true ∧ len = (n : Int) ∧ few m = false) := by
  by_cases h1 : inC len 1 64 = true
  · by_cases h2 : (n : Int) = len
    · refine .inr (.inr ⟨h1, h2.symm, ?_⟩)
      simpa [lineOk, h1, h2] using h
    · exact .inr (.inl ⟨h1, by rw [bne_iff_ne]; exact h2⟩)
  · exact .inl (by simpa using h1)
set_option maxHeartbeats 400000 in
theorem impl_size {n : Int} (w : World) : Calls Try.prog 60 #[.int .i64 n] w fun e w' => e = .returned (.int .i64 n) ∧ w = w' := by
  go_enter Try.func60, Try.ntmps60
  go_wp2
  go_ret
  exact ⟨rfl, rfl⟩
theorem apart_new {v v1 u : Value} {m : Nat} (hd : v.ownBlock = none ∨ v.ownBlock ≠ u.ownBlock) (hat : v1.ownBlock = v.ownBlock ∨ ∃ b, v1.ownBlock = some b ∧ m ≤ b) (hu : ∀ k, u.ownBlock = some k → k < m) : v1.ownBlock = none ∨ v1.ownBlock ≠ u.ownBlock := by
  rcases hat with h | ⟨b, h, hb⟩
  · rw [h]; exact hd
  · refine .inr fun e => ?_
    have := hu b (by rw [← e, h])
    omega
theorem fresh_apart {v u : Value} {m : Nat} (hu : ∀ k, u.ownBlock = some k → m ≤ k) (hv : ∀ k, v.ownBlock = some k → k < m) : v.ownBlock = none ∨ v.ownBlock ≠ u.ownBlock := own_apart hv hu (Nat.le_refl _)
end Go.Proofs.Ytbaokmapgdnhlaa
