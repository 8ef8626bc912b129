/- Filters at rest: the functions. Conditions: none beside the contracts' own. -/
import Derived.Test.YtlenpecnfilkjaaH3
set_option linter.unusedVariables false
set_option linter.unusedSimpArgs false
namespace Go.Proofs.Ytlenpecnfilkjaa
open Go.RowKit
def zeroC (X : Option Nat) : Bool := ford .f32 X (some 0) == some .eq
def Mem : Type := Option Nat × Option Nat × Option Nat × Option Nat
def stillC (M : Mem) : Bool := zeroC M.1 && zeroC M.2.1 && zeroC M.2.2.1 && zeroC M.2.2.2
def rsS (B0 B1 B2 A1 A2 : Option Nat) (form : Int) (M : Mem) : Mem :=
  (stA B0 B1 A1 A2 form true M.1 M.2.1 (some 0), stB B0 B2 A2 form true M.1 (some 0), stC form true (stY B0 B1 B2 A1 A2 form true M.1 M.2.1 M.2.2.1 M.2.2.2 (some 0)), stD form true M.2.2.1)
def rsT (B0 B1 B2 A1 A2 : Option Nat) (form : Int) : Nat → Int → Mem → Int × Bool
  | 0, _, _ => (0, false)
  | m + 1, n, M => if stillC M = true then (n, true) else rsT B0 B1 B2 A1 A2 form m (n + 1) (rsS B0 B1 B2 A1 A2 form M)
theorem rsT_hit {B0 B1 B2 A1 A2 : Option Nat} {form : Int} {m : Nat} {n : Int} {M : Mem} (h : stillC M = true) : rsT B0 B1 B2 A1 A2 form (m + 1) n M = (n, true) := by rw [rsT, if_pos h]
theorem rsT_go {B0 B1 B2 A1 A2 : Option Nat} {form : Int} {m : Nat} {n : Int} {M : Mem} (h : stillC M = false) : rsT B0 B1 B2 A1 A2 form (m + 1) n M = rsT B0 B1 B2 A1 A2 form m (n + 1) (rsS B0 B1 B2 A1 A2 form M) := by rw [rsT, if_neg (by rw [h]; decide)]
def rsOk (form most : Int) : Bool := inC form 0 2 && inC most 0 10000
def rsNC (B0 B1 B2 A1 A2 : Option Nat) (form most : Int) (M : Mem) : Int × Bool := if rsOk form most = true then rsT B0 B1 B2 A1 A2 form (most.toNat + 1) 0 M else (0, false)
/-- A whole number and a bool. -/
def RIB (p : Int × Bool) (w : World) (e : Ending) (w' : World) : Prop := e = .returned (.tuple #[.int .i64 p.1, .bool p.2]) ∧ Below w.heap.size w w'
set_option maxHeartbeats 3200000 in
theorem spec_l02Still {a b c d : Nat} {A B C D : Option Nat} (w : World) (ha : Fl .f32 a A) (hb : Fl .f32 b B) (hc : Fl .f32 c C) (hd : Fl .f32 d D) : Calls Try.prog 59 #[.agg #[.float .f32 a, .float .f32 b, .float .f32 c, .float .f32 d]] w (RV (.bool (stillC (A, B, C, D))) w) := by
  have hal := fun o => (Below.refl _ w).alloc (Nat.le_refl _) o
  have o1 := Fl.ord ha zero32
  have o2 := Fl.ord hb zero32
  have o3 := Fl.ord hc zero32
  have o4 := Fl.ord hd zero32
  unfold stillC zeroC
  dsimp only
  cases q1 : (ford .f32 A (some 0) == some .eq) <;> cases q2 : (ford .f32 B (some 0) == some .eq) <;> cases q3 : (ford .f32 C (some 0) == some .eq) <;> cases q4 : (ford .f32 D (some 0) == some .eq)
  all_goals
    go_enter Try.func59, Try.ntmps59
    go_wp2
    go_ret
    exact ⟨rfl, by first | exact hal _ | exact below_drewN (hal _) _⟩
set_option maxHeartbeats 3200000 in
theorem impl_isZero {a b c d : Nat} {A B C D : Option Nat} (w : World) (ha : Fl .f32 a A) (hb : Fl .f32 b B) (hc : Fl .f32 c C) (hd : Fl .f32 d D) : Calls Try.prog 61 #[.agg #[.float .f32 a, .float .f32 b, .float .f32 c, .float .f32 d]] w (RV (.bool (stillC (A, B, C, D))) w) := by
  have hal := fun o => (Below.refl _ w).alloc (Nat.le_refl _) o
  have o1 := Fl.ord ha zero32
  have o2 := Fl.ord hb zero32
  have o3 := Fl.ord hc zero32
  have o4 := Fl.ord hd zero32
  unfold stillC zeroC
  dsimp only
  cases q1 : (ford .f32 A (some 0) == some .eq) <;> cases q2 : (ford .f32 B (some 0) == some .eq) <;> cases q3 : (ford .f32 C (some 0) == some .eq) <;> cases q4 : (ford .f32 D (some 0) == some .eq)
  all_goals
    go_enter Try.func61, Try.ntmps61
    go_wp2
    go_ret
    exact ⟨rfl, by first | exact hal _ | exact below_drewN (hal _) _⟩
/-- The cells of the filter and of the memory. -/
structure RsK (w W : World) (b0 b1 b2 a1 a2 n0 n1 n2 n3 : Nat) : Prop where
  p0 : W.cell? ⟨w.heap.size, 0, none⟩ = some (.float .f32 b0)
  p1 : W.cell? ⟨w.heap.size, 1, none⟩ = some (.float .f32 b1)
  p2 : W.cell? ⟨w.heap.size, 2, none⟩ = some (.float .f32 b2)
  p3 : W.cell? ⟨w.heap.size, 3, none⟩ = some (.float .f32 a1)
  p4 : W.cell? ⟨w.heap.size, 4, none⟩ = some (.float .f32 a2)
  m0 : W.cell? ⟨w.heap.size + 1, 0, none⟩ = some (.float .f32 n0)
  m1 : W.cell? ⟨w.heap.size + 1, 1, none⟩ = some (.float .f32 n1)
  m2 : W.cell? ⟨w.heap.size + 1, 2, none⟩ = some (.float .f32 n2)
  m3 : W.cell? ⟨w.heap.size + 1, 3, none⟩ = some (.float .f32 n3)
  t0 : W.frozen? ⟨w.heap.size + 1, 0, none⟩ = false
  t1 : W.frozen? ⟨w.heap.size + 1, 1, none⟩ = false
  t2 : W.frozen? ⟨w.heap.size + 1, 2, none⟩ = false
  t3 : W.frozen? ⟨w.heap.size + 1, 3, none⟩ = false
  bel : Below w.heap.size w W
  sz : w.heap.size + 2 ≤ W.heap.size
theorem RsK.next {w W W' : World} {b0 b1 b2 a1 a2 n0 n1 n2 n3 : Nat} (h : RsK w W b0 b1 b2 a1 a2 n0 n1 n2 n3) (k : Below W.heap.size W W') : RsK w W' b0 b1 b2 a1 a2 n0 n1 n2 n3 := by
  obtain ⟨hc, hf⟩ := bcell k
  have hz := h.sz
  exact ⟨(hc _ _ (by omega)).trans h.p0, (hc _ _ (by omega)).trans h.p1, (hc _ _ (by omega)).trans h.p2, (hc _ _ (by omega)).trans h.p3, (hc _ _ (by omega)).trans h.p4, (hc _ _ (by omega)).trans h.m0, (hc _ _ (by omega)).trans h.m1, (hc _ _ (by omega)).trans h.m2, (hc _ _ (by omega)).trans h.m3, (hf _ _ (by omega)).trans h.t0, (hf _ _ (by omega)).trans h.t1, (hf _ _ (by omega)).trans h.t2, (hf _ _ (by omega)).trans h.t3, below_next h.bel (by omega) k, Nat.le_trans hz k.size⟩
theorem RsK.set {w W : World} {b0 b1 b2 a1 a2 n0 n1 n2 n3 : Nat} (h : RsK w W b0 b1 b2 a1 a2 n0 n1 n2 n3) (x0 x1 x2 x3 : Nat) : RsK w ((((W.setCell ⟨w.heap.size + 1, 0, none⟩ (.float .f32 x0)).setCell ⟨w.heap.size + 1, 1, none⟩ (.float .f32 x1)).setCell ⟨w.heap.size + 1, 2, none⟩ (.float .f32 x2)).setCell ⟨w.heap.size + 1, 3, none⟩ (.float .f32 x3)) b0 b1 b2 a1 a2 x0 x1 x2 x3 := by
  have hz := h.sz
  exact ⟨cell_set4 (cell_set4 (cell_set4 (cell_set4 h.p0 (by simp)) (by simp)) (by simp)) (by simp),
    cell_set4 (cell_set4 (cell_set4 (cell_set4 h.p1 (by simp)) (by simp)) (by simp)) (by simp),
    cell_set4 (cell_set4 (cell_set4 (cell_set4 h.p2 (by simp)) (by simp)) (by simp)) (by simp),
    cell_set4 (cell_set4 (cell_set4 (cell_set4 h.p3 (by simp)) (by simp)) (by simp)) (by simp),
    cell_set4 (cell_set4 (cell_set4 (cell_set4 h.p4 (by simp)) (by simp)) (by simp)) (by simp),
    cell_set4 (cell_set4 (cell_set4 (cell_same (h.m0)) (by simp)) (by simp)) (by simp),
    cell_set4 (cell_set4 (cell_same (cell_set4 (h.m1) (by simp))) (by simp)) (by simp),
    cell_set4 (cell_same (cell_set4 (cell_set4 (h.m2) (by simp)) (by simp))) (by simp),
    cell_same (cell_set4 (cell_set4 (cell_set4 (h.m3) (by simp)) (by simp)) (by simp)),
    by simpa using h.t0,
    by simpa using h.t1,
    by simpa using h.t2,
    by simpa using h.t3, (((h.bel.setCell (by simp) _).setCell (by simp) _).setCell (by simp) _).setCell (by simp) _, by simpa using hz⟩
theorem RsK.start (w : World) (b0 b1 b2 a1 a2 n0 n1 n2 n3 : Nat) (e e' : TypeId) : RsK w ((w.alloc (.cells #[.float .f32 b0, .float .f32 b1, .float .f32 b2, .float .f32 a1, .float .f32 a2] e)).alloc (.cells #[.float .f32 n0, .float .f32 n1, .float .f32 n2, .float .f32 n3] e')) b0 b1 b2 a1 a2 n0 n1 n2 n3 := by
  refine ⟨?_, ?_, ?_, ?_, ?_, ?_, ?_, ?_, ?_, ?_, ?_, ?_, ?_, ((Below.refl _ w).alloc (Nat.le_refl _) _).alloc (by simp) _, by simp⟩ <;> simp [go_sem]
set_option maxHeartbeats 3200000 in
set_option maxRecDepth 100000 in
theorem spec_RestAfter {b0 b1 b2 a1 a2 a b c d : Nat} {form most : Int} {B0 B1 B2 A1 A2 A B C D : Option Nat} (w : World) (h0 : Fl .f32 b0 B0) (h1 : Fl .f32 b1 B1) (h2 : Fl .f32 b2 B2) (h3 : Fl .f32 a1 A1) (h4 : Fl .f32 a2 A2)
    (ha : Fl .f32 a A) (hb : Fl .f32 b B) (hc : Fl .f32 c C) (hd : Fl .f32 d D) :
    Calls Try.prog 26 #[.agg #[.float .f32 b0, .float .f32 b1, .float .f32 b2, .float .f32 a1, .float .f32 a2], .int .i64 form, .agg #[.float .f32 a, .float .f32 b, .float .f32 c, .float .f32 d], .int .i64 most] w
      (RIB (rsNC B0 B1 B2 A1 A2 form most (A, B, C, D)) w) := by
  have hal := fun o o' => ((Below.refl _ w).alloc (Nat.le_refl _) o).alloc (by simp) o'
  have hK0 := RsK.start w b0 b1 b2 a1 a2 a b c d 30 26
  unfold rsNC rsOk
  cases c1 : inC form 0 2 <;> cases c2 : inC most 0 10000 <;> simp only [Bool.false_eq_true, if_true, if_false, Bool.and_true, Bool.and_false, Bool.true_and, Bool.false_and]
  case true.true =>
    obtain ⟨hm0, hm1⟩ := (inC_iff _ _ _).1 c2
    obtain ⟨M, hM⟩ : ∃ M : Nat, most = (M : Int) := ⟨most.toNat, by omega⟩
    subst hM
    rw [Int.toNat_natCast]
    have HK := Lib.hid hK0
    clear hK0 hal
    go_enter Try.func26, Try.ntmps26
    go_wp2_with fail
    have hK1 := HK.out
    clear HK
    generalize (w.alloc _).alloc _ = W0 at *
    go_wp2_with (first | (go_at_call 54; refine (spec_l02Form _).mono ?_; rintro e w' ⟨rfl, rfl⟩) | (go_at_call 58; refine (spec_l00In _).mono ?_; rintro e w' ⟨rfl, rfl⟩))
    clear c1 c2
    go_loopw [10] (fun i w' => ∃ k x0 x1 x2 x3 X0 X1 X2 X3, k ≤ M + 1 ∧ i = .int .i64 (k : Nat) ∧ RsK w w' b0 b1 b2 a1 a2 x0 x1 x2 x3 ∧ Fl .f32 x0 X0 ∧ Fl .f32 x1 X1 ∧ Fl .f32 x2 X2 ∧ Fl .f32 x3 X3 ∧ Hid (rsT B0 B1 B2 A1 A2 form (M + 1 - k) (k : Int) (X0, X1, X2, X3) = rsT B0 B1 B2 A1 A2 form (M + 1) 0 (A, B, C, D))) (fun i _ => M + 1 - (intOf i).toNat)
    case atStart => exact ⟨0, a, b, c, d, A, B, C, D, Nat.zero_le _, rfl, hK1, ha, hb, hc, hd, Lib.hid rfl⟩
    case round =>
      obtain ⟨k, x0, x1, x2, x3, X0, X1, X2, X3, hk, rfl, hK, f0, f1, f2, f3, hz⟩ := hrel
      clear hK1
      by_cases hlt : k < M + 1
      · have hkI : (k : Int) ≤ (M : Int) := by omega
        have HK := Lib.hid hK
        obtain ⟨p0, p1, p2, p3, p4, m0, m1, m2, m3, t0, t1, t2, t3, -, -⟩ := hK
        go_wp2_with fail
        refine (spec_l02Still _ f0 f1 f2 f3).mono ?_
        rintro e w1 ⟨rfl, hb1⟩
        have hK2 := HK.out.next hb1
        clear HK p0 p1 p2 p3 p4 m0 m1 m2 m3 t0 t1 t2 t3 hb1
        cases hq : stillC (X0, X1, X2, X3)
        · have HK := Lib.hid hK2
          obtain ⟨p0, p1, p2, p3, p4, m0, m1, m2, m3, t0, t1, t2, t3, -, -⟩ := hK2
          go_wp2_with fail
          refine (spec_l02Step _ h0 h1 h2 h3 h4 f0 f1 f2 f3 zero32 p0 p1 p2 p3 p4).mono ?_
          rintro e w2 ⟨y, y0, y1, y2, y3, rfl, hy, g0, g1, g2, g3, hb2⟩
          have hK3 := HK.out.next hb2
          clear HK p0 p1 p2 p3 p4 m0 m1 m2 m3 t0 t1 t2 t3 hb2
          have HK := Lib.hid hK3
          obtain ⟨p0, p1, p2, p3, p4, m0, m1, m2, m3, t0, t1, t2, t3, -, -⟩ := hK3
          go_wp2_with fail
          refine ⟨⟨k + 1, _, _, _, _, _, _, _, _, by omega, by go_num, HK.out.set _ _ _ _, g0, g1, g2, g3, Lib.hid ?_⟩, by simp [intOf]; omega⟩
          rw [← hz.out, show M + 1 - k = (M + 1 - (k + 1)) + 1 by omega, rsT_go hq]
          rfl
        · go_wp2_with fail
          go_ret2
          rw [← hz.out, show M + 1 - k = (M + 1 - (k + 1)) + 1 by omega, rsT_hit hq]
          exact ⟨rfl, hK2.bel⟩
      · obtain rfl : k = M + 1 := by omega
        have hkI : ¬ (((M + 1 : Nat) : Int) ≤ (M : Int)) := by omega
        go_wp2_with fail
        go_ret2
        rw [← hz.out, Nat.sub_self]
        exact ⟨rfl, hK.bel⟩
  all_goals
    go_enter Try.func26, Try.ntmps26
    go_wp2_with (first | (go_at_call 54; refine (spec_l02Form _).mono ?_; rintro e w' ⟨rfl, rfl⟩) | (go_at_call 58; refine (spec_l00In _).mono ?_; rintro e w' ⟨rfl, rfl⟩))
    go_ret2
    exact ⟨rfl, hal _ _⟩
set_option maxHeartbeats 3200000 in
set_option maxRecDepth 100000 in
theorem impl_RestAfter {b0 b1 b2 a1 a2 a b c d : Nat} {form most : Int} {B0 B1 B2 A1 A2 A B C D : Option Nat} (w : World) (h0 : Fl .f32 b0 B0) (h1 : Fl .f32 b1 B1) (h2 : Fl .f32 b2 B2) (h3 : Fl .f32 a1 A1) (h4 : Fl .f32 a2 A2)
    (ha : Fl .f32 a A) (hb : Fl .f32 b B) (hc : Fl .f32 c C) (hd : Fl .f32 d D) :
    Calls Try.prog 27 #[.agg #[.float .f32 b0, .float .f32 b1, .float .f32 b2, .float .f32 a1, .float .f32 a2], .int .i64 form, .agg #[.float .f32 a, .float .f32 b, .float .f32 c, .float .f32 d], .int .i64 most] w
      (RIB (rsNC B0 B1 B2 A1 A2 form most (A, B, C, D)) w) := by
  have hal := fun o o' => ((Below.refl _ w).alloc (Nat.le_refl _) o).alloc (by simp) o'
  have hK0 := RsK.start w b0 b1 b2 a1 a2 a b c d 30 26
  unfold rsNC rsOk
  cases c1 : inC form 0 2 <;> cases c2 : inC most 0 10000 <;> simp only [Bool.false_eq_true, if_true, if_false, Bool.and_true, Bool.and_false, Bool.true_and, Bool.false_and]
  case true.true =>
    obtain ⟨hm0, hm1⟩ := (inC_iff _ _ _).1 c2
    obtain ⟨M, hM⟩ : ∃ M : Nat, most = (M : Int) := ⟨most.toNat, by omega⟩
    subst hM
    rw [Int.toNat_natCast]
    have HK := Lib.hid hK0
    clear hK0 hal
    go_enter Try.func27, Try.ntmps27
    go_wp2_with fail
    have hK1 := HK.out
    clear HK
    generalize (w.alloc _).alloc _ = W0 at *
    go_wp2_with (first | (go_at_call 56; refine (impl_isForm _).mono ?_; rintro e w' ⟨rfl, rfl⟩) | (go_at_call 60; refine (impl_within _).mono ?_; rintro e w' ⟨rfl, rfl⟩))
    clear c1 c2
    go_loopw [10] (fun i w' => ∃ k x0 x1 x2 x3 X0 X1 X2 X3, k ≤ M + 1 ∧ i = .int .i64 (k : Nat) ∧ RsK w w' b0 b1 b2 a1 a2 x0 x1 x2 x3 ∧ Fl .f32 x0 X0 ∧ Fl .f32 x1 X1 ∧ Fl .f32 x2 X2 ∧ Fl .f32 x3 X3 ∧ Hid (rsT B0 B1 B2 A1 A2 form (M + 1 - k) (k : Int) (X0, X1, X2, X3) = rsT B0 B1 B2 A1 A2 form (M + 1) 0 (A, B, C, D))) (fun i _ => M + 1 - (intOf i).toNat)
    case atStart => exact ⟨0, a, b, c, d, A, B, C, D, Nat.zero_le _, rfl, hK1, ha, hb, hc, hd, Lib.hid rfl⟩
    case round =>
      obtain ⟨k, x0, x1, x2, x3, X0, X1, X2, X3, hk, rfl, hK, f0, f1, f2, f3, hz⟩ := hrel
      clear hK1
      by_cases hlt : k < M + 1
      · have hkI : (k : Int) ≤ (M : Int) := by omega
        have HK := Lib.hid hK
        obtain ⟨p0, p1, p2, p3, p4, m0, m1, m2, m3, t0, t1, t2, t3, -, -⟩ := hK
        go_wp2_with fail
        refine (impl_isZero _ f0 f1 f2 f3).mono ?_
        rintro e w1 ⟨rfl, hb1⟩
        have hK2 := HK.out.next hb1
        clear HK p0 p1 p2 p3 p4 m0 m1 m2 m3 t0 t1 t2 t3 hb1
        cases hq : stillC (X0, X1, X2, X3)
        · have HK := Lib.hid hK2
          obtain ⟨p0, p1, p2, p3, p4, m0, m1, m2, m3, t0, t1, t2, t3, -, -⟩ := hK2
          go_wp2_with fail
          refine (impl_Filter_step _ h0 h1 h2 h3 h4 f0 f1 f2 f3 zero32).mono ?_
          rintro e w2 ⟨y, y0, y1, y2, y3, rfl, hy, g0, g1, g2, g3, hb2⟩
          have hK3 := HK.out.next hb2
          clear HK p0 p1 p2 p3 p4 m0 m1 m2 m3 t0 t1 t2 t3 hb2
          have HK := Lib.hid hK3
          obtain ⟨p0, p1, p2, p3, p4, m0, m1, m2, m3, t0, t1, t2, t3, -, -⟩ := hK3
          go_wp2_with fail
          refine ⟨⟨k + 1, _, _, _, _, _, _, _, _, by omega, by go_num, HK.out.set _ _ _ _, g0, g1, g2, g3, Lib.hid ?_⟩, by simp [intOf]; omega⟩
          rw [← hz.out, show M + 1 - k = (M + 1 - (k + 1)) + 1 by omega, rsT_go hq]
          rfl
        · go_wp2_with fail
          go_ret2
          rw [← hz.out, show M + 1 - k = (M + 1 - (k + 1)) + 1 by omega, rsT_hit hq]
          exact ⟨rfl, hK2.bel⟩
      · obtain rfl : k = M + 1 := by omega
        have hkI : ¬ (((M + 1 : Nat) : Int) ≤ (M : Int)) := by omega
        go_wp2_with fail
        go_ret2
        rw [← hz.out, Nat.sub_self]
        exact ⟨rfl, hK.bel⟩
  all_goals
    go_enter Try.func27, Try.ntmps27
    go_wp2_with (first | (go_at_call 56; refine (impl_isForm _).mono ?_; rintro e w' ⟨rfl, rfl⟩) | (go_at_call 60; refine (impl_within _).mono ?_; rintro e w' ⟨rfl, rfl⟩))
    go_ret2
    exact ⟨rfl, hal _ _⟩
end Go.Proofs.Ytlenpecnfilkjaa
