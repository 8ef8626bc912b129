/- The walk of the law on valid rooms. Conditions: none. -/
import Derived.Test.YtlenpecnfilkjaaJ4
set_option linter.unusedVariables false
set_option linter.unusedSimpArgs false
namespace Go.Proofs.Ytlenpecnfilkjaa
open Go.RowKit
/-- A parameter's block. -/
structure PrK (w W : World) (p : List Value) : Prop where
  cp : ∀ i v, p[i]? = some v → W.cell? ⟨w.heap.size, i, none⟩ = some v
  bel : Below w.heap.size w W
  sz : w.heap.size < W.heap.size
theorem PrK.next {w W W' : World} {p : List Value} (h : PrK w W p) (hb : Below W.heap.size W W') : PrK w W' p := by
  obtain ⟨hc, hf⟩ := bcell hb
  have hz := h.sz
  exact ⟨fun i v e => (hc _ _ hz).trans (h.cp i v e), below_next h.bel (by omega) hb, Nat.lt_of_lt_of_le hz hb.size⟩
theorem PrK.start (w : World) (p : List Value) (e : TypeId) : PrK w (w.alloc (.cells p.toArray e)) p := by
  refine ⟨fun i v h => ?_, (Below.refl _ w).alloc (Nat.le_refl _) _, by simp⟩
  simp [go_sem, h]
/-- A local's block. -/
def BlK (W : World) (b : Nat) (p : List Value) : Prop := b < W.heap.size ∧ ∀ i v, p[i]? = some v → W.cell? ⟨b, i, none⟩ = some v
theorem BlK.next {W W' : World} {b : Nat} {p : List Value} (h : BlK W b p) (hb : Below W.heap.size W W') : BlK W' b p := by
  obtain ⟨hc, hf⟩ := bcell hb
  exact ⟨Nat.lt_of_lt_of_le h.1 hb.size, fun i v e => (hc _ _ h.1).trans (h.2 i v e)⟩
theorem BlK.start (w : World) (p : List Value) (e : TypeId) : BlK (w.alloc (.cells p.toArray e)) w.heap.size p := by
  refine ⟨by simp, fun i v h => ?_⟩
  simp [go_sem, h]
set_option maxHeartbeats 4000000 in
set_option maxRecDepth 100000 in
theorem validRoom_walk (a0 : Option Addr) (n0 c0 : Nat) (l0 : List Value) (a1 : Option Addr) (n1 c1 : Nat) (l1 : List Value) (x y : Nat) (w : World) (wr0 : Row w [.i64, .f32, .f32, .f32, .bool] a0 n0 l0) (wr1 : Row w [.i64, .f32] a1 n1 l1) (wx : x < 2 ^ FloatKind.f32.format.width) (wy : y < 2 ^ FloatKind.f32.format.width) :
    Calls Try.prog 11 #[.agg #[.slice a0 n0 c0, .slice a1 n1 c1, .float .f32 x, .float .f32 y]] w fun e w' => e = .returned (.bool true) ∧ Below w.heap.size w w' := by
  obtain ⟨f0, f1, f2, f3, f4, h⟩ := wr0.rdDelay
  obtain ⟨g0, g1, h'⟩ := wr1.rdPass
  have hx := Fl.self wx
  have hy := Fl.self wy
  have hK : PrK w (w.alloc (.cells #[.slice a0 n0 c0, .slice a1 n1 c1, .float .f32 x, .float .f32 y] 70)) [.slice a0 n0 c0, .slice a1 n1 c1, .float .f32 x, .float .f32 y] := PrK.start _ _ _
  rcases Nat.lt_or_ge 1048576 (n0 + n1) with hn | hn
  · go_enter Try.func11, Try.ntmps11
    go_wp2_with fail
    generalize World.alloc w _ = W0 at *
    have p0 := hK.cp 0 _ rfl
    have p1 := hK.cp 1 _ rfl
    have p2 := hK.cp 2 _ rfl
    have p3 := hK.cp 3 _ rfl
    go_wp2_with fail
    refine (laws_szRoom _ h.most h'.most).mono ?_
    rintro e w1 ⟨rfl, hb1⟩
    have HB := Lib.hid (hK.next hb1).bel
    have e1 : (if (1048576 : Int) < (n0 : Int) then (-1 : Int) else if 1048576 - (n0 : Int) < (n1 : Int) then -1 else 1048576 - (n0 : Int) - n1) = -1 := by
      split
      · rfl
      · rw [if_pos (by omega)]
    rw [e1]
    clear e1 hn
    go_wp2_with fail
    go_ret
    exact ⟨rfl, HB.out⟩
  · go_enter Try.func11, Try.ntmps11
    go_wp2_with fail
    generalize World.alloc w _ = W0 at *
    have p0 := hK.cp 0 _ rfl
    have p1 := hK.cp 1 _ rfl
    have p2 := hK.cp 2 _ rfl
    have p3 := hK.cp 3 _ rfl
    go_wp2_with fail
    refine (laws_szRoom _ h.most h'.most).mono ?_
    rintro e w1 ⟨rfl, hb1⟩
    have hn0 : n0 ≤ 1048576 := by omega
    have hn1 : n1 ≤ 1048576 := by omega
    rw [if_neg (by omega), if_neg (by omega)]
    replace hK := hK.next hb1
    clear hb1 p0 p1 p2 p3
    have p0 := hK.cp 0 _ rfl
    have p1 := hK.cp 1 _ rfl
    have p2 := hK.cp 2 _ rfl
    have p3 := hK.cp 3 _ rfl
    go_wp2_with fail
    refine (laws_toRoom _ (h.below hK.bel) hn0 (h'.below hK.bel) hn1).mono ?_
    rintro e w2 ⟨v1, u1, rfl, ho1, hu1, -, hb2⟩
    obtain ⟨A1, d1, rfl⟩ := ho1.shape_n (m := n0) rfl
    obtain ⟨B1, e1, rfl⟩ := hu1.shape_n (m := n1) rfl
    replace hK := hK.next hb2
    clear hb2 p0 p1 p2 p3
    have p0 := hK.cp 0 _ rfl
    have p1 := hK.cp 1 _ rfl
    have p2 := hK.cp 2 _ rfl
    have p3 := hK.cp 3 _ rfl
    go_wp2_with fail
    refine (spec_ValidRoom _ (ho1.rd rfl) hn0 (hu1.rd rfl) hn1).mono ?_
    rintro e w3 ⟨rfl, hb3⟩
    clear ho1 hu1
    replace hK := hK.next hb3
    clear hb3 p0 p1 p2 p3
    have p0 := hK.cp 0 _ rfl
    have p1 := hK.cp 1 _ rfl
    have p2 := hK.cp 2 _ rfl
    have p3 := hK.cp 3 _ rfl
    go_wp2_with fail
    refine (laws_toRoom _ (h.below hK.bel) hn0 (h'.below hK.bel) hn1).mono ?_
    rintro e w4 ⟨v2, u2, rfl, ho2, hu2, -, hb4⟩
    obtain ⟨A2, d2, rfl⟩ := ho2.shape_n (m := n0) rfl
    obtain ⟨B2, e2, rfl⟩ := hu2.shape_n (m := n1) rfl
    replace hK := hK.next hb4
    clear hb4 p0 p1 p2 p3
    have p0 := hK.cp 0 _ rfl
    have p1 := hK.cp 1 _ rfl
    have p2 := hK.cp 2 _ rfl
    have p3 := hK.cp 3 _ rfl
    obtain ⟨W5, hW5⟩ : ∃ W, W = w4.alloc (.cells #[.slice A2 n0 d2, .slice B2 n1 e2, .float .f32 x, .float .f32 y] 76) := ⟨_, rfl⟩
    have hb5 : Below w4.heap.size w4 W5 := by rw [hW5]; exact (Below.refl _ _).alloc (Nat.le_refl _) _
    have hX : BlK W5 w4.heap.size [.slice A2 n0 d2, .slice B2 n1 e2, .float .f32 x, .float .f32 y] := by rw [hW5]; exact BlK.start _ _ _
    have ho3 := ho2.below hb5
    have hu3 := hu2.below hb5
    clear ho2 hu2
    replace hK := hK.next hb5
    clear hb5
    have HP := Lib.hid (And.intro p0 (And.intro p1 (And.intro p2 p3)))
    clear p0 p1 p2 p3
    have p0 := hK.cp 0 _ rfl
    have p1 := hK.cp 1 _ rfl
    have p2 := hK.cp 2 _ rfl
    have p3 := hK.cp 3 _ rfl
    have y0 := hX.2 0 _ rfl
    have y1 := hX.2 1 _ rfl
    have y2 := hX.2 2 _ rfl
    have y3 := hX.2 3 _ rfl
    have hW5' := Lib.hid hW5
    clear hW5 HP
    go_upto_region 7 with fail
    rw [← hW5'.out]
    clear hW5'
    go_wp2_with fail
    refine (impl_ValidRoom _ (ho3.rd rfl) hn0 (hu3.rd rfl) hn1).mono ?_
    rintro e w6 ⟨rfl, hb6⟩
    replace hK := hK.next hb6
    replace ho3 := ho3.below hb6
    replace hu3 := hu3.below hb6
    replace hX := hX.next hb6
    clear hb6 p0 p1 p2 p3 y0 y1 y2 y3
    have p0 := hK.cp 0 _ rfl
    have p1 := hK.cp 1 _ rfl
    have p2 := hK.cp 2 _ rfl
    have p3 := hK.cp 3 _ rfl
    have y0 := hX.2 0 _ rfl
    have y1 := hX.2 1 _ rfl
    have y2 := hX.2 2 _ rfl
    have y3 := hX.2 3 _ rfl
    go_wp2_with fail
    go_region_with (first
      | (go_at_call 43; refine (laws_toRoom _ (h.below (below_drewN hK.bel _)) hn0 (h'.below (below_drewN hK.bel _)) hn1).mono ?_; rintro e w7 ⟨v4, u4, rfl, ho4, hu4, -, hb7⟩; obtain ⟨A4, d4, rfl⟩ := ho4.shape_n (m := n0) rfl; obtain ⟨B4, e4, rfl⟩ := hu4.shape_n (m := n1) rfl; replace hb7 := below_undrawn hb7; have hX7 := hX.next hb7; have z0 := hX7.2 0 _ rfl; have z1 := hX7.2 1 _ rfl; have z2 := hX7.2 2 _ rfl; have z3 := hX7.2 3 _ rfl)
      | (go_at_call 45; refine (laws_eqRoom _ ((ho3.below hb7).rd rfl) hn0 ((hu3.below hb7).rd rfl) hn1 (ho4.rd rfl) (hu4.rd rfl) hx hy hx hy).mono ?_; rintro e w8 ⟨rfl, hb8⟩))
    all_goals
      have HB := Lib.hid ((hK.next hb7).next hb8).bel
      clear hb7 hb8 hK hX
      go_wp2
      go_ret
      exact ⟨rfl, HB.out⟩
end Go.Proofs.Ytlenpecnfilkjaa
