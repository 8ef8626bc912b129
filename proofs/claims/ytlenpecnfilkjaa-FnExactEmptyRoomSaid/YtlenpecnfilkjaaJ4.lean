/- Rooms: the law's conversions; the walk of the law on valid rooms. Conditions: none beside the contracts' own. -/
import Derived.Test.YtlenpecnfilkjaaJ3
set_option linter.unusedVariables false
set_option linter.unusedSimpArgs false
namespace Go.Proofs.Ytlenpecnfilkjaa
open Go.RowKit
set_option maxHeartbeats 3200000 in
theorem laws_toRoom {A B : Option Addr} {n m c d x y : Nat} {f0 : Nat → Int} {f1 f2 f3 : Nat → Nat} {f4 : Nat → Bool} {g0 : Nat → Int} {g1 : Nat → Nat} (w : World) (h : RdDelay w A n f0 f1 f2 f3 f4) (hn : n ≤ 1048576) (h' : RdPass w B m g0 g1) (hm : m ≤ 1048576) :
    Calls Try.prog 43 #[.agg #[.slice A n c, .slice B m d, .float .f32 x, .float .f32 y]] w fun e w' => ∃ v u, e = .returned (.agg #[v, u, .float .f32 x, .float .f32 y]) ∧ OwDelay w' w.heap.size v n f0 f1 f2 f3 f4 ∧ OwPass w' w.heap.size u m g0 g1 ∧ (v.ownBlock = none ∨ v.ownBlock ≠ u.ownBlock) ∧ Below w.heap.size w w' := by
  have hK : ToK w (((w.alloc (.cells #[.slice A n c, .slice B m d, .float .f32 x, .float .f32 y] 70)).alloc (.cells #[.slice none 0 0, .slice none 0 0, .float .f32 0, .float .f32 0] 76)).alloc (.cells #[.slice none 0 0, .slice none 0 0, .float .f32 0, .float .f32 0] 76)) [.slice A n c, .slice B m d, .float .f32 x, .float .f32 y] [.slice none 0 0, .slice none 0 0, .float .f32 0, .float .f32 0] [.slice none 0 0, .slice none 0 0, .float .f32 0, .float .f32 0] := ToK.start w _ _ _ _ _
  go_enter Try.func43, Try.ntmps43
  go_wp2_with fail
  generalize (World.alloc (World.alloc (World.alloc w _) _) _) = W0 at *
  go_wp2_with fail
  have hz0 := hK.sz
  refine (laws_toDelayS _ (h.below hK.bel) hn).mono ?_
  rintro e w1 ⟨v, rfl, ho1, hb1⟩
  replace hK := hK.next hb1
  obtain ⟨A', c', rfl⟩ := ho1.shape_n (m := n) rfl
  have ho1' := ho1.low (B' := w.heap.size + 3) hz0
  clear ho1 hb1
  have s0 := hK.cs 0 _ rfl
  have q0 := hK.fs 0
  have p1 := hK.cp 1 _ rfl
  have hoS := Lib.hid (ho1'.put (a := ⟨w.heap.size + 2, 0, none⟩) (by simp) (.slice A' n c'))
  replace hK := Lib.hid (hK.set 0 (.slice A' n c') (by simp))
  have h1 := Lib.hid h'
  clear ho1' h h'
  go_upto_region 3 with fail
  generalize World.setCell w1 _ _ = W1 at *
  clear s0 q0 p1
  have p1 := hK.out.cp 1 _ rfl
  go_wp2_with fail
  have hS0 := Lib.hid hK.out.sz
  refine (laws_toPassS _ (h1.out.below hK.out.bel) hm).mono ?_
  rintro e w2 ⟨u, rfl, ho2, hb2⟩
  replace hK := hK.out.next hb2
  obtain ⟨B', d', rfl⟩ := ho2.shape_n (m := m) rfl
  have hoA := hoS.out.below hb2
  have hap := own_apart (vi := .slice A' n c') (vj := .slice B' m d') hoS.out.lt ho2.base (Nat.le_refl _)
  have HO := Lib.hid (ho2.low (B' := w.heap.size + 3) (by have := hS0.out; assumption))
  clear ho2 hb2 hoS
  have s1 := hK.cs 1 _ rfl
  have q1 := hK.fs 1
  have p2 := hK.cp 2 _ rfl
  have hoS := Lib.hid (hoA.put (a := ⟨w.heap.size + 2, 1, none⟩) (by simp) (.slice B' m d'))
  have huS := Lib.hid (HO.out.put (a := ⟨w.heap.size + 2, 1, none⟩) (by simp) (.slice B' m d'))
  have HP := Lib.hid hap
  replace hK := Lib.hid (hK.set 1 (.slice B' m d') (by simp))
  clear hoA HO hap p1
  go_upto_region 4 with fail
  generalize World.setCell w2 _ _ = W2 at *
  clear s1 q1 p2
  have s2 := hK.out.cs 2 _ rfl
  have q2 := hK.out.fs 2
  have p2 := hK.out.cp 2 _ rfl
  replace hoS := Lib.hid (hoS.out.put (a := ⟨w.heap.size + 2, 2, none⟩) (by simp) (.float .f32 x))
  replace huS := Lib.hid (huS.out.put (a := ⟨w.heap.size + 2, 2, none⟩) (by simp) (.float .f32 x))
  replace hK := Lib.hid (hK.out.set 2 (.float .f32 x) (by simp))
  go_upto_region 5 with fail
  generalize World.setCell W2 _ _ = W3 at *
  clear s2 q2 p2
  have s3 := hK.out.cs 3 _ rfl
  have q3 := hK.out.fs 3
  have p3 := hK.out.cp 3 _ rfl
  replace hoS := Lib.hid (hoS.out.put (a := ⟨w.heap.size + 2, 3, none⟩) (by simp) (.float .f32 y))
  replace huS := Lib.hid (huS.out.put (a := ⟨w.heap.size + 2, 3, none⟩) (by simp) (.float .f32 y))
  replace hK := Lib.hid (hK.out.set 3 (.float .f32 y) (by simp))
  go_upto_region 6 with fail
  generalize World.setCell W3 _ _ = W4 at *
  clear s3 q3 p3
  have s0 := hK.out.cs 0 _ rfl
  have s1 := hK.out.cs 1 _ rfl
  have s2 := hK.out.cs 2 _ rfl
  have s3 := hK.out.cs 3 _ rfl
  have r0 := hK.out.cr 0 _ rfl
  have r1 := hK.out.cr 1 _ rfl
  have r2 := hK.out.cr 2 _ rfl
  have r3 := hK.out.cr 3 _ rfl
  have t0 := hK.out.fr 0
  have t1 := hK.out.fr 1
  have t2 := hK.out.fr 2
  have t3 := hK.out.fr 3
  go_wp2
  refine bodyPost_ret (v := .agg #[.slice A' n c', .slice B' m d', .float .f32 x, .float .f32 y]) ?_ rfl ⟨_, _, rfl, ?_, ?_, HP.out, ?_⟩
  · simp [results, Try.results43, go_sem, r0, r1, r2, r3]
  · exact ((((hoS.out.put (by simp) _).put (by simp) _).put (by simp) _).put (by simp) _).low (by omega)
  · exact ((((huS.out.put (by simp) _).put (by simp) _).put (by simp) _).put (by simp) _).low (by omega)
  · exact (((hK.out.bel.setCell (by simp) _).setCell (by simp) _).setCell (by simp) _).setCell (by simp) _
set_option maxHeartbeats 1600000 in
theorem laws_eqRoom {A B A' B' : Option Addr} {n m c d x y c' d' x' y' : Nat} {X Y : Option Nat} {f0 : Nat → Int} {f1 f2 f3 : Nat → Nat} {f4 : Nat → Bool} {g0 : Nat → Int} {g1 : Nat → Nat} (w : World) (h : RdDelay w A n f0 f1 f2 f3 f4) (hn : n ≤ 1048576) (h' : RdPass w B m g0 g1) (hm : m ≤ 1048576) (k : RdDelay w A' n f0 f1 f2 f3 f4) (k' : RdPass w B' m g0 g1) (hx : Fl .f32 x X) (hy : Fl .f32 y Y) (hx' : Fl .f32 x' X) (hy' : Fl .f32 y' Y) :
    Calls Try.prog 45 #[.agg #[.slice A n c, .slice B m d, .float .f32 x, .float .f32 y], .agg #[.slice A' n c', .slice B' m d', .float .f32 x', .float .f32 y']] w (RV (.bool true) w) := by
  have hK : EqK w ((w.alloc (.cells #[.slice A n c, .slice B m d, .float .f32 x, .float .f32 y] 76)).alloc (.cells #[.slice A' n c', .slice B' m d', .float .f32 x', .float .f32 y'] 76)) [.slice A n c, .slice B m d, .float .f32 x, .float .f32 y] [.slice A' n c', .slice B' m d', .float .f32 x', .float .f32 y'] := EqK.start w _ _ _ _
  go_enter Try.func45, Try.ntmps45
  go_wp2_with fail
  generalize (World.alloc (World.alloc w _) _) = W0 at *
  go_wp2_with fail
  refine (laws_eqDelayS _ (h.below hK.bel) (k.below hK.bel) hn).mono ?_
  rintro e w1 ⟨rfl, hb1⟩
  replace hK := hK.next hb1
  clear hb1
  have p1 := hK.cp 1 _ rfl
  have q1 := hK.cq 1 _ rfl
  go_wp2_with fail
  refine (laws_eqPassS _ (h'.below hK.bel) (k'.below hK.bel) hm).mono ?_
  rintro e w2 ⟨rfl, hb2⟩
  replace hK := hK.next hb2
  clear hb2 p1 q1
  have p2 := hK.cp 2 _ rfl
  have q2 := hK.cq 2 _ rfl
  have p3 := hK.cp 3 _ rfl
  have q3 := hK.cq 3 _ rfl
  have hB := Lib.hid hK.bel
  clear hK
  go_wp2_with fail
  refine (laws_sameFloat (hx.cw _) (hx'.cw _) _).mono ?_; rintro e w' ⟨rfl, m1, rfl⟩
  go_wp2_with fail
  refine (laws_sameFloat (hy.cw _) (hy'.cw _) _).mono ?_; rintro e w' ⟨rfl, m2, rfl⟩
  go_wp2_with fail
  go_ret
  exact ⟨rfl, below_drewN hB.out _⟩
end Go.Proofs.Ytlenpecnfilkjaa
