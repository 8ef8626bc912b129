/- Limiters: the law's conversions. Conditions: none beside the contracts' own. -/
import Derived.Test.YtbaokmapgdnhlaaY1
set_option linter.unusedVariables false
set_option linter.unusedSimpArgs false
namespace Go.Proofs.Ytbaokmapgdnhlaa
open Go.RowKit
theorem ToK.start2 (w : World) (p z s : List Value) (e e' e'' : TypeId) : ToK w (((w.alloc (.cells p.toArray e)).alloc (.cells z.toArray e')).alloc (.cells s.toArray e'')) p z s := by
  refine ⟨fun i v h => ?_, fun i v h => ?_, fun i v h => ?_, fun i => ?_, fun i => ?_, (((Below.refl _ w).alloc (Nat.le_refl _) _).alloc (by simp) _).alloc (by simp <;> omega) _, by simp⟩ <;> simp [go_sem, *]
set_option maxHeartbeats 3200000 in
theorem laws_toLimiter {A : Option Addr} {n c x y z : Nat} {xs : List Nat} (w : World) (h : Rd w A n xs) (hn : n ≤ 1048576) :
    Calls Try.prog 48 #[.agg #[.float .f32 x, .float .f32 y, .float .f32 z, .slice A n c]] w fun e w' => ∃ v, e = .returned (.agg #[.float .f32 x, .float .f32 y, .float .f32 z, v]) ∧ Of w' w.heap.size v xs ∧ Below w.heap.size w w' := by
  have hK : ToK w (((w.alloc (.cells #[.float .f32 x, .float .f32 y, .float .f32 z, .slice A n c] 77)).alloc (.cells #[.float .f32 0, .float .f32 0, .float .f32 0, .slice none 0 0] 79)).alloc (.cells #[.float .f32 x, .float .f32 y, .float .f32 z, .slice none 0 0] 79)) [.float .f32 x, .float .f32 y, .float .f32 z, .slice A n c] [.float .f32 0, .float .f32 0, .float .f32 0, .slice none 0 0] [.float .f32 x, .float .f32 y, .float .f32 z, .slice none 0 0] := ToK.start2 w _ _ _ _ _ _
  have HX := Lib.hid h.len
  go_enter Try.func48, Try.ntmps48
  go_wp2_with fail
  generalize (World.alloc (World.alloc (World.alloc w _) _) _) = W3 at *
  replace hK := Lib.hid hK
  have hz0 := Lib.hid hK.out.sz
  refine (laws_toFloat32S _ (h.below hK.out.bel) hn).mono ?_
  rintro e w4 ⟨v, rfl, ho, hb⟩
  replace hK := hK.out.next hb
  obtain ⟨A', c', rfl⟩ := ho.shape_n HX.out
  have ho4 := ho.low (B' := w.heap.size + 3) (by have := hz0.out; assumption)
  clear ho hb h
  have s3 := hK.cs 3 _ rfl
  have q3 := hK.fs 3
  have hoS := Lib.hid (ho4.put (a := ⟨w.heap.size + 2, 3, none⟩) (by simp) (.slice A' n c'))
  replace hK := Lib.hid (hK.set 3 (.slice A' n c') (by simp))
  clear ho4
  go_upto_region 6 with fail
  generalize World.setCell w4 _ _ = W4 at *
  clear s3 q3
  have s0 := hK.out.cs 0 _ rfl
  have s1 := hK.out.cs 1 _ rfl
  have s2 := hK.out.cs 2 _ rfl
  have s3 := hK.out.cs 3 _ rfl
  have r0 := hK.out.cr 0 _ rfl
  have r1 := hK.out.cr 1 _ rfl
  have r2 := hK.out.cr 2 _ rfl
  have r3 := hK.out.cr 3 _ rfl
  have t0 := hK.out.fr 0
  have t1 := hK.out.fr 1
  have t2 := hK.out.fr 2
  have t3 := hK.out.fr 3
  go_wp2
  refine bodyPost_ret (v := .agg #[.float .f32 x, .float .f32 y, .float .f32 z, .slice A' n c']) ?_ rfl ⟨_, rfl, ?_, ?_⟩
  · simp [results, Try.results48, go_sem, r0, r1, r2, r3]
  · exact ((((hoS.out.put (by simp) _).put (by simp) _).put (by simp) _).put (by simp) _).low (by omega)
  · exact (((hK.out.bel.setCell (by simp) _).setCell (by simp) _).setCell (by simp) _).setCell (by simp) _
set_option maxHeartbeats 400000 in
theorem laws_szLimiter {A : Option Addr} {n c x y z : Nat} (w : World) (hn : n ≤ maxLen) :
    Calls Try.prog 46 #[.agg #[.float .f32 x, .float .f32 y, .float .f32 z, .slice A n c], .int .i64 1048576] w (RV (.int .i64 (if 1048576 < (n : Int) then -1 else 1048576 - (n : Int))) w) := by
  have hal := fun o => (Below.refl _ w).alloc (Nat.le_refl _) o
  have hm : n ≤ 9223372036854775807 := by simp only [maxLen] at hn; omega
  have key : ∀ W, Calls Try.prog 86 #[.slice A n c, .int .i64 1048576] W fun e w' => e = .returned (.int .i64 (if 1048576 < (n : Int) then -1 else 1048576 - (n : Int))) ∧ W = w' := by
    intro W
    by_cases h : (1048576 : Int) < (n : Int)
    all_goals
      go_enter Try.func86, Try.ntmps86
      go_wp2
      go_ret
      exact ⟨by simp [h], rfl⟩
  by_cases h : (1048576 : Int) < (n : Int)
  · rw [if_pos h]
    go_enter Try.func46, Try.ntmps46
    go_wp2_with fail
    refine (key _).mono ?_
    rintro e w' ⟨rfl, rfl⟩
    rw [if_pos (by omega)]
    go_wp2_with fail
    go_ret
    exact ⟨rfl, hal _⟩
  · rw [if_neg h]
    go_enter Try.func46, Try.ntmps46
    go_wp2_with fail
    refine (key _).mono ?_
    rintro e w' ⟨rfl, rfl⟩
    rw [if_neg (by omega)]
    go_wp2_with fail
    go_ret
    exact ⟨rfl, hal _⟩
end Go.Proofs.Ytbaokmapgdnhlaa
