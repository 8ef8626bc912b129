/- The walks of squeezes: the loops. Conditions: none beside the contracts' own. -/
import Derived.Test.YtbaokmapgdnhlaaE1
import Derived.Test.YtbaokmapgdnhlaaB2
import Derived.Handy
import Derived.Deep.AppendLies
import Derived.Test.YtbaokmapgdnhlaaZ5
set_option linter.unusedVariables false
set_option linter.unusedSimpArgs false
namespace Go.Proofs.Ytbaokmapgdnhlaa
open Go.RowKit
/-- A new list of samples and five samples. -/
def RS5 (Z : List (Option Nat)) (A R L T U : Option Nat) (w : World) (e : Ending) (w' : World) : Prop :=
  ∃ v zs a r l t u, e = .returned (.tuple #[v, .agg #[.float .f32 a, .float .f32 r, .float .f32 l, .float .f32 t, .float .f32 u]]) ∧ Of w' w.heap.size v zs ∧ clss zs = Z ∧ zs.length ≤ 1048576 ∧ Fl .f32 a A ∧ Fl .f32 r R ∧ Fl .f32 l L ∧ Fl .f32 t T ∧ Fl .f32 u U ∧ Below w.heap.size w w'
/-- A new list of samples, five samples and a bool. -/
def RS5B (Z : List (Option Nat)) (A R L T U : Option Nat) (b : Bool) (w : World) (e : Ending) (w' : World) : Prop :=
  ∃ v zs a r l t u, e = .returned (.tuple #[v, .agg #[.float .f32 a, .float .f32 r, .float .f32 l, .float .f32 t, .float .f32 u], .bool b]) ∧ Of w' w.heap.size v zs ∧ clss zs = Z ∧ zs.length ≤ 1048576 ∧ Fl .f32 a A ∧ Fl .f32 r R ∧ Fl .f32 l L ∧ Fl .f32 t T ∧ Fl .f32 u U ∧ Below w.heap.size w w'
def sqzS (A R T U : Option Nat) (s : Option Nat × List (Option Nat)) (p : Option Nat × Option Nat) : Option Nat × List (Option Nat) := (folC A R s.1 p.2, s.2 ++ [fmul p.1 (gainC (folC A R s.1 p.2) T U)])
def sqzT (A R L T U : Option Nat) (l : List (Option Nat × Option Nat)) : Option Nat × List (Option Nat) := l.foldl (sqzS A R T U) (L, [])
theorem sqzT_snoc (A R L T U : Option Nat) (l : List (Option Nat × Option Nat)) (X Y : Option Nat) : sqzT A R L T U (l ++ [(X, Y)]) = sqzS A R T U (sqzT A R L T U l) (X, Y) := by simp [sqzT]
theorem sqz_len (A R T U : Option Nat) (l : List (Option Nat × Option Nat)) : ∀ s : Option Nat × List (Option Nat), (l.foldl (sqzS A R T U) s).2.length = s.2.length + l.length := by
  induction l with
  | nil => intro s; simp
  | cons X l ih => intro s; rw [List.foldl_cons, ih]; simp [sqzS]; omega
theorem sqzT_len (A R L T U : Option Nat) (l : List (Option Nat × Option Nat)) : (sqzT A R L T U l).2.length = l.length := by rw [sqzT, sqz_len]; simp
/-- The cells of a squeeze and of the result. -/
structure SqI (w W : World) (a r l t u : Nat) : Prop where
  c0 : W.cell? ⟨w.heap.size, 0, none⟩ = some (.float .f32 a)
  c1 : W.cell? ⟨w.heap.size, 1, none⟩ = some (.float .f32 r)
  c2 : W.cell? ⟨w.heap.size, 2, none⟩ = some (.float .f32 l)
  c3 : W.cell? ⟨w.heap.size, 3, none⟩ = some (.float .f32 t)
  c4 : W.cell? ⟨w.heap.size, 4, none⟩ = some (.float .f32 u)
  f2 : W.frozen? ⟨w.heap.size, 2, none⟩ = false
  r0 : W.cell? ⟨w.heap.size + 1, 0, none⟩ = some (.float .f32 0)
  r1 : W.cell? ⟨w.heap.size + 1, 1, none⟩ = some (.float .f32 0)
  r2 : W.cell? ⟨w.heap.size + 1, 2, none⟩ = some (.float .f32 0)
  r3 : W.cell? ⟨w.heap.size + 1, 3, none⟩ = some (.float .f32 0)
  r4 : W.cell? ⟨w.heap.size + 1, 4, none⟩ = some (.float .f32 0)
  g0 : W.frozen? ⟨w.heap.size + 1, 0, none⟩ = false
  g1 : W.frozen? ⟨w.heap.size + 1, 1, none⟩ = false
  g2 : W.frozen? ⟨w.heap.size + 1, 2, none⟩ = false
  g3 : W.frozen? ⟨w.heap.size + 1, 3, none⟩ = false
  g4 : W.frozen? ⟨w.heap.size + 1, 4, none⟩ = false
theorem SqI.of {w W W' : World} {a r l t u : Nat} (h : SqI w W a r l t u) (hc : ∀ b o, b < w.heap.size + 2 → W'.cell? ⟨b, o, none⟩ = W.cell? ⟨b, o, none⟩) (hf : ∀ b o, b < w.heap.size + 2 → W'.frozen? ⟨b, o, none⟩ = W.frozen? ⟨b, o, none⟩) : SqI w W' a r l t u :=
  ⟨(hc _ _ (by omega)).trans h.c0, (hc _ _ (by omega)).trans h.c1, (hc _ _ (by omega)).trans h.c2, (hc _ _ (by omega)).trans h.c3, (hc _ _ (by omega)).trans h.c4, (hf _ _ (by omega)).trans h.f2, (hc _ _ (by omega)).trans h.r0, (hc _ _ (by omega)).trans h.r1, (hc _ _ (by omega)).trans h.r2, (hc _ _ (by omega)).trans h.r3, (hc _ _ (by omega)).trans h.r4, (hf _ _ (by omega)).trans h.g0, (hf _ _ (by omega)).trans h.g1, (hf _ _ (by omega)).trans h.g2, (hf _ _ (by omega)).trans h.g3, (hf _ _ (by omega)).trans h.g4⟩
theorem SqI.below {w W W' : World} {a r l t u : Nat} (h : SqI w W a r l t u) (hb : Below W.heap.size W W') (hz : w.heap.size + 2 ≤ W.heap.size) : SqI w W' a r l t u := by
  obtain ⟨hc, hf⟩ := bcell hb
  exact h.of (fun b o hb => hc b o (by omega)) (fun b o hb => hf b o (by omega))
theorem SqI.grown {w W W' : World} {row : Option Nat} {a r l t u : Nat} (h : SqI w W a r l t u) (hg : W.grownBy W' row) (hz : w.heap.size + 2 ≤ W.heap.size) (hr : ∀ k, row = some k → w.heap.size + 2 ≤ k) : SqI w W' a r l t u :=
  h.of (fun b o hb => cell_grown hg (by omega) (fun e => by have := hr _ e; omega)) (fun b o hb => frozen_grown hg (by omega) (fun e => by have := hr _ e; omega))
theorem SqI.drewN {w W : World} {a r l t u : Nat} (h : SqI w W a r l t u) (k : Nat) : SqI w (W.drewN k) a r l t u := h.of (fun _ _ _ => rfl) (fun _ _ _ => rfl)
theorem SqI.set {w W : World} {a r l t u y : Nat} (h : SqI w W a r l t u) : SqI w (W.setCell ⟨w.heap.size, 2, none⟩ (.float .f32 y)) a r y t u := by
  have key : ∀ o, o ≠ 2 → (W.setCell ⟨w.heap.size, 2, none⟩ (.float .f32 y)).cell? ⟨w.heap.size, o, none⟩ = W.cell? ⟨w.heap.size, o, none⟩ := fun o ho => World.cell?_setCell_other _ _ _ _ (by simp <;> exact fun h => ho h.symm)
  have key2 : ∀ o, (W.setCell ⟨w.heap.size, 2, none⟩ (.float .f32 y)).cell? ⟨w.heap.size + 1, o, none⟩ = W.cell? ⟨w.heap.size + 1, o, none⟩ := fun o => World.cell?_setCell_other _ _ _ _ (by simp)
  exact ⟨(key _ (by decide)).trans h.c0, (key _ (by decide)).trans h.c1, World.cell?_setCell_same _ _ _ h.c2, (key _ (by decide)).trans h.c3, (key _ (by decide)).trans h.c4, by simpa using h.f2, (key2 _).trans h.r0, (key2 _).trans h.r1, (key2 _).trans h.r2, (key2 _).trans h.r3, (key2 _).trans h.r4, by simpa using h.g0, by simpa using h.g1, by simpa using h.g2, by simpa using h.g3, by simpa using h.g4⟩
set_option maxHeartbeats 12800000 in
set_option maxRecDepth 100000 in
theorem spec_l04Squeeze {a r l t u : Nat} {Ac R L T U : Option Nat} {A B : Option Addr} {n c d : Nat} {xs ys : List Nat} (w : World) (ha : Fl .f32 a Ac) (hr : Fl .f32 r R) (hl : Fl .f32 l L) (ht : Fl .f32 t T) (hu : Fl .f32 u U) (h : Rd w A n xs) (hn : n ≤ 1048576) (h' : Rd w B n ys) :
    Calls Try.prog 84 #[.agg #[.float .f32 a, .float .f32 r, .float .f32 l, .float .f32 t, .float .f32 u], .slice A n c, .slice B n d] w (RS5 (sqzT Ac R L T U ((clss xs).zip (clss ys))).2 Ac R (sqzT Ac R L T U ((clss xs).zip (clss ys))).1 T U w) := by
  have hal := fun o => (Below.refl _ w).alloc (Nat.le_refl _) o
  go_enter Try.func84, Try.ntmps84
  go_wp2_with fail
  obtain ⟨Wb, hWb⟩ : ∃ W, W = (w.alloc (.cells #[.float .f32 a, .float .f32 r, .float .f32 l, .float .f32 t, .float .f32 u] 68)).alloc (.cells #[.float .f32 0, .float .f32 0, .float .f32 0, .float .f32 0, .float .f32 0] 68) := ⟨_, rfl⟩
  rw [← hWb]
  have hB0 : Below w.heap.size w Wb := by rw [hWb]; exact (hal _).alloc (by simp) _
  have hzb : Wb.heap.size = w.heap.size + 2 := by rw [hWb]; simp
  have hF0 : SqI w Wb a r l t u := by
    rw [hWb]
    refine ⟨?_, ?_, ?_, ?_, ?_, ?_, ?_, ?_, ?_, ?_, ?_, ?_, ?_, ?_, ?_, ?_⟩ <;> simp [go_sem]
  have HX := Lib.hid h.len
  have HY := Lib.hid h'.len
  clear hWb hal
  go_loopw [8, 9] (fun v i w' => ∃ k zs lv, k ≤ n ∧ i = .int .i64 (k : Nat) ∧ Of w' Wb.heap.size v zs ∧ SqI w w' a r lv t u ∧ Fl .f32 lv (sqzT Ac R L T U (((clss xs).zip (clss ys)).take k)).1 ∧ Hid (clss zs = (sqzT Ac R L T U (((clss xs).zip (clss ys)).take k)).2) ∧ Wb.heap.size ≤ w'.heap.size ∧ Below w.heap.size w w') (fun _ i _ => n - (intOf i).toNat)
  case atStart =>
    have hb2 : Below Wb.heap.size Wb (Wb.alloc (.cells #[] 22)) := (Below.refl _ _).alloc (Nat.le_refl _) _
    exact ⟨0, [], l, Nat.zero_le _, rfl, by rw [← hzb]; exact .empty _ _ _ (Nat.le_refl _), hF0.below hb2 (by omega), hl, Lib.hid rfl, by simp, below_next hB0 (by omega) hb2⟩
  case round =>
    obtain ⟨k, zs, lv, hk, rfl, ho, hF, hlv, hz, hsz, hb⟩ := hrel
    have Q := hF
    obtain ⟨e0, e1, e2, e3, e4, f2, -, -, -, -, -, -, -, -, -, -⟩ := Q
    by_cases hlt : k < n
    · obtain ⟨ad, x, X, rfl, hc, hx, hxk, hX⟩ := (h.below hb).at_ hlt
      obtain ⟨bd, y, Y, rfl, hd, hy, hyk, hY⟩ := (h'.below hb).at_ hlt
      have hzl := len_of hz.out (m := 1048576) (by rw [sqzT_len, List.length_take]; omega)
      have hst : sqzT Ac R L T U (((clss xs).zip (clss ys)).take (k + 1)) = sqzS Ac R T U (sqzT Ac R L T U (((clss xs).zip (clss ys)).take k)) (X, Y) := by rw [zip_snoc hX hY, sqzT_snoc]
      have HS := Lib.hid hst
      have CF : ∀ W, W.cell? ⟨w.heap.size, 0, none⟩ = some (.float .f32 a) → W.cell? ⟨w.heap.size, 1, none⟩ = some (.float .f32 r) → Calls Try.prog 82 #[.pointer (some ⟨w.heap.size, 0, none⟩), .float .f32 lv, .float .f32 y] W (RF .f32 (folC Ac R (sqzT Ac R L T U (((clss xs).zip (clss ys)).take k)).1 Y) W) := fun W g0 g1 => spec_l04Follow W ha hr hlv hy g0 g1
      have HC := Lib.hid CF
      have HR := Lib.hid h
      have HXK := Lib.hid hxk
      clear hst hX hY h h' hxk hyk CF hc
      go_wp2_with fail
      have h0L : Loose.All [(⟨w.heap.size, 0, none⟩, .float .f32 a), (⟨w.heap.size, 1, none⟩, .float .f32 r), (⟨w.heap.size, 2, none⟩, .float .f32 lv), (bd.add k, .float .f32 y)] _ := ⟨e0, e1, e2, hd, trivial⟩
      refine Loose.regionT 11 [(⟨w.heap.size, 0, none⟩, .float .f32 a), (⟨w.heap.size, 1, none⟩, .float .f32 r), (⟨w.heap.size, 2, none⟩, .float .f32 lv), (bd.add k, .float .f32 y)] (by kernel_rfl) (by kernel_rfl) h0L ?_
      simp only [List.take_succ_cons, List.take_zero, List.drop_succ_cons, List.drop_zero]
      have HF := Lib.hid hF
      have HO := Lib.hid ho
      clear e0 e1 e2 e3 e4 f2 hd hF ho
      apply Exists.intro
      repeat
        first
          | (apply Loose.skipT; exact rfl; simp only [Act.put, List.setIfInBounds_toArray, List.set_cons_zero, List.set_cons_succ])
          | (apply Loose.quietT h0L; exact rfl; exact rfl; intro K hK; go_big_quiet_op; go_big_quiet_on)
          | (apply Loose.quietT h0L; exact rfl; exact rfl; intro K hK; go_big_quiet_op; apply Exists.intro; refine ⟨fun w' hw' => ?_, ?_⟩
             · (first | exact rfl | (have l := hw'.all; simp only [Loose.All] at l; go_simp; rfl))
             go_big_quiet_on)
          | (apply Loose.fl32T; exact rfl; (intro w' hw'; apply Exists.intro; apply Exists.intro; refine ⟨?_, ?_⟩; (go_simp; exact ⟨rfl, rfl⟩); exact Fl.fr (by assumption) (by assumption) _ _); intro r_ f_; simp only [Act.put, List.setIfInBounds_toArray, List.set_cons_zero, List.set_cons_succ])
          | (apply Loose.exactT h0L; exact rfl; (intro w' hw'; first | (go_simp; rfl) | (have l := hw'.all; simp only [Loose.All] at l; go_simp; rfl)); simp only [Act.put, List.setIfInBounds_toArray, List.set_cons_zero, List.set_cons_succ])
      apply Loose.flcallT
      · exact rfl
      · intro w' hw'; go_simp; exact ⟨rfl, rfl⟩
      · intro w' hw'; exact HC.out w' hw'.all.1 hw'.all.2.1
      intro r_z f_z
      simp only [Act.put, List.setIfInBounds_toArray, List.set_cons_zero, List.set_cons_succ]
      repeat
        first
          | (apply Loose.skipT; exact rfl; simp only [Act.put, List.setIfInBounds_toArray, List.set_cons_zero, List.set_cons_succ])
          | (apply Loose.quietT h0L; exact rfl; exact rfl; intro K hK; go_big_quiet_op; go_big_quiet_on)
          | (apply Loose.quietT h0L; exact rfl; exact rfl; intro K hK; go_big_quiet_op; apply Exists.intro; refine ⟨fun w' hw' => ?_, ?_⟩
             · (first | exact rfl | (have l := hw'.all; simp only [Loose.All] at l; go_simp; rfl))
             go_big_quiet_on)
          | (apply Loose.fl32T; exact rfl; (intro w' hw'; apply Exists.intro; apply Exists.intro; refine ⟨?_, ?_⟩; (go_simp; exact ⟨rfl, rfl⟩); exact Fl.fr (by assumption) (by assumption) _ _); intro r_ f_; simp only [Act.put, List.setIfInBounds_toArray, List.set_cons_zero, List.set_cons_succ])
          | (apply Loose.exactT h0L; exact rfl; (intro w' hw'; first | (go_simp; rfl) | (have l := hw'.all; simp only [Loose.All] at l; go_simp; rfl)); simp only [Act.put, List.setIfInBounds_toArray, List.set_cons_zero, List.set_cons_succ])
      apply Loose.doneT
      rintro w3 - hb3 -
      have hF := HF.out.below hb3 (by omega)
      have ho := HO.out.below hb3
      replace hb := below_next hb (by omega) hb3
      replace hsz := Nat.le_trans hsz hb3.size
      clear HF HO HC h0L hb3 hlv
      obtain ⟨-, -, e2, -, -, f2, -, -, -, -, -, -, -, -, -, -⟩ := id hF
      go_wp2_with fail
      clear e2 f2
      refine Loose.regionT_of (fun W => SqI w W a r r_z t u ∧ Of W Wb.heap.size u8 zs ∧ Below w.heap.size w W ∧ Wb.heap.size ≤ W.heap.size) 15 (by kernel_rfl) (by kernel_rfl) ⟨hF.set, ho.put (by simp; omega) _, hb.setCell (by simp) _, by simpa using hsz⟩ ?_
      clear hF ho hb hsz
      rintro W2 ⟨hF, ho, hb, hsz⟩
      obtain ⟨ad', he, hc2⟩ := (HR.out.below hb).cell k x HXK.out
      obtain rfl := Option.some.inj he
      have h0L : Loose.All [(⟨w.heap.size, 2, none⟩, .float .f32 r_z), (⟨w.heap.size, 3, none⟩, .float .f32 t), (⟨w.heap.size, 4, none⟩, .float .f32 u), (ad.add k, .float .f32 x)] W2 := ⟨hF.c2, hF.c3, hF.c4, hc2, trivial⟩
      refine ⟨_, h0L, ?_⟩
      simp only [List.take_succ_cons, List.take_zero, List.drop_succ_cons, List.drop_zero]
      have HF := Lib.hid hF
      have HO := Lib.hid ho
      clear hF ho hc2 he
      apply Exists.intro
      repeat
        first
          | (apply Loose.skipT; exact rfl; simp only [Act.put, List.setIfInBounds_toArray, List.set_cons_zero, List.set_cons_succ])
          | (apply Loose.quietT h0L; exact rfl; exact rfl; intro K hK; go_big_quiet_op; go_big_quiet_on)
          | (apply Loose.quietT h0L; exact rfl; exact rfl; intro K hK; go_big_quiet_op; apply Exists.intro; refine ⟨fun w' hw' => ?_, ?_⟩
             · (first | exact rfl | (have l := hw'.all; simp only [Loose.All] at l; go_simp; rfl))
             go_big_quiet_on)
          | (apply Loose.fl32T; exact rfl; (intro w' hw'; apply Exists.intro; apply Exists.intro; refine ⟨?_, ?_⟩; (go_simp; exact ⟨rfl, rfl⟩); exact Fl.fr (by assumption) (by assumption) _ _); intro r_ f_; simp only [Act.put, List.setIfInBounds_toArray, List.set_cons_zero, List.set_cons_succ])
          | (apply Loose.exactT h0L; exact rfl; (intro w' hw'; first | (go_simp; rfl) | (have l := hw'.all; simp only [Loose.All] at l; go_simp; rfl)); simp only [Act.put, List.setIfInBounds_toArray, List.set_cons_zero, List.set_cons_succ])
      apply Loose.flcallT
      · exact rfl
      · intro w' hw'; go_simp; exact ⟨rfl, rfl⟩
      · intro w' hw'; exact (fun W => spec_GainFor f_z ht hu W) _
      intro r_g f_g
      simp only [Act.put, List.setIfInBounds_toArray, List.set_cons_zero, List.set_cons_succ]
      apply Loose.fl32T
      · exact rfl
      · intro w' hw'; apply Exists.intro; apply Exists.intro; refine ⟨?_, ?_⟩
        · go_simp; exact ⟨rfl, rfl⟩
        · exact Fl.fr (by assumption) (by assumption) _ _
      intro r_p f_p
      simp only [Act.put, List.setIfInBounds_toArray, List.set_cons_zero, List.set_cons_succ]
      apply Loose.build1T (e := 22)
      · exact rfl
      · intro w' hw'
        refine ⟨_, f_p, ?_⟩
        go_simp
      intro ap
      simp only [Act.put, List.setIfInBounds_toArray, List.set_cons_zero, List.set_cons_succ]
      apply Loose.doneT
      rintro w3 - hb3 ⟨-, p, hp, hrp⟩
      have hF := HF.out.below hb3 (by omega)
      have ho := HO.out.below hb3
      replace hb := below_next hb (by omega) hb3
      replace hsz := Nat.le_trans hsz hb3.size
      clear HF HO h0L hb3
      go_wp2_with (at_builtin; refine ap_slice Wb.heap.size rfl _ _ 25 22 rfl Try.underlying25 info_f32 u8 zs [p] _ _ _ rfl rfl ho hrp hsz (by omega) (by decide) ?_; intro v1 w4 ho3 hg3 hat)
      refine ⟨⟨k + 1, _, r_z, by omega, by go_num, ho3, hF.grown hg3 (by omega) (fun j e => by have := ho.base j e; omega), ?_, Lib.hid ?_, Nat.le_trans hsz hg3.size, hb.grown hg3 (by omega) (fun j e => by have := ho.base j e; omega)⟩, by simp [intOf]; omega⟩
      · rw [HS.out]; exact f_z
      · rw [HS.out, sqzS]; dsimp only; rw [← hz.out]; exact clss_push rfl hp
    · obtain ⟨A7, c7, rfl⟩ := ho.shape
      go_wp2
      have hz1 := hz.out
      rw [zip_all HX.out HY.out hk hlt] at hz1 hlv
      clear hF0
      obtain ⟨-, -, -, -, -, -, r0, r1, r2, r3, r4, g0, g1, g2, g3, g4⟩ := hF
      go_region
      all_goals go_wp2
      all_goals
        refine bodyPost_ret (v := .tuple #[.slice A7 zs.length c7, .agg #[.float .f32 a, .float .f32 r, .float .f32 lv, .float .f32 t, .float .f32 u]]) ?_ rfl ⟨_, _, _, _, _, _, _, rfl, ?_, hz1, len_of hz1 (by rw [sqzT_len, List.length_zip, clss_length, HX.out]; omega), ha, hr, hlv, ht, hu, ?_⟩
        · simp [results, Try.results84, go_sem, r0, r1, r2, r3, r4]
        · exact ((((((ho.put (by simp; omega) _).put (by simp; omega) _).put (by simp; omega) _).put (by simp; omega) _).put (by simp; omega) _).low (by omega)).drewN 1
        · exact below_drewN (((((hb.setCell (by simp) _).setCell (by simp) _).setCell (by simp) _).setCell (by simp) _).setCell (by simp) _) 1
end Go.Proofs.Ytbaokmapgdnhlaa
