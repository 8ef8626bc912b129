/- The walk of the law on empty rooms. Conditions: none. -/
import Derived.Test.YtlenpecnfilkjaaU3
import Derived.Deep.DeepCutAuto
set_option linter.unusedVariables false
set_option linter.unusedSimpArgs false
namespace Go.Proofs.Ytlenpecnfilkjaa
open Go.RowKit
theorem PrK.grown {w W W' : World} {p : List Value} (h : PrK w W p) {row : Option Nat} (hg : W.grownBy W' row) (hr : ∀ k, row = some k → w.heap.size < k) : PrK w W' p :=
  ⟨fun i v e => (World.cell?_of_block (a := ⟨w.heap.size, i, none⟩) (hg.block _ h.sz (fun e => absurd (hr _ e.symm) (Nat.lt_irrefl _)))).trans (h.cp i v e), h.bel.grown hg (Nat.le_of_lt h.sz) (fun k e => Nat.le_of_lt (hr k e)), Nat.lt_of_lt_of_le h.sz hg.size⟩
theorem empty_both {n m : Nat} (f0 : Nat → Int) (f1 f2 f3 : Nat → Nat) (f4 : Nat → Bool) (g0 : Nat → Int) (g1 : Nat → Nat) (hn : n ≤ 1048576) (hm : m ≤ 1048576) (x y : Nat) :
    ∃ (ok : Bool) (N : Nat) (T : List Int), N ≤ 64 ∧ (∀ i, i < N → (zeroX T i).length ≤ 64) ∧
      (∀ (W : World) {A B : Option Addr} {c d : Nat}, RdDelay W A n f0 f1 f2 f3 f4 → RdPass W B m g0 g1 → Calls Try.prog 46 #[.agg #[.slice A n c, .slice B m d, .float .f32 x, .float .f32 y]] W fun e w' => ∃ v F, e = .returned (.tuple #[v, .bool ok]) ∧ OwSS w' W.heap.size w'.heap.size v N F (zeroX T) ∧ Below W.heap.size W w') ∧
      (∀ (W : World) {A B : Option Addr} {c d : Nat}, RdDelay W A n f0 f1 f2 f3 f4 → RdPass W B m g0 g1 → Calls Try.prog 47 #[.agg #[.slice A n c, .slice B m d, .float .f32 x, .float .f32 y]] W fun e w' => ∃ v F, e = .returned (.tuple #[v, .bool ok]) ∧ OwSS w' W.heap.size w'.heap.size v N F (zeroX T) ∧ Below W.heap.size W w') := by
  refine ⟨roomOk n m f0 g0, if roomOk n m f0 g0 = true then n + m else 0, lens n f0 m g0, ?_, ?_, fun W A B c d h h' => spec_EmptyRoom W h hn h' hm, fun W A B c d h h' => impl_EmptyRoom W h hn h' hm⟩
  · cases hok : roomOk n m f0 g0
    · simp
    · simp only [roomOk, Bool.and_eq_true, decide_eq_true_eq] at hok
      have := (inC_iff _ _ _).1 hok.2.1
      simp; omega
  · cases hok : roomOk n m f0 g0
    · intro i hi; simp at hi
    · intro i hi
      have hall := roomOk_all hok
      have hl := lens_len n f0 m g0
      have hi' : i < (lens n f0 m g0).length := by rw [hl]; simpa using hi
      have hx : (lens n f0 m g0)[i]? = some (lens n f0 m g0)[i] := List.getElem?_eq_getElem hi'
      have := (inC_iff _ _ _).1 (List.all_eq_true.1 hall _ (List.getElem_mem hi'))
      rw [zeroX, hx, List.length_replicate]
      simp; omega
set_option maxHeartbeats 6400000 in
set_option maxRecDepth 100000 in
theorem emptyRoom_walk (a0 : Option Addr) (n0 c0 : Nat) (l0 : List Value) (a1 : Option Addr) (n1 c1 : Nat) (l1 : List Value) (x y : Nat) (w : World) (wr0 : Row w [.i64, .f32, .f32, .f32, .bool] a0 n0 l0) (wr1 : Row w [.i64, .f32] a1 n1 l1) (wx : x < 2 ^ FloatKind.f32.format.width) (wy : y < 2 ^ FloatKind.f32.format.width) :
    Calls Try.prog 12 #[.agg #[.slice a0 n0 c0, .slice a1 n1 c1, .float .f32 x, .float .f32 y]] w fun e w' => e = .returned (.bool true) ∧ Below w.heap.size w w' := by
  obtain ⟨f0, f1, f2, f3, f4, h⟩ := wr0.rdDelay
  obtain ⟨g0, g1, h'⟩ := wr1.rdPass
  have hx := Fl.self wx
  have hy := Fl.self wy
  have hK : PrK w (w.alloc (.cells #[.slice a0 n0 c0, .slice a1 n1 c1, .float .f32 x, .float .f32 y] 70)) [.slice a0 n0 c0, .slice a1 n1 c1, .float .f32 x, .float .f32 y] := PrK.start _ _ _
  rcases Nat.lt_or_ge 1048576 (n0 + n1) with hn | hn
  · go_enter Try.func12, Try.ntmps12
    go_wp2_with fail
    generalize World.alloc w _ = W0 at *
    have p0 := hK.cp 0 _ rfl
    have p1 := hK.cp 1 _ rfl
    have p2 := hK.cp 2 _ rfl
    have p3 := hK.cp 3 _ rfl
    go_wp2_with fail
    refine (laws_szRoom _ h.most h'.most).mono ?_
    rintro e w1 ⟨rfl, hb1⟩
    have HB := Lib.hid (hK.next hb1).bel
    have e1 : (if (1048576 : Int) < (n0 : Int) then (-1 : Int) else if 1048576 - (n0 : Int) < (n1 : Int) then -1 else 1048576 - (n0 : Int) - n1) = -1 := by
      split
      · rfl
      · rw [if_pos (by omega)]
    rw [e1]
    clear e1 hn
    go_wp2_with fail
    go_ret
    exact ⟨rfl, HB.out⟩
  · have hn0 : n0 ≤ 1048576 := by omega
    have hn1 : n1 ≤ 1048576 := by omega
    obtain ⟨ok, N, T, hN, hXl, CS, CI⟩ := empty_both f0 f1 f2 f3 f4 g0 g1 hn0 hn1 x y
    have ht := (tot_le hXl N (Nat.le_refl _)).1
    go_enter Try.func12, Try.ntmps12
    go_wp2_with fail
    generalize World.alloc w _ = W0 at *
    have p0 := hK.cp 0 _ rfl
    have p1 := hK.cp 1 _ rfl
    have p2 := hK.cp 2 _ rfl
    have p3 := hK.cp 3 _ rfl
    go_wp2_with fail
    refine (laws_szRoom _ h.most h'.most).mono ?_
    rintro e w1 ⟨rfl, hb1⟩
    rw [if_neg (by omega), if_neg (by omega)]
    replace hK := hK.next hb1
    clear hb1
    clear p0 p1 p2 p3
    have p0 := hK.cp 0 _ rfl
    have p1 := hK.cp 1 _ rfl
    have p2 := hK.cp 2 _ rfl
    have p3 := hK.cp 3 _ rfl
    go_wp2_with fail
    refine (laws_toRoom _ (h.below hK.bel) hn0 (h'.below hK.bel) hn1).mono ?_
    rintro e w2 ⟨v1, u1, rfl, ho1, hu1, -, hb2⟩
    obtain ⟨A1, d1, rfl⟩ := ho1.shape_n (m := n0) rfl
    obtain ⟨B1, e1, rfl⟩ := hu1.shape_n (m := n1) rfl
    replace hK := hK.next hb2
    clear hb2
    clear p0 p1 p2 p3
    have p0 := hK.cp 0 _ rfl
    have p1 := hK.cp 1 _ rfl
    have p2 := hK.cp 2 _ rfl
    have p3 := hK.cp 3 _ rfl
    go_wp2_with fail
    refine (CS _ (ho1.rd rfl) (hu1.rd rfl)).mono ?_
    rintro e w3 ⟨vw, Fw, rfl, hw, hb3⟩
    clear ho1 hu1 CS
    obtain ⟨Aw, cw, rfl⟩ := hw.shape
    have hz3 := hb3.size
    have hz2 := hK.sz
    replace hK := hK.next hb3
    clear hb3
    clear p0 p1 p2 p3
    have p0 := hK.cp 0 _ rfl
    have p1 := hK.cp 1 _ rfl
    have p2 := hK.cp 2 _ rfl
    have p3 := hK.cp 3 _ rfl
    go_wp2_with fail
    refine (laws_toRoom _ (h.below hK.bel) hn0 (h'.below hK.bel) hn1).mono ?_
    rintro e w4 ⟨v2, u2, rfl, ho3, hu3, hap, hb4⟩
    obtain ⟨A2, d2, rfl⟩ := ho3.shape_n (m := n0) rfl
    obtain ⟨B2, e2, rfl⟩ := hu3.shape_n (m := n1) rfl
    have hz4 := hb4.size
    have hbA := ho3.base
    have hbB := hu3.base
    have hlA := ho3.lt
    have hlB := hu3.lt
    replace hK := hK.next hb4
    replace hw := hw.below hb4
    clear hb4
    clear p0 p1 p2 p3
    have p0 := hK.cp 0 _ rfl
    have p1 := hK.cp 1 _ rfl
    have p2 := hK.cp 2 _ rfl
    have p3 := hK.cp 3 _ rfl
    obtain ⟨W5, hW5⟩ : ∃ W, W = w4.alloc (.cells #[.slice A2 n0 d2, .slice B2 n1 e2, .float .f32 x, .float .f32 y] 76) := ⟨_, rfl⟩
    have hb5 : Below w4.heap.size w4 W5 := by rw [hW5]; exact (Below.refl _ _).alloc (Nat.le_refl _) _
    have hX : BlK W5 w4.heap.size [.slice A2 n0 d2, .slice B2 n1 e2, .float .f32 x, .float .f32 y] := by rw [hW5]; exact BlK.start _ _ _
    have hz5 := hb5.size
    have hW5' := Lib.hid hW5
    clear hW5
    go_upto_region 7 with fail
    rw [← hW5'.out]
    clear hW5'
    replace hK := hK.next hb5
    replace hw := hw.below hb5
    replace ho3 := ho3.below hb5
    replace hu3 := hu3.below hb5
    clear hb5 p0 p1 p2 p3
    have p0 := hK.cp 0 _ rfl
    have p1 := hK.cp 1 _ rfl
    have p2 := hK.cp 2 _ rfl
    have p3 := hK.cp 3 _ rfl
    have y0 := hX.2 0 _ rfl
    have y1 := hX.2 1 _ rfl
    have y2 := hX.2 2 _ rfl
    have y3 := hX.2 3 _ rfl
    go_wp2_with fail
    refine (CI _ (ho3.rd rfl) (hu3.rd rfl)).mono ?_
    rintro e w6 ⟨vg, Fg, rfl, hg, hb6⟩
    obtain ⟨Ag, cg, rfl⟩ := hg.shape
    have hz6 := hb6.size
    replace hK := hK.next hb6
    replace hw := hw.below hb6
    replace ho3 := ho3.below hb6
    replace hu3 := hu3.below hb6
    replace hX := hX.next hb6
    clear hb6
    clear p0 p1 p2 p3 y0 y1 y2 y3
    have p0 := hK.cp 0 _ rfl
    have p1 := hK.cp 1 _ rfl
    have p2 := hK.cp 2 _ rfl
    have p3 := hK.cp 3 _ rfl
    have y0 := hX.2 0 _ rfl
    have y1 := hX.2 1 _ rfl
    have y2 := hX.2 2 _ rfl
    have y3 := hX.2 3 _ rfl
    go_wp2_with fail
    refine (laws_eqFloat32SS _ hg hw (fun i hi => ⟨hXl i hi, rfl⟩) hN).mono ?_
    rintro e w7 ⟨rfl, hb7⟩
    replace hK := hK.next hb7
    replace hw := hw.below hb7
    replace ho3 := ho3.below hb7
    replace hu3 := hu3.below hb7
    replace hg := hg.below hb7
    replace hX := hX.next hb7
    clear hb7
    clear p0 p1 p2 p3 y0 y1 y2 y3
    have p0 := hK.cp 0 _ rfl
    have p1 := hK.cp 1 _ rfl
    have p2 := hK.cp 2 _ rfl
    have p3 := hK.cp 3 _ rfl
    have y0 := hX.2 0 _ rfl
    have y1 := hX.2 1 _ rfl
    have y2 := hX.2 2 _ rfl
    have y3 := hX.2 3 _ rfl
    go_upto_region 10 with fail
    go_cut [45] (fun s wx => s = .bool false ∧ Below w7.heap.size w7 wx)
    case first =>
      go_region_with (first
        | (go_at_call 43; refine (laws_toRoom _ (h.below (below_drewN hK.bel _)) hn0 (h'.below (below_drewN hK.bel _)) hn1).mono ?_; rintro e wq ⟨v4, u4, rfl, ho4, hu4, -, hbq⟩; obtain ⟨A4, d4, rfl⟩ := ho4.shape_n (m := n0) rfl; obtain ⟨B4, e4, rfl⟩ := hu4.shape_n (m := n1) rfl; replace hbq := below_undrawn hbq; have hXq := hX.next hbq; have z0 := hXq.2 0 _ rfl; have z1 := hXq.2 1 _ rfl; have z2 := hXq.2 2 _ rfl; have z3 := hXq.2 3 _ rfl)
        | (go_at_call 45; refine (laws_eqRoom _ ((ho3.below hbq).rd rfl) hn0 ((hu3.below hbq).rd rfl) hn1 (ho4.rd rfl) (hu4.rd rfl) hx hy hx hy).mono ?_; rintro e wr ⟨rfl, hbr⟩))
      all_goals (go_wp2_with fail; go_meet; exact ⟨rfl, below_next hbq hbq.size hbr⟩)
    obtain ⟨rfl, hb8⟩ := hcut
    replace hK := hK.next hb8
    replace hw := hw.below hb8
    replace ho3 := ho3.below hb8
    replace hu3 := hu3.below hb8
    replace hg := hg.below hb8
    replace hX := hX.next hb8
    clear hb8
    clear p0 p1 p2 p3 y0 y1 y2 y3
    have p0 := hK.cp 0 _ rfl
    have p1 := hK.cp 1 _ rfl
    have p2 := hK.cp 2 _ rfl
    have p3 := hK.cp 3 _ rfl
    have y0 := hX.2 0 _ rfl
    have y1 := hX.2 1 _ rfl
    have y2 := hX.2 2 _ rfl
    have y3 := hX.2 3 _ rfl
    go_wp2_with fail
    refine (laws_markRoom _ ho3 hn0 hu3 hn1 hap (by omega) (by omega)).mono ?_
    rintro e w9 ⟨rfl, wm, hg1, hg2⟩
    have e1 : ∀ k, (Value.slice A2 n0 d2).ownBlock = some k → w3.heap.size ≤ k ∧ k < w4.heap.size := fun k e => ⟨hbA k e, hlA k e⟩
    have e2' : ∀ k, (Value.slice B2 n1 e2).ownBlock = some k → w3.heap.size ≤ k ∧ k < w4.heap.size := fun k e => ⟨hbB k e, hlB k e⟩
    replace hK := (hK.grown hg1 (fun k e => by have := e1 k e; omega)).grown hg2 (fun k e => by have := e2' k e; omega)
    replace hw := (hw.step hg1 (fun k e => .inr (e1 k e).1)).step hg2 (fun k e => .inr (e2' k e).1)
    replace hg := (hg.step hg1 (fun k e => .inl (by have := e1 k e; omega))).step hg2 (fun k e => .inl (by have := e2' k e; omega))
    clear hg1 hg2 e1 e2' hX ho3 hu3 hap hbA hbB hlA hlB y0 y1 y2 y3
    clear p0 p1 p2 p3
    have p0 := hK.cp 0 _ rfl
    have p1 := hK.cp 1 _ rfl
    have p2 := hK.cp 2 _ rfl
    have p3 := hK.cp 3 _ rfl
    go_wp2_with fail
    refine (laws_eqFloat32SS _ hg hw (fun i hi => ⟨hXl i hi, rfl⟩) hN).mono ?_
    rintro e w10 ⟨rfl, hb10⟩
    replace hK := hK.next hb10
    replace hw := hw.below hb10
    replace hg := hg.below hb10
    clear hb10
    clear p0 p1 p2 p3
    have p0 := hK.cp 0 _ rfl
    have p1 := hK.cp 1 _ rfl
    have p2 := hK.cp 2 _ rfl
    have p3 := hK.cp 3 _ rfl
    go_wp2_with fail
    refine (laws_markFloat32SS _ hg hXl hN (by omega) (by omega)).mono ?_
    rintro e w11 ⟨rfl, hg', hG⟩
    clear hg
    replace hK := hG (fun u => PrK w u [.slice a0 n0 c0, .slice a1 n1 c1, .float .f32 x, .float .f32 y]) (fun u u' row h1 hr h2 => h2.grown h1 (fun k e => by have := hr k e; omega)) hK
    replace hw := hG (fun u => OwSS u w2.heap.size w3.heap.size (.slice Aw N cw) N Fw (zeroX T)) (fun u u' row h1 hr h2 => h2.step h1 (fun k e => .inr (by have := hr k e; omega))) hw
    clear hG
    clear p0 p1 p2 p3
    have p0 := hK.cp 0 _ rfl
    have p1 := hK.cp 1 _ rfl
    have p2 := hK.cp 2 _ rfl
    have p3 := hK.cp 3 _ rfl
    go_wp2_with fail
    refine (laws_heldFloat32SS _ hg' hXl hN (by omega) (by omega)).mono ?_
    rintro e w12 ⟨rfl, rfl⟩
    go_wp2_with fail
    refine (laws_toRoom _ (h.below hK.bel) hn0 (h'.below hK.bel) hn1).mono ?_
    rintro e w13 ⟨v5, u5, rfl, ho5, hu5, -, hb13⟩
    obtain ⟨A5, d5, rfl⟩ := ho5.shape_n (m := n0) rfl
    obtain ⟨B5, e5, rfl⟩ := hu5.shape_n (m := n1) rfl
    replace hK := hK.next hb13
    replace hw := hw.below hb13
    replace hg' := hg'.below hb13
    clear hb13
    clear p0 p1 p2 p3
    have p0 := hK.cp 0 _ rfl
    have p1 := hK.cp 1 _ rfl
    have p2 := hK.cp 2 _ rfl
    have p3 := hK.cp 3 _ rfl
    go_wp2_with fail
    refine (CI _ (ho5.rd rfl) (hu5.rd rfl)).mono ?_
    rintro e w14 ⟨vh, Fh, rfl, hh, hb14⟩
    obtain ⟨Ah, ch, rfl⟩ := hh.shape
    clear ho5 hu5 CI
    replace hK := hK.next hb14
    replace hw := hw.below hb14
    replace hg' := hg'.below hb14
    clear hb14
    clear p0 p1 p2 p3
    have p0 := hK.cp 0 _ rfl
    have p1 := hK.cp 1 _ rfl
    have p2 := hK.cp 2 _ rfl
    have p3 := hK.cp 3 _ rfl
    go_wp2_with fail
    refine (laws_eqFloat32SS _ hh hw (fun i hi => ⟨hXl i hi, rfl⟩) hN).mono ?_
    rintro e w15 ⟨rfl, hb15⟩
    clear hh
    replace hK := hK.next hb15
    replace hw := hw.below hb15
    replace hg' := hg'.below hb15
    clear hb15
    clear p0 p1 p2 p3
    have p0 := hK.cp 0 _ rfl
    have p1 := hK.cp 1 _ rfl
    have p2 := hK.cp 2 _ rfl
    have p3 := hK.cp 3 _ rfl
    go_wp2_with fail
    refine (laws_heldFloat32SS _ hg' hXl hN (by omega) (by omega)).mono ?_
    rintro e w16 ⟨rfl, rfl⟩
    have HB := Lib.hid hK.bel
    go_wp2_with fail
    go_ret
    exact ⟨rfl, HB.out⟩
end Go.Proofs.Ytlenpecnfilkjaa
