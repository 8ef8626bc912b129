/- The walk of the law on delays: the runs. Conditions: none beside the contracts' own. -/
import Derived.Test.YtbaokmapgdnhlaaD6
import Derived.Deep.RegionHeld3
import Derived.Handy
set_option linter.unusedVariables false
set_option linter.unusedSimpArgs false
namespace Go.Proofs.Ytbaokmapgdnhlaa
open Go.RowKit
def dlyS (F D W : Option Nat) (fl : Bool) (s : List (Option Nat) × List (Option Nat)) (X : Option Nat) : List (Option Nat) × List (Option Nat) := (s.1 ++ [dlyY D W X s.2], s.2.tail ++ [dlyV F fl X s.2])
def dlyT (F D W : Option Nat) (fl : Bool) (L l : List (Option Nat)) : List (Option Nat) × List (Option Nat) := l.foldl (dlyS F D W fl) ([], L)
theorem dlyT_snoc (F D W : Option Nat) (fl : Bool) (L l : List (Option Nat)) (X : Option Nat) : dlyT F D W fl L (l ++ [X]) = dlyS F D W fl (dlyT F D W fl L l) X := by simp [dlyT]
theorem dly_len (F D W : Option Nat) (fl : Bool) (l : List (Option Nat)) : ∀ s : List (Option Nat) × List (Option Nat), (l.foldl (dlyS F D W fl) s).1.length = s.1.length + l.length := by
  induction l with
  | nil => intro s; simp
  | cons X l ih => intro s; rw [List.foldl_cons, ih]; simp [dlyS]; omega
theorem dlyT_len (F D W : Option Nat) (fl : Bool) (L l : List (Option Nat)) : (dlyT F D W fl L l).1.length = l.length := by rw [dlyT, dly_len]; simp
def dlyNC (len : Int) (n m : Nat) (F D W : Option Nat) (fl : Bool) (L X : List (Option Nat)) : List (Option Nat) × List (Option Nat) := if lineOk len n m = true then dlyT F D W fl L X else ([], [])
set_option maxHeartbeats 400000 in
theorem impl_ValidDelay (n : Int) (f d x : Nat) (b : Bool) (w : World) : Calls Try.prog 66 #[.agg #[.int .i64 n, .float .f32 f, .float .f32 d, .float .f32 x, .bool b]] w (RV (.bool (inC n 1 64)) w) := by
  go_enter Try.func66, Try.ntmps66
  go_wp2_with (go_at_call 59; refine (impl_isLength _ _).mono ?_; rintro e w' ⟨rfl, rfl⟩)
  go_ret
  refine ⟨rfl, ?_⟩
  (repeat (first | exact Below.refl _ _ | (with_reducible assumption) | refine below_drewN ?_ _ | refine Below.drew ?_ | refine Below.alloc ?_ (by simp; try omega) _))
set_option maxHeartbeats 1600000 in
theorem spec_RunDelay {len : Int} {f d wt : Nat} {fl : Bool} {F D W : Option Nat} {A A' : Option Addr} {n m c c' : Nat} {xs ys : List Nat} (w : World) (hf : Fl .f32 f F) (hd : Fl .f32 d D) (hw : Fl .f32 wt W) (h : Rd w A n xs) (hn : n ≤ 1048576) (h' : Rd w A' m ys) (hm : m ≤ 1048576) :
    Calls Try.prog 20 #[.agg #[.int .i64 len, .float .f32 f, .float .f32 d, .float .f32 wt, .bool fl], .slice A n c, .slice A' m c'] w (RSSB (dlyNC len n m F D W fl (clss xs) (clss ys)) (lineOk len n m) w) := by
  have hal := fun o => (Below.refl _ w).alloc (Nat.le_refl _) o
  unfold dlyNC
  cases hf : lineOk len n m <;> simp only [Bool.false_eq_true, if_true, if_false]
  · rcases line_not hf with h1 | ⟨h1, h2⟩ | ⟨h1, rfl, h2⟩
    all_goals
      clear hf
      go_enter Try.func20, Try.ntmps20
      go_wp2_with (first | (go_at_call 55; refine (spec_l03Length _ _).mono ?_; rintro e w' ⟨rfl, rfl⟩) | (go_at_call 56; refine (spec_l01Few hm _).mono ?_; rintro e w' ⟨rfl, rfl⟩))
      go_ret3
      exact ⟨_, _, _, _, rfl, .nil _ _ _, rfl, by simp, .nil _ _ _, rfl, by simp, .inl rfl, hal _⟩
  · obtain ⟨h1, rfl, hn0, hn64, h3⟩ := line_ok hf
    clear hf
    go_enter Try.func20, Try.ntmps20
    go_wp2_with fail
    obtain ⟨Wb, hWb⟩ : ∃ W, W = w.alloc (.cells #[.int .i64 (n : Int), .float .f32 f, .float .f32 d, .float .f32 wt, .bool fl] 37) := ⟨_, rfl⟩
    rw [← hWb]
    have hB0 : Below w.heap.size w Wb := by rw [hWb]; exact hal _
    have hzb : Wb.heap.size = w.heap.size + 1 := by rw [hWb]; simp
    have hcb0 : Wb.cell? ⟨w.heap.size, 0, none⟩ = some (.int .i64 (n : Int)) := by rw [hWb]; simp [go_sem]
    have hcb1 : Wb.cell? ⟨w.heap.size, 1, none⟩ = some (.float .f32 f) := by rw [hWb]; simp [go_sem]
    have hcb2 : Wb.cell? ⟨w.heap.size, 2, none⟩ = some (.float .f32 d) := by rw [hWb]; simp [go_sem]
    have hcb3 : Wb.cell? ⟨w.heap.size, 3, none⟩ = some (.float .f32 wt) := by rw [hWb]; simp [go_sem]
    have hcb4 : Wb.cell? ⟨w.heap.size, 4, none⟩ = some (.bool fl) := by rw [hWb]; simp [go_sem]
    have hlb : w.heap.size < Wb.heap.size := by omega
    have hr0 := h.below hB0
    have hr' := h'.below hB0
    have HX := Lib.hid h.len
    have HM := Lib.hid h'.len
    clear hWb hal h h' hzb
    go_wp2_with (first | (go_at_call 55; refine (spec_l03Length _ _).mono ?_; rintro e w' ⟨rfl, rfl⟩) | (go_at_call 56; refine (spec_l01Few hm _).mono ?_; rintro e w' ⟨rfl, rfl⟩))
    refine (spec_l03Own _ hr0 hn).mono ?_
    rintro e W1 ⟨v0, rfl, ho0, hb1⟩
    obtain ⟨A0, c0, rfl⟩ := ho0.shape_n HX.out
    have hs1 := hb1.size
    clear hcb0 hr0 h1 h3
    go_wp2_with fail
    go_loopw [10, 11] (fun v i w' => ∃ k zs ls, k ≤ m ∧ i = .int .i64 (k : Nat) ∧ Of w' Wb.heap.size v zs ∧ Of w' Wb.heap.size (.slice A0 n c0) ls ∧ (v.ownBlock = none ∨ v.ownBlock ≠ (Value.slice A0 n c0).ownBlock) ∧ Hid (clss zs = (dlyT F D W fl (clss xs) ((clss ys).take k)).1 ∧ clss ls = (dlyT F D W fl (clss xs) ((clss ys).take k)).2 ∧ ls.length = n) ∧ Below Wb.heap.size Wb w') (fun _ i _ => m - (intOf i).toNat)
    case atStart =>
      have hb2 : Below W1.heap.size W1 (W1.alloc (.cells #[] 22)) := (Below.refl _ _).alloc (Nat.le_refl _) _
      exact ⟨0, [], xs, Nat.zero_le _, rfl, .empty _ _ _ hs1, ho0.below hb2, own_apart' (Bi := W1.heap.size) (m := W1.heap.size) (fun k e => by simp [Value.ownBlock] at e; omega) ho0.lt (Nat.le_refl _), Lib.hid ⟨rfl, rfl, HX.out⟩, below_next hb1 hs1 hb2⟩
    case round =>
      obtain ⟨k, zs, ls, hk, rfl, ho, hoL, hap, hz, hb⟩ := hrel
      have hsz := hb.size
      by_cases hlt : k < m
      · obtain ⟨ad, x, X, rfl, hc, hx, hxk, hX⟩ := (hr'.below hb).at_ hlt
        have hzl := len_of hz.out.1 (m := 1048576) (by rw [dlyT_len, List.length_take]; omega)
        have hst : dlyT F D W fl (clss xs) ((clss ys).take (k + 1)) = dlyS F D W fl (dlyT F D W fl (clss xs) ((clss ys).take k)) X := by rw [clss_snoc hX, dlyT_snoc]
        have HS := Lib.hid hst
        have hce1 := (cell_below (o := 1) hb hlb).trans hcb1
        have hce2 := (cell_below (o := 2) hb hlb).trans hcb2
        have hce3 := (cell_below (o := 3) hb hlb).trans hcb3
        have hce4 := (cell_below (o := 4) hb hlb).trans hcb4
        clear hst hX hr' ho0 hb1
        go_wp2_with fail
        refine (spec_l03Delay _ hoL hz.out.2.2 hn0 hn hf hd hw hx hce1 hce2 hce3 hce4 hlb).mono ?_
        rintro e w2 ⟨r, ls1, rfl, hr, hoL1, hcl, hgr⟩
        have ho1 := ho.other hgr hap
        have hb1 := hb.grown hgr hsz hoL.base
        have hsz1 := hb1.size
        have hll : ls1.length = n := by have := congrArg List.length hcl; rw [clss_length] at this; rw [this]; simp [clss_length, hz.out.2.2]; omega
        have HLL := Lib.hid hll
        have HC := Lib.hid hcl
        clear hgr ho hoL hb hce1 hce2 hce3 hce4 hsz hll hcl
        go_wp2_with (at_builtin; refine ap_float Wb.heap.size rfl _ _ 25 22 rfl Try.underlying25 info_f32 _ zs r rfl rfl (by exact ho1) hr.wf (by exact hb1) (by omega) (by omega) ?_; intro v1 w3 ho3 hb3 hg3 hat)
        refine ⟨⟨k + 1, _, ls1, by omega, by go_num, ho3, hoL1.other hg3 (ne_swap hap), apart_new hap hat hoL1.lt, Lib.hid ⟨?_, ?_, HLL.out⟩, hb3⟩, by simp [intOf]; omega⟩
        · rw [HS.out, dlyS]; dsimp only; rw [← hz.out.1, ← hz.out.2.1]; exact clss_push rfl hr
        · rw [HS.out, dlyS]; dsimp only; rw [← hz.out.2.1]; exact HC.out
      · go_wp2
        go_ret3
        have hz1 := hz.out
        rw [clss_all HM.out hk hlt] at hz1
        exact ⟨_, _, _, _, rfl, ho.low (Nat.le_of_lt hlb), hz1.1, len_of hz1.1 (by rw [dlyT_len, clss_length, HM.out]; exact hm), hoL.low (Nat.le_of_lt hlb), hz1.2.1, by have := hz1.2.2; omega, hap, below_next hB0 (Nat.le_of_lt hlb) hb⟩
set_option maxHeartbeats 6400000 in
theorem impl_RunDelay {len : Int} {f d wt : Nat} {fl : Bool} {F D W : Option Nat} {A A' : Option Addr} {n m c c' : Nat} {xs ys : List Nat} (w : World) (hf : Fl .f32 f F) (hd : Fl .f32 d D) (hw : Fl .f32 wt W) (h : Rd w A n xs) (hn : n ≤ 1048576) (h' : Rd w A' m ys) (hm : m ≤ 1048576) :
    Calls Try.prog 22 #[.agg #[.int .i64 len, .float .f32 f, .float .f32 d, .float .f32 wt, .bool fl], .slice A n c, .slice A' m c'] w (RSSB (dlyNC len n m F D W fl (clss xs) (clss ys)) (lineOk len n m) w) := by
  have hal := fun o => (Below.refl _ w).alloc (Nat.le_refl _) o
  unfold dlyNC
  cases hf : lineOk len n m <;> simp only [Bool.false_eq_true, if_true, if_false]
  · rcases line_not hf with h1 | ⟨h1, h2⟩ | ⟨h1, rfl, h2⟩
    · clear hf
      go_enter Try.func22, Try.ntmps22
      go_wp2_with fail
      have CV : ∀ W, Calls Try.prog 66 #[.agg #[.int .i64 len, .float .f32 f, .float .f32 d, .float .f32 wt, .bool fl]] W (RV (.bool false) W) := fun W => by rw [← h1]; exact impl_ValidDelay _ _ _ _ _ _
      obtain ⟨Wb, hWb⟩ : ∃ W, W = w.alloc (.cells #[.int .i64 len, .float .f32 f, .float .f32 d, .float .f32 wt, .bool fl] 37) := ⟨_, rfl⟩
      rw [← hWb]
      have hB0 : Below w.heap.size w Wb := by rw [hWb]; exact hal _
      have hzb : Wb.heap.size = w.heap.size + 1 := by rw [hWb]; simp
      have hcb0 : Wb.cell? ⟨w.heap.size, 0, none⟩ = some (.int .i64 len) := by rw [hWb]; simp [go_sem]
      have hcb1 : Wb.cell? ⟨w.heap.size, 1, none⟩ = some (.float .f32 f) := by rw [hWb]; simp [go_sem]
      have hcb2 : Wb.cell? ⟨w.heap.size, 2, none⟩ = some (.float .f32 d) := by rw [hWb]; simp [go_sem]
      have hcb3 : Wb.cell? ⟨w.heap.size, 3, none⟩ = some (.float .f32 wt) := by rw [hWb]; simp [go_sem]
      have hcb4 : Wb.cell? ⟨w.heap.size, 4, none⟩ = some (.bool fl) := by rw [hWb]; simp [go_sem]
      have hlb : w.heap.size < Wb.heap.size := by omega
      clear hWb
      have S1 : (Wb.cell? ⟨w.heap.size, 0, none⟩ = some (.int .i64 len) ∧ Wb.cell? ⟨w.heap.size, 1, none⟩ = some (.float .f32 f) ∧ Wb.cell? ⟨w.heap.size, 2, none⟩ = some (.float .f32 d) ∧ Wb.cell? ⟨w.heap.size, 3, none⟩ = some (.float .f32 wt) ∧ Wb.cell? ⟨w.heap.size, 4, none⟩ = some (.bool fl) ∧ Below Wb.heap.size Wb Wb) := ⟨hcb0, hcb1, hcb2, hcb3, hcb4, Below.refl _ _⟩
      have SD : ∀ W0 k, (W0.cell? ⟨w.heap.size, 0, none⟩ = some (.int .i64 len) ∧ W0.cell? ⟨w.heap.size, 1, none⟩ = some (.float .f32 f) ∧ W0.cell? ⟨w.heap.size, 2, none⟩ = some (.float .f32 d) ∧ W0.cell? ⟨w.heap.size, 3, none⟩ = some (.float .f32 wt) ∧ W0.cell? ⟨w.heap.size, 4, none⟩ = some (.bool fl) ∧ Below Wb.heap.size Wb W0) → ((W0.drewN k).cell? ⟨w.heap.size, 0, none⟩ = some (.int .i64 len) ∧ (W0.drewN k).cell? ⟨w.heap.size, 1, none⟩ = some (.float .f32 f) ∧ (W0.drewN k).cell? ⟨w.heap.size, 2, none⟩ = some (.float .f32 d) ∧ (W0.drewN k).cell? ⟨w.heap.size, 3, none⟩ = some (.float .f32 wt) ∧ (W0.drewN k).cell? ⟨w.heap.size, 4, none⟩ = some (.bool fl) ∧ Below Wb.heap.size Wb (W0.drewN k)) := fun W0 k ⟨a0_, a1_, a2_, a3_, a4_, aB_⟩ => ⟨a0_, a1_, a2_, a3_, a4_, below_drewN aB_ k⟩
      have ST : ∀ W0 W2, (W0.cell? ⟨w.heap.size, 0, none⟩ = some (.int .i64 len) ∧ W0.cell? ⟨w.heap.size, 1, none⟩ = some (.float .f32 f) ∧ W0.cell? ⟨w.heap.size, 2, none⟩ = some (.float .f32 d) ∧ W0.cell? ⟨w.heap.size, 3, none⟩ = some (.float .f32 wt) ∧ W0.cell? ⟨w.heap.size, 4, none⟩ = some (.bool fl) ∧ Below Wb.heap.size Wb W0) → Below W0.heap.size W0 W2 → (W2.cell? ⟨w.heap.size, 0, none⟩ = some (.int .i64 len) ∧ W2.cell? ⟨w.heap.size, 1, none⟩ = some (.float .f32 f) ∧ W2.cell? ⟨w.heap.size, 2, none⟩ = some (.float .f32 d) ∧ W2.cell? ⟨w.heap.size, 3, none⟩ = some (.float .f32 wt) ∧ W2.cell? ⟨w.heap.size, 4, none⟩ = some (.bool fl) ∧ Below Wb.heap.size Wb W2) := fun W0 W2 ⟨a0_, a1_, a2_, a3_, a4_, aB_⟩ hb_ => ⟨(cell_below hb_ (Nat.lt_of_lt_of_le hlb aB_.size)).trans a0_, (cell_below hb_ (Nat.lt_of_lt_of_le hlb aB_.size)).trans a1_, (cell_below hb_ (Nat.lt_of_lt_of_le hlb aB_.size)).trans a2_, (cell_below hb_ (Nat.lt_of_lt_of_le hlb aB_.size)).trans a3_, (cell_below hb_ (Nat.lt_of_lt_of_le hlb aB_.size)).trans a4_, below_next aB_ aB_.size hb_⟩
      first | (go_region_with (first
        | (go_at_call 66; (with_reducible refine (CV _).mono ?_); rintro e w2 ⟨rfl, hb2⟩; first | have S2 := ST _ _ (SD _ 1 S1) hb2 | have S2 := ST _ _ (SD _ _ S1) hb2; have U2 := S2; obtain ⟨e0, e1, e2, e3, e4, -⟩ := U2)
        | (go_at_call 60; refine (impl_size _).mono ?_; rintro e w' ⟨rfl, rfl⟩))) | fail
      all_goals
        clear SD ST S1
        have hbel : Hid (Below w.heap.size w w2) := Lib.hid (by first | exact below_next (below_drewN hB0 1) (by simp [hzb]) hb2 | exact below_next (below_drewN hB0 _) (by simp [hzb]) hb2)
        clear hB0 S2 hb2
        go_wp2
        go_ret3
        exact ⟨_, _, _, _, rfl, .nil _ _ _, rfl, by simp, .nil _ _ _, rfl, by simp, .inl rfl, by first | exact hbel.out | exact below_drewN hbel.out _⟩
    · clear hf
      go_enter Try.func22, Try.ntmps22
      go_wp2_with fail
      have CV : ∀ W, Calls Try.prog 66 #[.agg #[.int .i64 len, .float .f32 f, .float .f32 d, .float .f32 wt, .bool fl]] W (RV (.bool true) W) := fun W => by rw [← h1]; exact impl_ValidDelay _ _ _ _ _ _
      obtain ⟨Wb, hWb⟩ : ∃ W, W = w.alloc (.cells #[.int .i64 len, .float .f32 f, .float .f32 d, .float .f32 wt, .bool fl] 37) := ⟨_, rfl⟩
      rw [← hWb]
      have hB0 : Below w.heap.size w Wb := by rw [hWb]; exact hal _
      have hzb : Wb.heap.size = w.heap.size + 1 := by rw [hWb]; simp
      have hcb0 : Wb.cell? ⟨w.heap.size, 0, none⟩ = some (.int .i64 len) := by rw [hWb]; simp [go_sem]
      have hcb1 : Wb.cell? ⟨w.heap.size, 1, none⟩ = some (.float .f32 f) := by rw [hWb]; simp [go_sem]
      have hcb2 : Wb.cell? ⟨w.heap.size, 2, none⟩ = some (.float .f32 d) := by rw [hWb]; simp [go_sem]
      have hcb3 : Wb.cell? ⟨w.heap.size, 3, none⟩ = some (.float .f32 wt) := by rw [hWb]; simp [go_sem]
      have hcb4 : Wb.cell? ⟨w.heap.size, 4, none⟩ = some (.bool fl) := by rw [hWb]; simp [go_sem]
      have hlb : w.heap.size < Wb.heap.size := by omega
      clear hWb
      have S1 : (Wb.cell? ⟨w.heap.size, 0, none⟩ = some (.int .i64 len) ∧ Wb.cell? ⟨w.heap.size, 1, none⟩ = some (.float .f32 f) ∧ Wb.cell? ⟨w.heap.size, 2, none⟩ = some (.float .f32 d) ∧ Wb.cell? ⟨w.heap.size, 3, none⟩ = some (.float .f32 wt) ∧ Wb.cell? ⟨w.heap.size, 4, none⟩ = some (.bool fl) ∧ Below Wb.heap.size Wb Wb) := ⟨hcb0, hcb1, hcb2, hcb3, hcb4, Below.refl _ _⟩
      have SD : ∀ W0 k, (W0.cell? ⟨w.heap.size, 0, none⟩ = some (.int .i64 len) ∧ W0.cell? ⟨w.heap.size, 1, none⟩ = some (.float .f32 f) ∧ W0.cell? ⟨w.heap.size, 2, none⟩ = some (.float .f32 d) ∧ W0.cell? ⟨w.heap.size, 3, none⟩ = some (.float .f32 wt) ∧ W0.cell? ⟨w.heap.size, 4, none⟩ = some (.bool fl) ∧ Below Wb.heap.size Wb W0) → ((W0.drewN k).cell? ⟨w.heap.size, 0, none⟩ = some (.int .i64 len) ∧ (W0.drewN k).cell? ⟨w.heap.size, 1, none⟩ = some (.float .f32 f) ∧ (W0.drewN k).cell? ⟨w.heap.size, 2, none⟩ = some (.float .f32 d) ∧ (W0.drewN k).cell? ⟨w.heap.size, 3, none⟩ = some (.float .f32 wt) ∧ (W0.drewN k).cell? ⟨w.heap.size, 4, none⟩ = some (.bool fl) ∧ Below Wb.heap.size Wb (W0.drewN k)) := fun W0 k ⟨a0_, a1_, a2_, a3_, a4_, aB_⟩ => ⟨a0_, a1_, a2_, a3_, a4_, below_drewN aB_ k⟩
      have ST : ∀ W0 W2, (W0.cell? ⟨w.heap.size, 0, none⟩ = some (.int .i64 len) ∧ W0.cell? ⟨w.heap.size, 1, none⟩ = some (.float .f32 f) ∧ W0.cell? ⟨w.heap.size, 2, none⟩ = some (.float .f32 d) ∧ W0.cell? ⟨w.heap.size, 3, none⟩ = some (.float .f32 wt) ∧ W0.cell? ⟨w.heap.size, 4, none⟩ = some (.bool fl) ∧ Below Wb.heap.size Wb W0) → Below W0.heap.size W0 W2 → (W2.cell? ⟨w.heap.size, 0, none⟩ = some (.int .i64 len) ∧ W2.cell? ⟨w.heap.size, 1, none⟩ = some (.float .f32 f) ∧ W2.cell? ⟨w.heap.size, 2, none⟩ = some (.float .f32 d) ∧ W2.cell? ⟨w.heap.size, 3, none⟩ = some (.float .f32 wt) ∧ W2.cell? ⟨w.heap.size, 4, none⟩ = some (.bool fl) ∧ Below Wb.heap.size Wb W2) := fun W0 W2 ⟨a0_, a1_, a2_, a3_, a4_, aB_⟩ hb_ => ⟨(cell_below hb_ (Nat.lt_of_lt_of_le hlb aB_.size)).trans a0_, (cell_below hb_ (Nat.lt_of_lt_of_le hlb aB_.size)).trans a1_, (cell_below hb_ (Nat.lt_of_lt_of_le hlb aB_.size)).trans a2_, (cell_below hb_ (Nat.lt_of_lt_of_le hlb aB_.size)).trans a3_, (cell_below hb_ (Nat.lt_of_lt_of_le hlb aB_.size)).trans a4_, below_next aB_ aB_.size hb_⟩
      first | (go_region_with (first
        | (go_at_call 66; (with_reducible refine (CV _).mono ?_); rintro e w2 ⟨rfl, hb2⟩; first | have S2 := ST _ _ (SD _ 1 S1) hb2 | have S2 := ST _ _ (SD _ _ S1) hb2; have U2 := S2; obtain ⟨e0, e1, e2, e3, e4, -⟩ := U2)
        | (go_at_call 60; refine (impl_size _).mono ?_; rintro e w' ⟨rfl, rfl⟩))) | fail
      all_goals
        clear SD ST S1
        have hbel : Hid (Below w.heap.size w w2) := Lib.hid (by first | exact below_next (below_drewN hB0 1) (by simp [hzb]) hb2 | exact below_next (below_drewN hB0 _) (by simp [hzb]) hb2)
        clear hB0 S2 hb2
        go_wp2
        go_ret3
        exact ⟨_, _, _, _, rfl, .nil _ _ _, rfl, by simp, .nil _ _ _, rfl, by simp, .inl rfl, by first | exact hbel.out | exact below_drewN hbel.out _⟩
    · clear hf
      go_enter Try.func22, Try.ntmps22
      go_wp2_with fail
      have CV : ∀ W, Calls Try.prog 66 #[.agg #[.int .i64 (n : Int), .float .f32 f, .float .f32 d, .float .f32 wt, .bool fl]] W (RV (.bool true) W) := fun W => by rw [← h1]; exact impl_ValidDelay _ _ _ _ _ _
      have CA : ∀ W, Calls Try.prog 61 #[.slice A' m c'] W (fun e w' => e = .returned (.bool false) ∧ W = w') := fun W => by rw [← h2]; exact impl_areSamples hm _
      obtain ⟨Wb, hWb⟩ : ∃ W, W = w.alloc (.cells #[.int .i64 (n : Int), .float .f32 f, .float .f32 d, .float .f32 wt, .bool fl] 37) := ⟨_, rfl⟩
      rw [← hWb]
      have hB0 : Below w.heap.size w Wb := by rw [hWb]; exact hal _
      have hzb : Wb.heap.size = w.heap.size + 1 := by rw [hWb]; simp
      have hcb0 : Wb.cell? ⟨w.heap.size, 0, none⟩ = some (.int .i64 (n : Int)) := by rw [hWb]; simp [go_sem]
      have hcb1 : Wb.cell? ⟨w.heap.size, 1, none⟩ = some (.float .f32 f) := by rw [hWb]; simp [go_sem]
      have hcb2 : Wb.cell? ⟨w.heap.size, 2, none⟩ = some (.float .f32 d) := by rw [hWb]; simp [go_sem]
      have hcb3 : Wb.cell? ⟨w.heap.size, 3, none⟩ = some (.float .f32 wt) := by rw [hWb]; simp [go_sem]
      have hcb4 : Wb.cell? ⟨w.heap.size, 4, none⟩ = some (.bool fl) := by rw [hWb]; simp [go_sem]
      have hlb : w.heap.size < Wb.heap.size := by omega
      clear hWb
      have S1 : (Wb.cell? ⟨w.heap.size, 0, none⟩ = some (.int .i64 (n : Int)) ∧ Wb.cell? ⟨w.heap.size, 1, none⟩ = some (.float .f32 f) ∧ Wb.cell? ⟨w.heap.size, 2, none⟩ = some (.float .f32 d) ∧ Wb.cell? ⟨w.heap.size, 3, none⟩ = some (.float .f32 wt) ∧ Wb.cell? ⟨w.heap.size, 4, none⟩ = some (.bool fl) ∧ Below Wb.heap.size Wb Wb) := ⟨hcb0, hcb1, hcb2, hcb3, hcb4, Below.refl _ _⟩
      have SD : ∀ W0 k, (W0.cell? ⟨w.heap.size, 0, none⟩ = some (.int .i64 (n : Int)) ∧ W0.cell? ⟨w.heap.size, 1, none⟩ = some (.float .f32 f) ∧ W0.cell? ⟨w.heap.size, 2, none⟩ = some (.float .f32 d) ∧ W0.cell? ⟨w.heap.size, 3, none⟩ = some (.float .f32 wt) ∧ W0.cell? ⟨w.heap.size, 4, none⟩ = some (.bool fl) ∧ Below Wb.heap.size Wb W0) → ((W0.drewN k).cell? ⟨w.heap.size, 0, none⟩ = some (.int .i64 (n : Int)) ∧ (W0.drewN k).cell? ⟨w.heap.size, 1, none⟩ = some (.float .f32 f) ∧ (W0.drewN k).cell? ⟨w.heap.size, 2, none⟩ = some (.float .f32 d) ∧ (W0.drewN k).cell? ⟨w.heap.size, 3, none⟩ = some (.float .f32 wt) ∧ (W0.drewN k).cell? ⟨w.heap.size, 4, none⟩ = some (.bool fl) ∧ Below Wb.heap.size Wb (W0.drewN k)) := fun W0 k ⟨a0_, a1_, a2_, a3_, a4_, aB_⟩ => ⟨a0_, a1_, a2_, a3_, a4_, below_drewN aB_ k⟩
      have ST : ∀ W0 W2, (W0.cell? ⟨w.heap.size, 0, none⟩ = some (.int .i64 (n : Int)) ∧ W0.cell? ⟨w.heap.size, 1, none⟩ = some (.float .f32 f) ∧ W0.cell? ⟨w.heap.size, 2, none⟩ = some (.float .f32 d) ∧ W0.cell? ⟨w.heap.size, 3, none⟩ = some (.float .f32 wt) ∧ W0.cell? ⟨w.heap.size, 4, none⟩ = some (.bool fl) ∧ Below Wb.heap.size Wb W0) → Below W0.heap.size W0 W2 → (W2.cell? ⟨w.heap.size, 0, none⟩ = some (.int .i64 (n : Int)) ∧ W2.cell? ⟨w.heap.size, 1, none⟩ = some (.float .f32 f) ∧ W2.cell? ⟨w.heap.size, 2, none⟩ = some (.float .f32 d) ∧ W2.cell? ⟨w.heap.size, 3, none⟩ = some (.float .f32 wt) ∧ W2.cell? ⟨w.heap.size, 4, none⟩ = some (.bool fl) ∧ Below Wb.heap.size Wb W2) := fun W0 W2 ⟨a0_, a1_, a2_, a3_, a4_, aB_⟩ hb_ => ⟨(cell_below hb_ (Nat.lt_of_lt_of_le hlb aB_.size)).trans a0_, (cell_below hb_ (Nat.lt_of_lt_of_le hlb aB_.size)).trans a1_, (cell_below hb_ (Nat.lt_of_lt_of_le hlb aB_.size)).trans a2_, (cell_below hb_ (Nat.lt_of_lt_of_le hlb aB_.size)).trans a3_, (cell_below hb_ (Nat.lt_of_lt_of_le hlb aB_.size)).trans a4_, below_next aB_ aB_.size hb_⟩
      go_region_held3 (fun W0 => W0.cell? ⟨w.heap.size, 0, none⟩ = some (.int .i64 (n : Int)) ∧ W0.cell? ⟨w.heap.size, 1, none⟩ = some (.float .f32 f) ∧ W0.cell? ⟨w.heap.size, 2, none⟩ = some (.float .f32 d) ∧ W0.cell? ⟨w.heap.size, 3, none⟩ = some (.float .f32 wt) ∧ W0.cell? ⟨w.heap.size, 4, none⟩ = some (.bool fl) ∧ Below Wb.heap.size Wb W0)
        (first | exact SD _ 1 S1 | exact SD _ _ S1 | exact S2 | exact SD _ _ S2)
        (first
          | (go_at_call 66; (with_reducible refine (CV _).mono ?_); rintro e w2 ⟨rfl, hb2⟩; first | have S2 := ST _ _ (SD _ 1 S1) hb2 | have S2 := ST _ _ (SD _ _ S1) hb2)
          | (go_at_call 60; refine (impl_size _).mono ?_; rintro e w' ⟨rfl, rfl⟩)
          | (go_at_call 61; (with_reducible refine (CA _).mono ?_); rintro e w' ⟨rfl, rfl⟩))
      all_goals
        clear SD ST S1
        have hbel : Hid (Below w.heap.size w w2) := Lib.hid (by first | exact below_next (below_drewN hB0 1) (by simp [hzb]) hb2 | exact below_next (below_drewN hB0 _) (by simp [hzb]) hb2)
        clear hB0 S2 hb2
        go_wp2
        go_ret3
        exact ⟨_, _, _, _, rfl, .nil _ _ _, rfl, by simp, .nil _ _ _, rfl, by simp, .inl rfl, by first | exact hbel.out | exact below_drewN hbel.out _⟩
  · obtain ⟨h1, rfl, hn0, hn64, h3⟩ := line_ok hf
    clear hf
    go_enter Try.func22, Try.ntmps22
    go_wp2_with fail
    have CV : ∀ W, Calls Try.prog 66 #[.agg #[.int .i64 (n : Int), .float .f32 f, .float .f32 d, .float .f32 wt, .bool fl]] W (RV (.bool true) W) := fun W => by rw [← h1]; exact impl_ValidDelay _ _ _ _ _ _
    have CA : ∀ W, Calls Try.prog 61 #[.slice A' m c'] W (fun e w' => e = .returned (.bool true) ∧ W = w') := fun W => by rw [← h3]; exact impl_areSamples hm _
    obtain ⟨Wb, hWb⟩ : ∃ W, W = w.alloc (.cells #[.int .i64 (n : Int), .float .f32 f, .float .f32 d, .float .f32 wt, .bool fl] 37) := ⟨_, rfl⟩
    rw [← hWb]
    have hB0 : Below w.heap.size w Wb := by rw [hWb]; exact hal _
    have hzb : Wb.heap.size = w.heap.size + 1 := by rw [hWb]; simp
    have hcb0 : Wb.cell? ⟨w.heap.size, 0, none⟩ = some (.int .i64 (n : Int)) := by rw [hWb]; simp [go_sem]
    have hcb1 : Wb.cell? ⟨w.heap.size, 1, none⟩ = some (.float .f32 f) := by rw [hWb]; simp [go_sem]
    have hcb2 : Wb.cell? ⟨w.heap.size, 2, none⟩ = some (.float .f32 d) := by rw [hWb]; simp [go_sem]
    have hcb3 : Wb.cell? ⟨w.heap.size, 3, none⟩ = some (.float .f32 wt) := by rw [hWb]; simp [go_sem]
    have hcb4 : Wb.cell? ⟨w.heap.size, 4, none⟩ = some (.bool fl) := by rw [hWb]; simp [go_sem]
    have hlb : w.heap.size < Wb.heap.size := by omega
    clear hWb
    have S1 : (Wb.cell? ⟨w.heap.size, 0, none⟩ = some (.int .i64 (n : Int)) ∧ Wb.cell? ⟨w.heap.size, 1, none⟩ = some (.float .f32 f) ∧ Wb.cell? ⟨w.heap.size, 2, none⟩ = some (.float .f32 d) ∧ Wb.cell? ⟨w.heap.size, 3, none⟩ = some (.float .f32 wt) ∧ Wb.cell? ⟨w.heap.size, 4, none⟩ = some (.bool fl) ∧ Below Wb.heap.size Wb Wb) := ⟨hcb0, hcb1, hcb2, hcb3, hcb4, Below.refl _ _⟩
    have SD : ∀ W0 k, (W0.cell? ⟨w.heap.size, 0, none⟩ = some (.int .i64 (n : Int)) ∧ W0.cell? ⟨w.heap.size, 1, none⟩ = some (.float .f32 f) ∧ W0.cell? ⟨w.heap.size, 2, none⟩ = some (.float .f32 d) ∧ W0.cell? ⟨w.heap.size, 3, none⟩ = some (.float .f32 wt) ∧ W0.cell? ⟨w.heap.size, 4, none⟩ = some (.bool fl) ∧ Below Wb.heap.size Wb W0) → ((W0.drewN k).cell? ⟨w.heap.size, 0, none⟩ = some (.int .i64 (n : Int)) ∧ (W0.drewN k).cell? ⟨w.heap.size, 1, none⟩ = some (.float .f32 f) ∧ (W0.drewN k).cell? ⟨w.heap.size, 2, none⟩ = some (.float .f32 d) ∧ (W0.drewN k).cell? ⟨w.heap.size, 3, none⟩ = some (.float .f32 wt) ∧ (W0.drewN k).cell? ⟨w.heap.size, 4, none⟩ = some (.bool fl) ∧ Below Wb.heap.size Wb (W0.drewN k)) := fun W0 k ⟨a0_, a1_, a2_, a3_, a4_, aB_⟩ => ⟨a0_, a1_, a2_, a3_, a4_, below_drewN aB_ k⟩
    have ST : ∀ W0 W2, (W0.cell? ⟨w.heap.size, 0, none⟩ = some (.int .i64 (n : Int)) ∧ W0.cell? ⟨w.heap.size, 1, none⟩ = some (.float .f32 f) ∧ W0.cell? ⟨w.heap.size, 2, none⟩ = some (.float .f32 d) ∧ W0.cell? ⟨w.heap.size, 3, none⟩ = some (.float .f32 wt) ∧ W0.cell? ⟨w.heap.size, 4, none⟩ = some (.bool fl) ∧ Below Wb.heap.size Wb W0) → Below W0.heap.size W0 W2 → (W2.cell? ⟨w.heap.size, 0, none⟩ = some (.int .i64 (n : Int)) ∧ W2.cell? ⟨w.heap.size, 1, none⟩ = some (.float .f32 f) ∧ W2.cell? ⟨w.heap.size, 2, none⟩ = some (.float .f32 d) ∧ W2.cell? ⟨w.heap.size, 3, none⟩ = some (.float .f32 wt) ∧ W2.cell? ⟨w.heap.size, 4, none⟩ = some (.bool fl) ∧ Below Wb.heap.size Wb W2) := fun W0 W2 ⟨a0_, a1_, a2_, a3_, a4_, aB_⟩ hb_ => ⟨(cell_below hb_ (Nat.lt_of_lt_of_le hlb aB_.size)).trans a0_, (cell_below hb_ (Nat.lt_of_lt_of_le hlb aB_.size)).trans a1_, (cell_below hb_ (Nat.lt_of_lt_of_le hlb aB_.size)).trans a2_, (cell_below hb_ (Nat.lt_of_lt_of_le hlb aB_.size)).trans a3_, (cell_below hb_ (Nat.lt_of_lt_of_le hlb aB_.size)).trans a4_, below_next aB_ aB_.size hb_⟩
    go_region_held3 (fun W0 => W0.cell? ⟨w.heap.size, 0, none⟩ = some (.int .i64 (n : Int)) ∧ W0.cell? ⟨w.heap.size, 1, none⟩ = some (.float .f32 f) ∧ W0.cell? ⟨w.heap.size, 2, none⟩ = some (.float .f32 d) ∧ W0.cell? ⟨w.heap.size, 3, none⟩ = some (.float .f32 wt) ∧ W0.cell? ⟨w.heap.size, 4, none⟩ = some (.bool fl) ∧ Below Wb.heap.size Wb W0)
      (first | exact SD _ 1 S1 | exact SD _ _ S1 | exact S2 | exact SD _ _ S2)
      (first
        | (go_at_call 66; (with_reducible refine (CV _).mono ?_); rintro e w2 ⟨rfl, hb2⟩; first | have S2 := ST _ _ (SD _ 1 S1) hb2 | have S2 := ST _ _ (SD _ _ S1) hb2)
        | (go_at_call 60; refine (impl_size _).mono ?_; rintro e w' ⟨rfl, rfl⟩)
        | (go_at_call 61; (with_reducible refine (CA _).mono ?_); rintro e w' ⟨rfl, rfl⟩))
    all_goals
      clear SD ST S1
      have hbel : Below w.heap.size w w2 := by first | exact below_next (below_drewN hB0 1) (by simp [hzb]) hb2 | exact below_next (below_drewN hB0 _) (by simp [hzb]) hb2
      obtain ⟨hd0, hd1, hd2, hd3, hd4, -⟩ := S2
      have hsz2 : Wb.heap.size ≤ w2.heap.size := by have := hb2.size; simpa using this
      have hlb2 : w.heap.size < w2.heap.size := by omega
      have hr0 := h.below hbel
      have hr' := h'.below hbel
      have HX := Lib.hid h.len
      have HM := Lib.hid h'.len
      clear hb2 hB0 hcb0 hcb1 hcb2 hcb3 hcb4 hlb hzb hsz2 CV CA h h' h1 h3 hal
      go_wp2_with fail
      refine (impl_copyNumbers _ hr0 hn).mono ?_
      rintro e W1 ⟨v0, rfl, ho0, hb1⟩
      have hs1 := hb1.size
      clear hr0
      go_wp2_with fail
      go_loopw [9, 10, 35] (fun u v i w' => ∃ k zs ls c0 A0, k ≤ m ∧ i = .int .i64 (k : Nat) ∧ u = .slice A0 n c0 ∧ Of w' w2.heap.size v zs ∧ Of w' w2.heap.size (.slice A0 n c0) ls ∧ (v.ownBlock = none ∨ v.ownBlock ≠ (Value.slice A0 n c0).ownBlock) ∧ Hid (clss zs = (dlyT F D W fl (clss xs) ((clss ys).take k)).1 ∧ clss ls = (dlyT F D W fl (clss xs) ((clss ys).take k)).2 ∧ ls.length = n) ∧ Below w2.heap.size w2 w') (fun _ _ i _ => m - (intOf i).toNat)
      case atStart =>
        obtain ⟨A0, c0, rfl⟩ := ho0.shape_n HX.out
        exact ⟨0, [], xs, c0, A0, Nat.zero_le _, rfl, rfl, .nil _ _ _, ho0, .inl rfl, Lib.hid ⟨rfl, rfl, HX.out⟩, hb1⟩
      case round =>
        obtain ⟨k, zs, ls, c0, A0, hk, rfl, rfl, ho, hoL, hap, hz, hb⟩ := hrel
        have hsz := hb.size
        by_cases hlt : k < m
        · obtain ⟨ad, x, X, rfl, hc, hx, hxk, hX⟩ := (hr'.below hb).at_ hlt
          have hzl := len_of hz.out.1 (m := 1048576) (by rw [dlyT_len, List.length_take]; omega)
          have hst : dlyT F D W fl (clss xs) ((clss ys).take (k + 1)) = dlyS F D W fl (dlyT F D W fl (clss xs) ((clss ys).take k)) X := by rw [clss_snoc hX, dlyT_snoc]
          have HS := Lib.hid hst
          have hce0 := (cell_below (o := 0) hb hlb2).trans hd0
          have hce1 := (cell_below (o := 1) hb hlb2).trans hd1
          have hce2 := (cell_below (o := 2) hb hlb2).trans hd2
          have hce3 := (cell_below (o := 3) hb hlb2).trans hd3
          have hce4 := (cell_below (o := 4) hb hlb2).trans hd4
          clear hst hX hr' ho0 hb1
          go_wp2_with fail
          refine (impl_Delay_step _ (hoL.rd hz.out.2.2) (hoL.cap_n hz.out.2.2) hn0 hn hf hd hw hx).mono ?_
          rintro e w4 ⟨r, u1, ls1, rfl, hr, hoL1, hcl, hgr⟩
          have ho1 := ho.below hgr
          have hb1 := below_next hb hsz hgr
          have hsz1 := hb1.size
          have hll : ls1.length = n := by have := congrArg List.length hcl; rw [clss_length] at this; rw [this]; simp [clss_length, hz.out.2.2]; omega
          obtain ⟨A1, c1, rfl⟩ := hoL1.shape_n hll
          have hd1 := fresh_apart hoL1.base ho.lt
          have hoL2 := hoL1.low hsz
          have HLL := Lib.hid hll
          have HC := Lib.hid hcl
          clear hgr ho hoL hb hce0 hce1 hce2 hce3 hce4 hsz hll hcl hoL1 hap
          go_wp2_with (at_builtin; refine ap_float w2.heap.size rfl _ _ 25 22 rfl Try.underlying25 info_f32 _ zs r rfl rfl (by exact ho1) hr.wf (by exact hb1) (by omega) (by omega) ?_; intro v1 w3 ho3 hb3 hg3 hat)
          refine ⟨⟨k + 1, _, ls1, c1, A1, by omega, by go_num, rfl, ho3, hoL2.other hg3 (ne_swap hd1), apart_new hd1 hat hoL2.lt, Lib.hid ⟨?_, ?_, HLL.out⟩, hb3⟩, by simp [intOf]; omega⟩
          · rw [HS.out, dlyS]; dsimp only; rw [← hz.out.1, ← hz.out.2.1]; exact clss_push rfl hr
          · rw [HS.out, dlyS]; dsimp only; rw [← hz.out.2.1]; exact HC.out
        · go_wp2
          go_ret3
          have hz1 := hz.out
          rw [clss_all HM.out hk hlt] at hz1
          exact ⟨_, _, _, _, rfl, ho.low (Nat.le_of_lt hlb2), hz1.1, len_of hz1.1 (by rw [dlyT_len, clss_length, HM.out]; exact hm), hoL.low (Nat.le_of_lt hlb2), hz1.2.1, by have := hz1.2.2; omega, hap, below_next hbel (Nat.le_of_lt hlb2) hb⟩
end Go.Proofs.Ytbaokmapgdnhlaa
