/- The walks over slices of samples, first part: copies, comparisons, marks, sums. Conditions: none beside the contracts' own. -/
import Derived.Test.YtajnncidkmafgaaDoorRows
import Derived.Test.YtajnncidkmafgaaDoorS
import Derived.Test.YtajnncidkmafgaaDoorRow
import Derived.Deep.QuietTactic
import Derived.BigQuiet
import Derived.Deep.RegionWith
import Derived.RegionTactic
import Derived.Deep.RegionLaw
set_option linter.unusedVariables false
set_option linter.unusedSimpArgs false
namespace Go.Proofs.YtajnncidkmafgaaDoor
open Go.RowKit

def sumC (l : List (Option Nat)) : Option Nat := l.foldl fadd (some 0)
theorem sumC_snoc (l : List (Option Nat)) (x : Option Nat) : sumC (l ++ [x]) = fadd (sumC l) x := by simp [sumC]
theorem clss_snoc {xs : List Nat} {k : Nat} {X : Option Nat} (h : (clss xs)[k]? = some X) : (clss xs).take (k + 1) = (clss xs).take k ++ [X] := by
  obtain ⟨hk, rfl⟩ := List.getElem?_eq_some_iff.1 h
  exact take_snoc _ _ hk
theorem clss_all {xs : List Nat} {n k : Nat} (hl : xs.length = n) (h1 : k ≤ n) (h2 : ¬ k < n) : (clss xs).take k = clss xs := List.take_of_length_le (by rw [clss_length]; omega)
/-! ### Copies -/
theorem info_f32 : (Tryd.prog.info? 50).map (fun i => (i.zero, i.size, i.bytes)) = some (some (.float .f32 0), 1, 4) := by kernel_rfl
abbrev Of (w : World) (B : Nat) (v : Value) (xs : List Nat) : Prop := Ow 50 w B v xs
theorem fill_step {xs : List Nat} {n k x : Nat} (hl : xs.length = n) (hk : k < n) (hx : xs[k]? = some x) : (xs.take k ++ List.replicate (n - k) 0).set k x = xs.take (k + 1) ++ List.replicate (n - (k + 1)) 0 := by
  obtain ⟨h1, rfl⟩ := List.getElem?_eq_some_iff.1 hx
  have hlen : (xs.take k).length = k := by rw [List.length_take]; omega
  rw [List.set_append_right _ _ (by omega), hlen, Nat.sub_self, show n - k = (n - (k + 1)) + 1 by omega, List.replicate_succ, take_snoc xs k h1, List.append_assoc]
  rfl
theorem fill_get {xs : List Nat} {n k : Nat} (hl : xs.length = n) (hk : k < n) : (xs.take k ++ List.replicate (n - k) 0)[k]? = some 0 := by
  have hlen : (xs.take k).length = k := by rw [List.length_take]; omega
  rw [List.getElem?_append_right (by omega), hlen, Nat.sub_self, List.getElem?_replicate]
  simp; omega
theorem fill_len {xs : List Nat} {n k : Nat} (hl : xs.length = n) (hk : k ≤ n) : (xs.take k ++ List.replicate (n - k) 0).length = n := by
  rw [List.length_append, List.length_take, List.length_replicate]; omega
theorem Ow.cell {e : TypeId} {W : World} {base g n cap : Nat} {xs : List Nat} (h : Ow e W base (.slice (some ⟨g, 0, none⟩) n cap) xs) {i x : Nat} (hx : xs[i]? = some x) : W.cell? ⟨g, i, none⟩ = some (.float .f32 x) := by
  have := h.own.cells (g := g) rfl i (.float .f32 x) (by rw [flts_get, hx]; rfl)
  rwa [add_plain] at this
set_option maxHeartbeats 400000 in
theorem laws_eqFloat32S {A B : Option Addr} {n m c d : Nat} {xs ys : List Nat} (w : World) (h : Rd w A n xs) (h' : Rd w B m ys) (he : clss xs = clss ys) (hn : n ≤ 1073741824) :
    Calls Tryd.prog 22 #[.slice A n c, .slice B m d] w (RB true w) := by
  obtain rfl : n = m := by rw [← h.len, ← h'.len, ← clss_length, he, clss_length]
  have HE := Lib.hid he
  clear he
  go_enter Tryd.func22, Tryd.ntmps22
  go_wp2
  go_loopw [5] (fun i w' => ∃ k q, k ≤ n ∧ i = .int .i64 (k : Nat) ∧ w' = w.drewN q) (fun i _ => n - (intOf i).toNat)
  case atStart => exact ⟨0, 0, Nat.zero_le _, rfl, rfl⟩
  case round =>
    obtain ⟨k, q, hk, rfl, rfl⟩ := hrel
    by_cases hlt : k < n
    · obtain ⟨ad, x, X, rfl, hc, hx, _, hX⟩ := h.at_ hlt
      obtain ⟨bd, y, Y, rfl, hc', hy, _, hY⟩ := h'.at_ hlt
      obtain rfl : X = Y := by rw [HE.out, hY] at hX; exact (Option.some.inj hX).symm
      clear hX hY h h'
      go_wp2
      go_region_with (go_at_call 38; refine (laws_sameFloat (hx.cw _) (hy.cw _) _).mono ?_; rintro e w' ⟨rfl, n_, rfl⟩)
      all_goals trace "one"
      all_goals go_wp2
      all_goals exact ⟨⟨k + 1, _, by omega, by go_num, rfl⟩, by simp [intOf]; omega⟩
    · go_wp2
      go_ret
      exact ⟨rfl, _, rfl⟩

/-! ### Marks -/
def marks (k : Int) (n : Nat) : List Nat := (List.range n).map fun (i : Nat) => floatOfInt .f32 (k + (i : Int))
theorem marks_length (k : Int) (n : Nat) : (marks k n).length = n := by simp [marks]
theorem marks_get {k : Int} {n i : Nat} (h : i < n) : (marks k n)[i]? = some (floatOfInt .f32 (k + (i : Int))) := by simp [marks, h]
theorem intF_fl (n : Int) : Fl .f32 (floatOfInt .f32 n) (some (floatOfInt .f32 n)) := by
  refine .of_lit ?_ ?_
  · show FloatKind.f32.format.write (.number (n < 0) n.natAbs 0) < _
    exact Ieee.Format.write_lt _ _
  · show (FloatKind.f32.format.read (FloatKind.f32.format.write (.number (n < 0) n.natAbs 0))).isNaN = false
    exact write_not_nan _ rfl
theorem mark_step {xs : List Nat} {n i : Nat} {k : Int} (hl : xs.length = n) (hi : i < n) : ((marks k n).take i ++ xs.drop i).set i (floatOfInt .f32 (k + (i : Int))) = (marks k n).take (i + 1) ++ xs.drop (i + 1) := by
  have hm : i < (marks k n).length := by rw [marks_length]; exact hi
  have hlen : ((marks k n).take i).length = i := by rw [List.length_take]; omega
  have hd : xs.drop i = xs[i]'(by omega) :: xs.drop (i + 1) := List.drop_eq_getElem_cons (by omega)
  have hg : (marks k n)[i] = floatOfInt .f32 (k + (i : Int)) := by
    have := marks_get (k := k) hi
    rw [List.getElem?_eq_getElem hm] at this
    exact Option.some.inj this
  rw [List.set_append_right _ _ (by omega), hlen, Nat.sub_self, hd, take_snoc _ i hm, hg, List.append_assoc]
  rfl
theorem mark_get {xs : List Nat} {n i : Nat} {k : Int} (hl : xs.length = n) (hi : i < n) : ((marks k n).take i ++ xs.drop i)[i]? = some (xs[i]'(by omega)) := by
  have hm : i < (marks k n).length := by rw [marks_length]; exact hi
  have hlen : ((marks k n).take i).length = i := by rw [List.length_take]; omega
  rw [List.getElem?_append_right (by omega), hlen, Nat.sub_self, List.getElem?_drop]
  simp
theorem mark_len {xs : List Nat} {n i : Nat} {k : Int} (hl : xs.length = n) (hi : i ≤ n) : ((marks k n).take i ++ xs.drop i).length = n := by
  rw [List.length_append, List.length_take, marks_length, List.length_drop]; omega
theorem Ow.form {e : TypeId} {W : World} {B n c : Nat} {A : Option Addr} {xs : List Nat} (h : Ow e W B (.slice A n c) xs) (hl : xs.length = n) (hn : 0 < n) : ∃ g, A = some ⟨g, 0, none⟩ ∧ B ≤ g := by
  subst hl
  obtain ⟨g, cap, hv, hb, _⟩ := h.own.form hn
  injection hv with hA
  exact ⟨g, hA, hb⟩
set_option maxHeartbeats 400000 in
theorem laws_markFloat32S {A : Option Addr} {n c B : Nat} {xs : List Nat} {k : Int} (w : World) (h : Of w B (.slice A n c) xs) (hl : xs.length = n) (hn : n ≤ 1048576) (h0 : 0 ≤ k) (h1 : k ≤ 1073741824) :
    Calls Tryd.prog 23 #[.slice A n c, .int .i64 k] w fun e w' => e = .returned (.int .i64 (k + (n : Int))) ∧ Of w' B (.slice A n c) (marks k n) ∧ w.grownBy w' (Value.slice A n c).ownBlock := by
  go_enter Tryd.func23, Tryd.ntmps23
  go_wp2
  go_loopw [1, 5] (fun q i w' => ∃ j, j ≤ n ∧ i = .int .i64 (j : Nat) ∧ q = .int .i64 (k + (j : Int)) ∧ Of w' B (.slice A n c) ((marks k n).take j ++ xs.drop j) ∧ w.grownBy w' (Value.slice A n c).ownBlock) (fun _ i _ => n - (intOf i).toNat)
  case atStart => exact ⟨0, Nat.zero_le _, rfl, by simp, by simpa using h, World.grownBy.refl _ _⟩
  case round =>
    obtain ⟨j, hj, rfl, rfl, ho, hg⟩ := hrel
    by_cases hlt : j < n
    · obtain ⟨g, rfl, _⟩ := h.form hl (by omega)
      have hcs := ho.cell (mark_get hl hlt)
      have hfr := ho.free j
      obtain ⟨ho1, hg1⟩ := ho.store (mark_len hl hj) j (floatOfInt .f32 (k + (j : Int))) (intF_fl _).wf
      rw [mark_step hl hlt] at ho1
      have HO := Lib.hid ho1
      have HG := Lib.hid (hg.trans (by simpa [Value.ownBlock] using hg1))
      clear ho ho1 hg1 h hg
      go_wp2
      exact ⟨⟨j + 1, by omega, by go_num, by go_num, HO.out, HG.out⟩, by simp [intOf]; omega⟩
    · go_wp2
      go_ret
      obtain rfl : j = n := by omega
      exact ⟨rfl, by have := ho; rwa [List.take_of_length_le (by rw [marks_length]; omega), List.drop_of_length_le (by omega), List.append_nil] at this, hg⟩
set_option maxHeartbeats 400000 in
theorem laws_heldFloat32S {A : Option Addr} {n c : Nat} {k : Int} (w : World) (h : Rd w A n (marks k n)) (hn : n ≤ 1048576) (h0 : 0 ≤ k) (h1 : k ≤ 1073741824) :
    Calls Tryd.prog 24 #[.slice A n c, .int .i64 k] w fun e w' => e = .returned (.int .i64 (k + (n : Int))) ∧ w = w' := by
  go_enter Tryd.func24, Tryd.ntmps24
  go_wp2
  go_loop [1, 5] (fun q i => ∃ j, j ≤ n ∧ i = .int .i64 (j : Nat) ∧ q = .int .i64 (k + (j : Int))) (fun _ i => n - (intOf i).toNat)
  case atStart => exact ⟨0, Nat.zero_le _, rfl, by simp⟩
  case round =>
    obtain ⟨j, hj, rfl, rfl⟩ := hrel
    by_cases hlt : j < n
    · obtain ⟨ad, x, X, rfl, hc, hx, hxk, hX⟩ := h.at_ hlt
      rw [marks_get hlt] at hxk
      obtain rfl := Option.some.inj hxk
      have hs := ord_num (intF_fl (k + (j : Int))).not_nan
      clear hX hx h hxk
      go_wp2
      exact ⟨⟨j + 1, by omega, by go_num, by go_num⟩, by simp [intOf]; omega⟩
    · go_wp2
      go_ret
      obtain rfl : j = n := by omega
      exact ⟨rfl, rfl⟩

/-! ### Products -/
theorem clss_push {zs : List Nat} {L : List (Option Nat)} {z : Nat} {Z : Option Nat} (h : clss zs = L) (hz : Fl .f32 z Z) : clss (zs ++ [z]) = L ++ [Z] := by
  rw [clss_append, h]; simp [clss, hz.cl]
theorem map_snoc {xs : List Nat} {k : Nat} {X : Option Nat} (f : Option Nat → Option Nat) (h : (clss xs)[k]? = some X) : ((clss xs).take (k + 1)).map f = ((clss xs).take k).map f ++ [f X] := by
  rw [clss_snoc h, List.map_append]; rfl
/-- A new slice of floats of these classes. -/
def RO (Zs : List (Option Nat)) (w : World) (e : Ending) (w' : World) : Prop := ∃ v zs, e = .returned v ∧ Of w' w.heap.size v zs ∧ clss zs = Zs ∧ Below w.heap.size w w'
theorem len_of {zs : List Nat} {L : List (Option Nat)} {m : Nat} (h : clss zs = L) (hl : L.length ≤ m) : zs.length ≤ m := by
  have := congrArg List.length h
  rw [clss_length] at this; omega
end Go.Proofs.YtajnncidkmafgaaDoor
