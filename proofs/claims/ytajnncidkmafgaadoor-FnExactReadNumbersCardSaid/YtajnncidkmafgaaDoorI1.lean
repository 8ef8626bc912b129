/- Slices of whole numbers in memory: read, owned, copied, compared, marked. Conditions: none beside the contracts' own. -/
import Derived.Test.YtajnncidkmafgaaDoorW3
import Derived.Handy
set_option linter.unusedVariables false
set_option linter.unusedSimpArgs false
namespace Go.Proofs.YtajnncidkmafgaaDoor
open Go.RowKit
def intv (xs : List Int) : List Value := xs.map fun x => .int .i64 x
theorem intv_length (xs : List Int) : (intv xs).length = xs.length := by simp [intv]
theorem intv_get (xs : List Int) (j : Nat) : (intv xs)[j]? = (xs[j]?).map fun x => .int .i64 x := by simp [intv]
/-- A slice of whole numbers that is read. -/
structure RdI (w : World) (A : Option Addr) (n : Nat) (xs : List Int) : Prop where
  len : xs.length = n
  most : n ≤ maxLen
  cell : ∀ j x, xs[j]? = some x → ∃ ad, A = some ad ∧ w.cell? (ad.add j) = some (.int .i64 x)
theorem RdI.at_ {w : World} {A : Option Addr} {n : Nat} {xs : List Int} (h : RdI w A n xs) {k : Nat} (hk : k < n) : ∃ ad x, A = some ad ∧ w.cell? (ad.add k) = some (.int .i64 x) ∧ xs[k]? = some x := by
  have hl : k < xs.length := by rw [h.len]; exact hk
  have hx : xs[k]? = some xs[k] := List.getElem?_eq_getElem hl
  obtain ⟨ad, e, hc⟩ := h.cell k _ hx
  exact ⟨ad, xs[k], e, hc, hx⟩
theorem RdI.below {w w' : World} {A : Option Addr} {n : Nat} {xs : List Int} (h : RdI w A n xs) (hb : Below w.heap.size w w') : RdI w' A n xs :=
  ⟨h.len, h.most, fun j x hx => by
    obtain ⟨ad, e, hc⟩ := h.cell j x hx
    exact ⟨ad, e, (hb.cell (World.block_lt_of_cell? w _ hc)).trans hc⟩⟩
theorem RdI.nil (w : World) : RdI w none 0 [] := ⟨rfl, Nat.zero_le _, fun j x h => by simp at h⟩
/-- A row of whole numbers of the call's own. -/
structure OwI (e : TypeId) (w : World) (B : Nat) (v : Value) (xs : List Int) : Prop where
  own : w.ownsRow B e 1 v xs.length (intv xs)
section
variable {e : TypeId} {w w' : World} {B : Nat} {v : Value} {xs : List Int}
theorem OwI.nil (w : World) (B : Nat) (e : TypeId) : OwI e w B (.slice none 0 0) [] := ⟨⟨by simp [intv], .inl ⟨rfl, rfl⟩⟩⟩
theorem OwI.below (h : OwI e w B v xs) (hb : Below w.heap.size w w') : OwI e w' B v xs :=
  ⟨h.own.kept (⟨hb.os, hb.tape, hb.output, hb.size, fun i hi _ => hb.block i hi⟩ : w.grownBy w' none) (by cases v.ownBlock <;> simp)⟩
theorem OwI.drewN (h : OwI e w B v xs) (k : Nat) : OwI e (w.drewN k) B v xs := h.below (below_draws w k)
theorem OwI.other (h : OwI e w B v xs) {row : Option Nat} (hg : w.grownBy w' row) (hne : v.ownBlock = none ∨ v.ownBlock ≠ row) : OwI e w' B v xs := ⟨h.own.kept hg hne⟩
theorem OwI.base (h : OwI e w B v xs) (k : Nat) (hk : v.ownBlock = some k) : B ≤ k := by
  rcases h.own.2 with ⟨rfl, _⟩ | ⟨g, cap, cur, rfl, hb, _⟩
  · simp [Value.ownBlock] at hk
  · have : g = k := by simpa [Value.ownBlock] using hk
    omega
theorem OwI.lt (h : OwI e w B v xs) (k : Nat) (hk : v.ownBlock = some k) : k < w.heap.size := by
  rcases h.own.2 with ⟨rfl, _⟩ | ⟨g, cap, cur, rfl, hb, hh, _⟩
  · simp [Value.ownBlock] at hk
  · have : g = k := by simpa [Value.ownBlock] using hk
    subst this
    exact (Array.getElem?_eq_some_iff.1 hh).1
theorem OwI.reads (h : OwI e w B v xs) : ∃ A c, v = .slice A xs.length c ∧ RdI w A xs.length xs := by
  rcases Nat.eq_zero_or_pos xs.length with h0 | h0
  · have hx : xs = [] := List.eq_nil_of_length_eq_zero h0
    subst hx
    rcases h.own.2 with ⟨rfl, _⟩ | ⟨g, cap, cur, rfl, _⟩
    · exact ⟨none, 0, rfl, .nil w⟩
    · exact ⟨_, cap, rfl, ⟨rfl, Nat.zero_le _, fun j x h => by simp at h⟩⟩
  · obtain ⟨g, cap, rfl, _, _⟩ := h.own.form h0
    have hm : xs.length ≤ maxLen := by
      rcases h.own.2 with ⟨_, h1⟩ | ⟨g', cap', cur, he, _, _, h1, h2, _⟩
      · omega
      · omega
    refine ⟨_, cap, rfl, ⟨rfl, hm, fun j x hx => ⟨_, rfl, h.own.cells (g := g) rfl j _ (by rw [intv_get, hx]; rfl)⟩⟩⟩
theorem OwI.shape (h : OwI e w B v xs) : ∃ A c, v = .slice A xs.length c := by
  obtain ⟨A, c, hv, _⟩ := h.reads
  exact ⟨A, c, hv⟩
theorem OwI.shape_n {n : Nat} (h : OwI e w B v xs) (hl : xs.length = n) : ∃ A c, v = .slice A n c := by
  subst hl; exact h.shape
theorem OwI.rd {n c : Nat} {A : Option Addr} (h : OwI e w B (.slice A n c) xs) (hl : xs.length = n) : RdI w A n xs := by
  subst hl
  obtain ⟨A', c', hv, hr⟩ := h.reads
  injection hv with h1 h2 h3
  subst h1
  exact hr
theorem OwI.put (h : OwI e w B v xs) {a : Addr} (ha : a.block < B) (u : Value) : OwI e (w.setCell a u) B v xs := ⟨ownsRow_setCell_below h.own ha u⟩
theorem OwI.form {n c : Nat} {A : Option Addr} (h : OwI e w B (.slice A n c) xs) (hl : xs.length = n) (hn : 0 < n) : ∃ g, A = some ⟨g, 0, none⟩ ∧ B ≤ g := by
  subst hl
  obtain ⟨g, cap, hv, hb, _⟩ := h.own.form hn
  injection hv with hA
  exact ⟨g, hA, hb⟩
theorem OwI.cell {g n cap : Nat} (h : OwI e w B (.slice (some ⟨g, 0, none⟩) n cap) xs) {i : Nat} {x : Int} (hx : xs[i]? = some x) : w.cell? ⟨g, i, none⟩ = some (.int .i64 x) := by
  have := h.own.cells (g := g) rfl i (.int .i64 x) (by rw [intv_get, hx]; rfl)
  rwa [add_plain] at this
theorem OwI.store {g n cap : Nat} (h : OwI e w B (.slice (some ⟨g, 0, none⟩) n cap) xs) (hn : xs.length = n) (i : Nat) (x : Int) :
    OwI e (w.setCell ⟨g, i, none⟩ (.int .i64 x)) B (.slice (some ⟨g, 0, none⟩) n cap) (xs.set i x) ∧ w.grownBy (w.setCell ⟨g, i, none⟩ (.int .i64 x)) (some g) := by
  subst hn
  have hs := h.own.stored i (.int .i64 x)
  have he : (intv xs).set i (.int .i64 x) = intv (xs.set i x) := by simp [intv, List.map_set]
  rw [he] at hs
  exact ⟨⟨by simpa using hs.1⟩, hs.2⟩
theorem OwI.free {g n cap : Nat} (h : OwI e w B (.slice (some ⟨g, 0, none⟩) n cap) xs) (i : Nat) : w.frozen? ⟨g, i, none⟩ = false := by
  rcases h.own.2 with ⟨h', _⟩ | ⟨g', cap', cur, h', _, hh, _⟩
  · cases h'
  · have : g = g' := by injection h' with h'; injection h' with h'; injection h' with h'
    subst this
    simp [World.frozen?, hh]
end
theorem mk_int {P : Program} (t e : TypeId) (ht : P.underlying t = some (.slice e)) (hinfo : (P.info? e).map (fun i => (i.zero, i.size, i.bytes)) = some (some (.int .i64 0), 1, 8)) (k : IntKind)
    (m : Nat) (hn : m ≤ 1073741824) :
    ∀ W : World, (Instr.makeSlice t (.int k (m : Int)) (.int k (m : Int))).run P W = .ok (.slice (some ⟨W.heap.size, 0, none⟩) m m) (W.alloc (.cells (madeCells #[.int .i64 0] m) e)) := by
  intro W
  exact run_make_row' t e (.int .i64 0) 8 ht hinfo rfl k k m (by omega) (by omega) W
theorem OwI.made (W : World) (base : Nat) (e : TypeId) (m : Nat) (hb : base ≤ W.heap.size) (hm : m ≤ 1073741824) :
    OwI e (W.alloc (.cells (madeCells #[.int .i64 0] m) e)) base (.slice (some ⟨W.heap.size, 0, none⟩) m m) (List.replicate m 0) := by
  have h := World.ownsRow_lit (base := base) (e := e) (size := 1) W (madeCells #[.int .i64 0] m) m hb (by simp only [maxLen]; omega) (by simp [size_madeCells])
  have hl : (madeCells #[Value.int .i64 0] m).toList = intv (List.replicate m 0) := by
    apply List.ext_getElem
    · simp [intv, madeCells]
    · intro i h1 h2
      simp [intv, madeCells, Nat.mod_one]
  rw [hl] at h
  exact ⟨by simpa using h⟩
abbrev OfI (w : World) (B : Nat) (v : Value) (xs : List Int) : Prop := OwI 2 w B v xs
theorem info_i64 : (Tryd.prog.info? 2).map (fun i => (i.zero, i.size, i.bytes)) = some (some (.int .i64 0), 1, 8) := by kernel_rfl
theorem fillI_step {xs : List Int} {n k : Nat} {x : Int} (hl : xs.length = n) (hk : k < n) (hx : xs[k]? = some x) : (xs.take k ++ List.replicate (n - k) 0).set k x = xs.take (k + 1) ++ List.replicate (n - (k + 1)) 0 := by
  obtain ⟨h1, rfl⟩ := List.getElem?_eq_some_iff.1 hx
  have hlen : (xs.take k).length = k := by rw [List.length_take]; omega
  rw [List.set_append_right _ _ (by omega), hlen, Nat.sub_self, show n - k = (n - (k + 1)) + 1 by omega, List.replicate_succ, take_snoc xs k h1, List.append_assoc]
  rfl
theorem fillI_get {xs : List Int} {n k : Nat} (hl : xs.length = n) (hk : k < n) : (xs.take k ++ List.replicate (n - k) 0)[k]? = some 0 := by
  have hlen : (xs.take k).length = k := by rw [List.length_take]; omega
  rw [List.getElem?_append_right (by omega), hlen, Nat.sub_self, List.getElem?_replicate]
  simp; omega
theorem fillI_len {xs : List Int} {n k : Nat} (hl : xs.length = n) (hk : k ≤ n) : (xs.take k ++ List.replicate (n - k) 0).length = n := by
  rw [List.length_append, List.length_take, List.length_replicate]; omega
set_option maxHeartbeats 400000 in
theorem laws_toInt64S {A : Option Addr} {n c : Nat} {xs : List Int} (w : World) (h : RdI w A n xs) (hn : n ≤ 1048576) :
    Calls Tryd.prog 11 #[.slice A n c] w fun e w' => ∃ v, e = .returned v ∧ OfI w' w.heap.size v xs ∧ Below w.heap.size w w' := by
  have hmk := mk_int (P := Tryd.prog) 24 2 Tryd.underlying24 info_i64 .i64 n (by omega)
  go_enter Tryd.func11, Tryd.ntmps11
  go_wp2
  go_loopw [4] (fun i w' => ∃ k, k ≤ n ∧ i = .int .i64 (k : Nat) ∧ OfI w' w.heap.size (.slice (some ⟨w.heap.size, 0, none⟩) n n) (xs.take k ++ List.replicate (n - k) 0) ∧ Below w.heap.size w w') (fun i _ => n - (intOf i).toNat)
  case atStart => exact ⟨0, Nat.zero_le _, rfl, by simpa using OwI.made w w.heap.size 2 n (Nat.le_refl _) (by omega), (Below.refl _ _).alloc (Nat.le_refl _) _⟩
  case round =>
    obtain ⟨k, hk, rfl, ho, hb⟩ := hrel
    clear hmk
    by_cases hlt : k < n
    · obtain ⟨ad, x, rfl, hc, hxk⟩ := (h.below hb).at_ hlt
      have hcs := ho.cell (fillI_get h.len hlt)
      have hfr := ho.free k
      have ho' := ho.store (fillI_len h.len hk) k x
      rw [fillI_step h.len hlt hxk] at ho'
      obtain ⟨ho1, hg1⟩ := ho'
      have HO := Lib.hid ho1
      have HB := Lib.hid (hb.setCell (p := ⟨w.heap.size, k, none⟩) (Nat.le_refl _) (.int .i64 x))
      clear ho ho1 hg1
      go_wp2
      exact ⟨⟨k + 1, by omega, by go_num, HO.out, HB.out⟩, by simp [intOf]; omega⟩
    · go_wp2
      go_ret
      obtain rfl : k = n := by omega
      exact ⟨_, rfl, by have := ho; rwa [List.take_of_length_le (by rw [h.len]; omega), Nat.sub_self, List.replicate_zero, List.append_nil] at this, hb⟩
set_option maxHeartbeats 400000 in
theorem laws_eqInt64S {A B : Option Addr} {n m c d : Nat} {xs ys : List Int} (w : World) (h : RdI w A n xs) (h' : RdI w B m ys) (he : xs = ys) (hn : n ≤ 1073741824) :
    Calls Tryd.prog 13 #[.slice A n c, .slice B m d] w (RB true w) := by
  obtain rfl : n = m := by rw [← h.len, ← h'.len, he]
  have HE := Lib.hid he
  clear he
  go_enter Tryd.func13, Tryd.ntmps13
  go_wp2
  go_loopw [5] (fun i w' => ∃ k q, k ≤ n ∧ i = .int .i64 (k : Nat) ∧ w' = w.drewN q) (fun i _ => n - (intOf i).toNat)
  case atStart => exact ⟨0, 0, Nat.zero_le _, rfl, rfl⟩
  case round =>
    obtain ⟨k, q, hk, rfl, rfl⟩ := hrel
    by_cases hlt : k < n
    · obtain ⟨ad, x, rfl, hc, hX⟩ := h.at_ hlt
      obtain ⟨bd, y, rfl, hc', hY⟩ := h'.at_ hlt
      obtain rfl : x = y := by rw [HE.out, hY] at hX; exact (Option.some.inj hX).symm
      clear hX hY h h'
      go_wp2
      go_region
      all_goals go_wp2
      all_goals exact ⟨⟨k + 1, _, by omega, by go_num, rfl⟩, by simp [intOf]; omega⟩
    · go_wp2
      go_ret
      exact ⟨rfl, _, rfl⟩
def marksI (k : Int) (n : Nat) : List Int := (List.range n).map fun (i : Nat) => k + (i : Int)
theorem marksI_length (k : Int) (n : Nat) : (marksI k n).length = n := by simp [marksI]
theorem marksI_get {k : Int} {n i : Nat} (h : i < n) : (marksI k n)[i]? = some (k + (i : Int)) := by simp [marksI, h]
theorem markI_step {xs : List Int} {n i : Nat} {k : Int} (hl : xs.length = n) (hi : i < n) : ((marksI k n).take i ++ xs.drop i).set i (k + (i : Int)) = (marksI k n).take (i + 1) ++ xs.drop (i + 1) := by
  have hm : i < (marksI k n).length := by rw [marksI_length]; exact hi
  have hlen : ((marksI k n).take i).length = i := by rw [List.length_take]; omega
  have hd : xs.drop i = xs[i]'(by omega) :: xs.drop (i + 1) := List.drop_eq_getElem_cons (by omega)
  have hg : (marksI k n)[i] = k + (i : Int) := by
    have := marksI_get (k := k) hi
    rw [List.getElem?_eq_getElem hm] at this
    exact Option.some.inj this
  rw [List.set_append_right _ _ (by omega), hlen, Nat.sub_self, hd, take_snoc _ i hm, hg, List.append_assoc]
  rfl
theorem markI_get {xs : List Int} {n i : Nat} {k : Int} (hl : xs.length = n) (hi : i < n) : ((marksI k n).take i ++ xs.drop i)[i]? = some (xs[i]'(by omega)) := by
  have hm : i < (marksI k n).length := by rw [marksI_length]; exact hi
  have hlen : ((marksI k n).take i).length = i := by rw [List.length_take]; omega
  rw [List.getElem?_append_right (by omega), hlen, Nat.sub_self, List.getElem?_drop]
  simp
theorem markI_len {xs : List Int} {n i : Nat} {k : Int} (hl : xs.length = n) (hi : i ≤ n) : ((marksI k n).take i ++ xs.drop i).length = n := by
  rw [List.length_append, List.length_take, marksI_length, List.length_drop]; omega
set_option maxHeartbeats 400000 in
theorem laws_markInt64S {A : Option Addr} {n c B : Nat} {xs : List Int} {k : Int} (w : World) (h : OfI w B (.slice A n c) xs) (hl : xs.length = n) (hn : n ≤ 1048576) (h0 : 0 ≤ k) (h1 : k ≤ 1073741824) :
    Calls Tryd.prog 18 #[.slice A n c, .int .i64 k] w fun e w' => e = .returned (.int .i64 (k + (n : Int))) ∧ OfI w' B (.slice A n c) (marksI k n) ∧ w.grownBy w' (Value.slice A n c).ownBlock := by
  go_enter Tryd.func18, Tryd.ntmps18
  go_wp2
  go_loopw [1, 5] (fun q i w' => ∃ j, j ≤ n ∧ i = .int .i64 (j : Nat) ∧ q = .int .i64 (k + (j : Int)) ∧ OfI w' B (.slice A n c) ((marksI k n).take j ++ xs.drop j) ∧ w.grownBy w' (Value.slice A n c).ownBlock) (fun _ i _ => n - (intOf i).toNat)
  case atStart => exact ⟨0, Nat.zero_le _, rfl, by simp, by simpa using h, World.grownBy.refl _ _⟩
  case round =>
    obtain ⟨j, hj, rfl, rfl, ho, hg⟩ := hrel
    by_cases hlt : j < n
    · obtain ⟨g, rfl, _⟩ := h.form hl (by omega)
      have hcs := ho.cell (markI_get hl hlt)
      have hfr := ho.free j
      obtain ⟨ho1, hg1⟩ := ho.store (markI_len hl hj) j (k + (j : Int))
      rw [markI_step hl hlt] at ho1
      have HO := Lib.hid ho1
      have HG := Lib.hid (hg.trans (by simpa [Value.ownBlock] using hg1))
      clear ho ho1 hg1 h hg
      go_wp2
      exact ⟨⟨j + 1, by omega, by go_num, by go_num, HO.out, HG.out⟩, by simp [intOf]; omega⟩
    · go_wp2
      go_ret
      obtain rfl : j = n := by omega
      exact ⟨rfl, by have := ho; rwa [List.take_of_length_le (by rw [marksI_length]; omega), List.drop_of_length_le (by omega), List.append_nil] at this, hg⟩
theorem Row.rdI {w : World} {A : Option Addr} {n : Nat} {l : List Value} (h : Row w [.i64] A n l) : ∃ xs, RdI w A n xs := by
  have hlen : l.length = n := by have := h.len; simpa using this
  have key : ∀ j, j < n → ∃ x, l[j]? = some (.int .i64 x) := by
    intro j hj
    obtain ⟨u, hu, b, rfl, hb⟩ := h.kind j 0 .i64 hj rfl
    exact ⟨b, by simpa using hu⟩
  obtain ⟨F, hF⟩ := Deep.choose_lt (α := Int) (n := n) key
  refine ⟨(List.range n).map F, by simp, h.most, fun j x hx => ?_⟩
  have hj : j < n := by
    rcases Nat.lt_or_ge j n with h | h
    · exact h
    · rw [List.getElem?_eq_none (by simpa using h)] at hx; cases hx
  have e : x = F j := by simp [hj] at hx; exact hx.symm
  subst e
  exact h.cell j _ (hF j hj)
end Go.Proofs.YtajnncidkmafgaaDoor
