/- Rooms: what they come to. Conditions: none beside the contracts' own. -/
import Derived.Test.YtlenpecnfilkjaaJ1
import Derived.Deep.CutRange
import Derived.Deep.Onto
set_option linter.unusedVariables false
set_option linter.unusedSimpArgs false
namespace Go.Proofs.Ytlenpecnfilkjaa
open Go.RowKit
def intv (xs : List Int) : List Value := xs.map fun x => .int .i64 x
theorem intv_length (xs : List Int) : (intv xs).length = xs.length := by simp [intv]
theorem intv_get (xs : List Int) (j : Nat) : (intv xs)[j]? = (xs[j]?).map fun x => .int .i64 x := by simp [intv]
/-- A slice of whole numbers that is read. -/
structure RdI (w : World) (A : Option Addr) (n : Nat) (xs : List Int) : Prop where
  len : xs.length = n
  most : n ≤ maxLen
  cell : ∀ j x, xs[j]? = some x → ∃ ad, A = some ad ∧ w.cell? (ad.add j) = some (.int .i64 x)
theorem RdI.at_ {w : World} {A : Option Addr} {n : Nat} {xs : List Int} (h : RdI w A n xs) {k : Nat} (hk : k < n) : ∃ ad x, A = some ad ∧ w.cell? (ad.add k) = some (.int .i64 x) ∧ xs[k]? = some x := by
  have hl : k < xs.length := by rw [h.len]; exact hk
  have hx : xs[k]? = some xs[k] := List.getElem?_eq_getElem hl
  obtain ⟨ad, e, hc⟩ := h.cell k _ hx
  exact ⟨ad, xs[k], e, hc, hx⟩
theorem RdI.below {w w' : World} {A : Option Addr} {n : Nat} {xs : List Int} (h : RdI w A n xs) (hb : Below w.heap.size w w') : RdI w' A n xs :=
  ⟨h.len, h.most, fun j x hx => by
    obtain ⟨ad, e, hc⟩ := h.cell j x hx
    exact ⟨ad, e, (hb.cell (World.block_lt_of_cell? w _ hc)).trans hc⟩⟩
theorem RdI.nil (w : World) : RdI w none 0 [] := ⟨rfl, Nat.zero_le _, fun j x h => by simp at h⟩
/-- A row of whole numbers of the call's own. -/
structure OwI (e : TypeId) (w : World) (B : Nat) (v : Value) (xs : List Int) : Prop where
  own : w.ownsRow B e 1 v xs.length (intv xs)
section
variable {e : TypeId} {w w' : World} {B : Nat} {v : Value} {xs : List Int}
theorem OwI.nil (w : World) (B : Nat) (e : TypeId) : OwI e w B (.slice none 0 0) [] := ⟨⟨by simp [intv], .inl ⟨rfl, rfl⟩⟩⟩
theorem OwI.below (h : OwI e w B v xs) (hb : Below w.heap.size w w') : OwI e w' B v xs :=
  ⟨h.own.kept (⟨hb.os, hb.tape, hb.output, hb.size, fun i hi _ => hb.block i hi⟩ : w.grownBy w' none) (by cases v.ownBlock <;> simp)⟩
theorem OwI.drewN (h : OwI e w B v xs) (k : Nat) : OwI e (w.drewN k) B v xs := h.below (below_draws w k)
theorem OwI.other (h : OwI e w B v xs) {row : Option Nat} (hg : w.grownBy w' row) (hne : v.ownBlock = none ∨ v.ownBlock ≠ row) : OwI e w' B v xs := ⟨h.own.kept hg hne⟩
theorem OwI.base (h : OwI e w B v xs) (k : Nat) (hk : v.ownBlock = some k) : B ≤ k := by
  rcases h.own.2 with ⟨rfl, _⟩ | ⟨g, cap, cur, rfl, hb, _⟩
  · simp [Value.ownBlock] at hk
  · have : g = k := by simpa [Value.ownBlock] using hk
    omega
theorem OwI.lt (h : OwI e w B v xs) (k : Nat) (hk : v.ownBlock = some k) : k < w.heap.size := by
  rcases h.own.2 with ⟨rfl, _⟩ | ⟨g, cap, cur, rfl, hb, hh, _⟩
  · simp [Value.ownBlock] at hk
  · have : g = k := by simpa [Value.ownBlock] using hk
    subst this
    exact (Array.getElem?_eq_some_iff.1 hh).1
theorem OwI.reads (h : OwI e w B v xs) : ∃ A c, v = .slice A xs.length c ∧ RdI w A xs.length xs := by
  rcases Nat.eq_zero_or_pos xs.length with h0 | h0
  · have hx : xs = [] := List.eq_nil_of_length_eq_zero h0
    subst hx
    rcases h.own.2 with ⟨rfl, _⟩ | ⟨g, cap, cur, rfl, _⟩
    · exact ⟨none, 0, rfl, .nil w⟩
    · exact ⟨_, cap, rfl, ⟨rfl, Nat.zero_le _, fun j x h => by simp at h⟩⟩
  · obtain ⟨g, cap, rfl, _, _⟩ := h.own.form h0
    have hm : xs.length ≤ maxLen := by
      rcases h.own.2 with ⟨_, h1⟩ | ⟨g', cap', cur, he, _, _, h1, h2, _⟩
      · omega
      · omega
    refine ⟨_, cap, rfl, ⟨rfl, hm, fun j x hx => ⟨_, rfl, h.own.cells (g := g) rfl j _ (by rw [intv_get, hx]; rfl)⟩⟩⟩
theorem OwI.shape (h : OwI e w B v xs) : ∃ A c, v = .slice A xs.length c := by
  obtain ⟨A, c, hv, _⟩ := h.reads
  exact ⟨A, c, hv⟩
theorem OwI.shape_n {n : Nat} (h : OwI e w B v xs) (hl : xs.length = n) : ∃ A c, v = .slice A n c := by
  subst hl; exact h.shape
theorem OwI.rd {n c : Nat} {A : Option Addr} (h : OwI e w B (.slice A n c) xs) (hl : xs.length = n) : RdI w A n xs := by
  subst hl
  obtain ⟨A', c', hv, hr⟩ := h.reads
  injection hv with h1 h2 h3
  subst h1
  exact hr
theorem OwI.put (h : OwI e w B v xs) {a : Addr} (ha : a.block < B) (u : Value) : OwI e (w.setCell a u) B v xs := ⟨ownsRow_setCell_below h.own ha u⟩
theorem OwI.low {B' : Nat} (h : OwI e w B v xs) (hb : B' ≤ B) : OwI e w B' v xs := ⟨World.ownsRow.mono h.own hb⟩
theorem OwI.form {n c : Nat} {A : Option Addr} (h : OwI e w B (.slice A n c) xs) (hl : xs.length = n) (hn : 0 < n) : ∃ g, A = some ⟨g, 0, none⟩ ∧ B ≤ g := by
  subst hl
  obtain ⟨g, cap, hv, hb, _⟩ := h.own.form hn
  injection hv with hA
  exact ⟨g, hA, hb⟩
theorem OwI.cell {g n cap : Nat} (h : OwI e w B (.slice (some ⟨g, 0, none⟩) n cap) xs) {i : Nat} {x : Int} (hx : xs[i]? = some x) : w.cell? ⟨g, i, none⟩ = some (.int .i64 x) := by
  have := h.own.cells (g := g) rfl i (.int .i64 x) (by rw [intv_get, hx]; rfl)
  rwa [add_plain] at this
theorem OwI.store {g n cap : Nat} (h : OwI e w B (.slice (some ⟨g, 0, none⟩) n cap) xs) (hn : xs.length = n) (i : Nat) (x : Int) :
    OwI e (w.setCell ⟨g, i, none⟩ (.int .i64 x)) B (.slice (some ⟨g, 0, none⟩) n cap) (xs.set i x) ∧ w.grownBy (w.setCell ⟨g, i, none⟩ (.int .i64 x)) (some g) := by
  subst hn
  have hs := h.own.stored i (.int .i64 x)
  have he : (intv xs).set i (.int .i64 x) = intv (xs.set i x) := by simp [intv, List.map_set]
  rw [he] at hs
  exact ⟨⟨by simpa using hs.1⟩, hs.2⟩
theorem OwI.free {g n cap : Nat} (h : OwI e w B (.slice (some ⟨g, 0, none⟩) n cap) xs) (i : Nat) : w.frozen? ⟨g, i, none⟩ = false := by
  rcases h.own.2 with ⟨h', _⟩ | ⟨g', cap', cur, h', _, hh, _⟩
  · cases h'
  · have : g = g' := by injection h' with h'; injection h' with h'; injection h' with h'
    subst this
    simp [World.frozen?, hh]
end
theorem mk_int {P : Program} (t e : TypeId) (ht : P.underlying t = some (.slice e)) (hinfo : (P.info? e).map (fun i => (i.zero, i.size, i.bytes)) = some (some (.int .i64 0), 1, 8)) (k : IntKind)
    (m : Nat) (hn : m ≤ 1073741824) :
    ∀ W : World, (Instr.makeSlice t (.int k (m : Int)) (.int k (m : Int))).run P W = .ok (.slice (some ⟨W.heap.size, 0, none⟩) m m) (W.alloc (.cells (madeCells #[.int .i64 0] m) e)) := by
  intro W
  exact run_make_row' t e (.int .i64 0) 8 ht hinfo rfl k k m (by omega) (by omega) W
theorem OwI.made (W : World) (base : Nat) (e : TypeId) (m : Nat) (hb : base ≤ W.heap.size) (hm : m ≤ 1073741824) :
    OwI e (W.alloc (.cells (madeCells #[.int .i64 0] m) e)) base (.slice (some ⟨W.heap.size, 0, none⟩) m m) (List.replicate m 0) := by
  have h := World.ownsRow_lit (base := base) (e := e) (size := 1) W (madeCells #[.int .i64 0] m) m hb (by simp only [maxLen]; omega) (by simp [size_madeCells])
  have hl : (madeCells #[Value.int .i64 0] m).toList = intv (List.replicate m 0) := by
    apply List.ext_getElem
    · simp [intv, madeCells]
    · intro i h1 h2
      simp [intv, madeCells, Nat.mod_one]
  rw [hl] at h
  exact ⟨by simpa using h⟩
abbrev OfI (w : World) (B : Nat) (v : Value) (xs : List Int) : Prop := OwI 2 w B v xs
theorem info_i64 : (Try.prog.info? 2).map (fun i => (i.zero, i.size, i.bytes)) = some (some (.int .i64 0), 1, 8) := by kernel_rfl
section
variable {P : Program} {ops : Array Oper} {rest : List Oper} {o : Oper} {a : Act} {Q : Exit → Act → World → Prop}
/-- 'append(v, y)', v a row of the call's own: behind 'at_builtin'. -/
theorem ap_int {w0 W : World} (base : Nat) (hgd : o.guard = none) (s x : Operand) (t e : TypeId)
    (ho : o.op = .call { callee := .builtin .append, args := #[s, x], argTypes := #[t, t] })
    (ht : P.underlying t = some (.slice e)) (hinfo : (P.info? e).map (fun i => (i.zero, i.size, i.bytes)) = some (some (.int .i64 0), 1, 8))
    (v : Value) (xs : List Int) (y : Int) (hs : a.eval s = v) (hx : a.eval x = .slice (some ⟨W.heap.size, 0, none⟩) 1 1)
    (HO : OwI e W base v xs) (HB : Below base w0 W) (hbase : base ≤ W.heap.size) (hl : xs.length ≤ 1073741824)
    (h : ∀ v1 w1, OwI e w1 base v1 (xs ++ [y]) → Below base w0 w1 → W.grownBy w1 v.ownBlock → (v1.ownBlock = v.ownBlock ∨ ∃ b, v1.ownBlock = some b ∧ W.heap.size ≤ b) → wpList P ops Q rest (a.put o.dst v1) w1) :
    wpList P ops Q (o :: rest) a (W.alloc (.cells #[.int .i64 y] e)) := by
  obtain ⟨i0, hi, hzz⟩ := Option.map_eq_some_iff.1 hinfo
  simp only [Prod.mk.injEq] at hzz
  obtain ⟨hz0, hz1, hz2⟩ := hzz
  refine wpList_append_own_at (W.alloc (.cells #[.int .i64 y] e)) hgd s x t ho base e i0 (.int .i64 0) 1 8 ht hi hz0 hz1 hz2 rfl (by omega) v xs.length (intv xs) hs (HO.own.alloc _) ⟨W.heap.size, 0, none⟩ 1 1 [.int .i64 y] hx rfl
    (World.news_of_block (cs := #[.int .i64 y]) (t := e) (fr := (0, 0)) (heap_alloc_new W _)) (by simp [Value.oneCell']) (by simp only [maxLen]; omega) (by omega) (by simp; omega) ?_
  intro v1 w1 hown hg _ hat
  have e1 : intv xs ++ [.int .i64 y] = intv (xs ++ [y]) := by simp [intv]
  refine h v1 w1 ⟨by rw [← e1]; simpa using hown⟩ ((HB.alloc hbase _).grown hg (by simp; omega) (HO.base)) (World.grownBy.trans (World.grownBy_alloc W _ _) hg) ?_
  rcases hat with hat | hat
  · exact .inl hat
  · exact .inr ⟨_, hat, by simp⟩
end
theorem all_take {xs : List Int} {k : Nat} {x : Int} (p : Int → Bool) (hx : xs[k]? = some x) (h : (xs.take k).all p = true) : (xs.take (k + 1)).all p = p x ∧ (p x = false → xs.all p = false) := by
  obtain ⟨hk, rfl⟩ := List.getElem?_eq_some_iff.1 hx
  refine ⟨by rw [take_snoc xs k hk, List.all_append, h]; simp, fun hp => ?_⟩
  rw [List.all_eq_false]
  exact ⟨_, List.getElem_mem hk, by rw [hp]; decide⟩
set_option maxHeartbeats 400000 in
theorem impl_allWithin {A : Option Addr} {n c : Nat} {xs : List Int} {lo hi : Int} (w : World) (h : RdI w A n xs) (hn : n ≤ 1048576) : Calls Try.prog 69 #[.slice A n c, .int .i64 lo, .int .i64 hi] w fun e w' => e = .returned (.bool (xs.all fun x => inC x lo hi)) ∧ w = w' := by
  have HX := Lib.hid h.len
  go_enter Try.func69, Try.ntmps69
  go_wp2
  go_loop [11] (fun i => ∃ k, k ≤ n ∧ i = .int .i64 (k : Nat) ∧ Hid ((xs.take k).all (fun x => inC x lo hi) = true)) (fun i => n - (intOf i).toNat)
  case atStart => exact ⟨0, Nat.zero_le _, rfl, Lib.hid rfl⟩
  case round =>
    obtain ⟨k, hk, rfl, ht⟩ := hrel
    by_cases hlt : k < n
    · obtain ⟨ad, x, rfl, hc, hx⟩ := h.at_ hlt
      obtain ⟨a1, a2⟩ := all_take (fun x => inC x lo hi) hx ht.out
      have H1 := Lib.hid a1
      have H2 := Lib.hid a2
      clear a1 a2 h hx
      cases c : inC x lo hi
      · go_wp2_with (go_at_call 60; refine (impl_within _).mono ?_; rintro e w' ⟨rfl, rfl⟩)
        go_ret
        exact ⟨by rw [H2.out c]; rfl, rfl⟩
      · go_wp2_with (go_at_call 60; refine (impl_within _).mono ?_; rintro e w' ⟨rfl, rfl⟩)
        exact ⟨⟨k + 1, by omega, by go_num, Lib.hid (by rw [H1.out, c])⟩, by simp [intOf]; omega⟩
    · go_wp2
      go_ret
      obtain rfl : k = n := by omega
      have h1 := ht.out
      rw [List.take_of_length_le (by rw [HX.out]; exact Nat.le_refl _)] at h1
      exact ⟨by rw [h1]; rfl, rfl⟩
/-- Does it hold of all the first n? -/
def upto (n : Nat) (p : Nat → Bool) : Bool := (List.range n).all p
theorem upto_true {n : Nat} {p : Nat → Bool} (h : ∀ k, k < n → p k = true) : upto n p = true := by
  simp only [upto, List.all_eq_true, List.mem_range]; exact h
theorem upto_false {n k : Nat} {p : Nat → Bool} (hk : k < n) (h : p k = false) : upto n p = false := by
  rw [upto, List.all_eq_false]
  exact ⟨k, List.mem_range.2 hk, by rw [h]; decide⟩

def lens (n : Nat) (f : Nat → Int) (m : Nat) (g : Nat → Int) : List Int := (List.range n).map f ++ (List.range m).map g
theorem lens_len (n : Nat) (f : Nat → Int) (m : Nat) (g : Nat → Int) : (lens n f m g).length = n + m := by simp [lens]
theorem lens_zero (n : Nat) (f : Nat → Int) (g : Nat → Int) : lens n f 0 g = (List.range n).map f := by simp [lens]
theorem lens_snoc (n : Nat) (f : Nat → Int) (k : Nat) (g : Nat → Int) : lens n f (k + 1) g = lens n f k g ++ [g k] := by simp [lens, List.range_succ]
theorem lens_all (n : Nat) (f : Nat → Int) (m : Nat) (g : Nat → Int) (p : Int → Bool) : (lens n f m g).all p = (upto n (fun k => p (f k)) && upto m (fun k => p (g k))) := by
  rw [lens, List.all_append, List.all_map, List.all_map]; rfl
def roomOk (n m : Nat) (f g : Nat → Int) : Bool := (upto n (fun k => inC (f k) 1 64) && upto m (fun k => inC (g k) 1 64)) && (inC n 1 4 && decide (m ≤ 3))
set_option maxHeartbeats 400000 in
theorem impl_size {n : Int} (w : World) : Calls Try.prog 79 #[.int .i64 n] w fun e w' => e = .returned (.int .i64 n) ∧ w = w' := by
  go_enter Try.func79, Try.ntmps79
  go_wp2
  go_ret
  exact ⟨rfl, rfl⟩
set_option maxHeartbeats 400000 in
theorem spec_l03Length (n : Int) (w : World) : Calls Try.prog 101 #[.int .i64 n] w fun e w' => e = .returned (.bool (inC n 1 64)) ∧ w = w' := by
  go_enter Try.func101, Try.ntmps101
  go_wp2_with (go_at_call 58; refine (spec_l00In _).mono ?_; rintro e w' ⟨rfl, rfl⟩)
  go_ret
  exact ⟨rfl, rfl⟩
set_option maxHeartbeats 1600000 in
theorem spec_l03Is {b : Nat} {A B : Option Addr} {n m c d : Nat} {f0 : Nat → Int} {f1 f2 f3 : Nat → Nat} {f4 : Nat → Bool} {g0 : Nat → Int} {g1 : Nat → Nat} (w : World) (hp0 : w.cell? ⟨b, 0, none⟩ = some (.slice A n c)) (hp1 : w.cell? ⟨b, 1, none⟩ = some (.slice B m d)) (h : RdDelay w A n f0 f1 f2 f3 f4) (hn : n ≤ 1048576) (h' : RdPass w B m g0 g1) (hm : m ≤ 1048576) :
    Calls Try.prog 76 #[.pointer (some ⟨b, 0, none⟩)] w fun e w' => e = .returned (.bool (roomOk n m f0 g0)) ∧ w = w' := by
  go_enter Try.func76, Try.ntmps76
  go_wp2
  go_loop [3] (fun i => ∃ k, k ≤ n ∧ i = .int .i64 (k : Nat) ∧ Hid (∀ j, j < k → inC (f0 j) 1 64 = true)) (fun i => n - (intOf i).toNat)
  case atStart => exact ⟨0, Nat.zero_le _, rfl, Lib.hid (fun j hj => by omega)⟩
  case round =>
    obtain ⟨k, hk, rfl, ht⟩ := hrel
    by_cases hlt : k < n
    · obtain ⟨ad, rfl, c0, c1, c2, c3, c4⟩ := h.cell k hlt
      have H := Lib.hid hlt
      clear h h'
      cases cc : inC (f0 k) 1 64
      · go_wp2_with (go_at_call 101; refine (spec_l03Length _ _).mono ?_; rintro e w' ⟨rfl, rfl⟩)
        go_ret
        exact ⟨by rw [roomOk, upto_false (p := fun k => inC (f0 k) 1 64) H.out cc]; rfl, rfl⟩
      · go_wp2_with (go_at_call 101; refine (spec_l03Length _ _).mono ?_; rintro e w' ⟨rfl, rfl⟩)
        refine ⟨⟨k + 1, by omega, by go_num, Lib.hid (fun j hj => ?_)⟩, by simp [intOf]; omega⟩
        rcases Nat.lt_or_ge j k with h1 | h1
        · exact ht.out j h1
        · obtain rfl : j = k := by omega
          exact cc
    · obtain rfl : k = n := by omega
      have hu := Lib.hid (upto_true (p := fun k => inC (f0 k) 1 64) ht.out)
      clear ht
      go_wp2
      go_loop [4] (fun i => ∃ q, q ≤ m ∧ i = .int .i64 (q : Nat) ∧ Hid (∀ j, j < q → inC (g0 j) 1 64 = true)) (fun i => m - (intOf i).toNat)
      case atStart => exact ⟨0, Nat.zero_le _, rfl, Lib.hid (fun j hj => by omega)⟩
      case round =>
        obtain ⟨q, hq, rfl, ht⟩ := hrel
        by_cases hlq : q < m
        · obtain ⟨ad, rfl, c0, c1⟩ := h'.cell q hlq
          have H := Lib.hid hlq
          clear h h'
          cases cc : inC (g0 q) 1 64
          · go_wp2_with (go_at_call 101; refine (spec_l03Length _ _).mono ?_; rintro e w' ⟨rfl, rfl⟩)
            go_ret
            exact ⟨by rw [roomOk, upto_false (p := fun k => inC (g0 k) 1 64) H.out cc, Bool.and_false]; rfl, rfl⟩
          · go_wp2_with (go_at_call 101; refine (spec_l03Length _ _).mono ?_; rintro e w' ⟨rfl, rfl⟩)
            refine ⟨⟨q + 1, by omega, by go_num, Lib.hid (fun j hj => ?_)⟩, by simp [intOf]; omega⟩
            rcases Nat.lt_or_ge j q with h1 | h1
            · exact ht.out j h1
            · obtain rfl : j = q := by omega
              exact cc
        · obtain rfl : q = m := by omega
          have hv := Lib.hid (upto_true (p := fun k => inC (g0 k) 1 64) ht.out)
          clear ht h h'
          rcases Nat.lt_or_ge k 1 with h1 | h1
          · go_wp2
            go_ret
            refine ⟨ret_bool ?_, rfl⟩
            have h0 : inC (k : Int) 1 4 = false := by simp [inC]; omega
            rw [roomOk, hu.out, hv.out, h0]
            simp <;> omega
          · rcases Nat.lt_or_ge 4 k with h4 | h4
            · go_wp2
              go_ret
              refine ⟨ret_bool ?_, rfl⟩
              have h0 : inC (k : Int) 1 4 = false := by simp [inC]; omega
              rw [roomOk, hu.out, hv.out, h0]
              simp <;> omega
            · go_wp2
              go_ret
              refine ⟨ret_bool ?_, rfl⟩
              have h0 : inC (k : Int) 1 4 = true := (inC_iff _ _ _).2 ⟨by omega, by omega⟩
              rw [roomOk, hu.out, hv.out, h0]
              simp <;> omega
set_option maxHeartbeats 400000 in
theorem spec_ValidRoom {A B : Option Addr} {n m c d x y : Nat} {f0 : Nat → Int} {f1 f2 f3 : Nat → Nat} {f4 : Nat → Bool} {g0 : Nat → Int} {g1 : Nat → Nat} (w : World) (h : RdDelay w A n f0 f1 f2 f3 f4) (hn : n ≤ 1048576) (h' : RdPass w B m g0 g1) (hm : m ≤ 1048576) :
    Calls Try.prog 42 #[.agg #[.slice A n c, .slice B m d, .float .f32 x, .float .f32 y]] w (RV (.bool (roomOk n m f0 g0)) w) := by
  have hal := fun o => (Below.refl _ w).alloc (Nat.le_refl _) o
  go_enter Try.func42, Try.ntmps42
  go_wp2_with fail
  refine (spec_l03Is _ (A := A) (n := n) (c := c) (B := B) (m := m) (d := d) (by simp [go_sem]) (by simp [go_sem]) (h.below (hal _)) hn (h'.below (hal _)) hm).mono ?_
  rintro e w' ⟨rfl, rfl⟩
  go_wp2_with fail
  go_ret
  exact ⟨rfl, hal _⟩
end Go.Proofs.Ytlenpecnfilkjaa
