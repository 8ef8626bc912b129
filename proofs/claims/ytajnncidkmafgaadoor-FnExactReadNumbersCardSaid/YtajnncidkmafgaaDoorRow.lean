/- Slices of 32-bit floats in memory: read, owned, appended to, made. Conditions: none. -/
import Derived.Test.YtajnncidkmafgaaDoorFw
import Derived.Test.YtajnncidkmafgaaDoorOpen
import Derived.Maps.AppendAt
import Derived.OwnWalk
import Derived.Laws.OwnMore
import Derived.Laws.MakeOwn
import Derived.Laws.Rows
import Derived.Deep.LoopGhost
import Derived.Deep.OwnRows
import Derived.Deep.AppendLies
set_option linter.unusedVariables false
set_option linter.unusedSimpArgs false
namespace Go.Proofs.YtajnncidkmafgaaDoor
open Go.RowKit

def flts (xs : List Nat) : List Value := xs.map fun x => .float .f32 x
theorem flts_length (xs : List Nat) : (flts xs).length = xs.length := by simp [flts]
theorem flts_get (xs : List Nat) (j : Nat) : (flts xs)[j]? = (xs[j]?).map fun x => .float .f32 x := by simp [flts]
def wfs (xs : List Nat) : Prop := ∀ x ∈ xs, x < 2 ^ FloatKind.f32.format.width
/-- The classes of a list. -/
def clss (xs : List Nat) : List (Option Nat) := xs.map (cls .f32)
theorem clss_length (xs : List Nat) : (clss xs).length = xs.length := by simp [clss]
theorem clss_append (xs ys : List Nat) : clss (xs ++ ys) = clss xs ++ clss ys := by simp [clss]
theorem clss_get (xs : List Nat) (j : Nat) : (clss xs)[j]? = (xs[j]?).map (cls .f32) := by simp [clss]
theorem wfs_append {xs : List Nat} {y : Nat} (h : wfs xs) (hy : y < 2 ^ FloatKind.f32.format.width) : wfs (xs ++ [y]) := by
  intro x hx
  rcases List.mem_append.1 hx with h1 | h1
  · exact h x h1
  · simp at h1; subst h1; exact hy
theorem take_snoc {α : Type} (l : List α) (k : Nat) (h : k < l.length) : l.take (k + 1) = l.take k ++ [l[k]] := by
  rw [List.take_succ_eq_append_getElem h]

/-- A slice of floats that is read. -/
structure Rd (w : World) (A : Option Addr) (n : Nat) (xs : List Nat) : Prop where
  len : xs.length = n
  most : n ≤ maxLen
  wf : wfs xs
  cell : ∀ j x, xs[j]? = some x → ∃ ad, A = some ad ∧ w.cell? (ad.add j) = some (.float .f32 x)
section
variable {w w' : World} {A : Option Addr} {n : Nat} {xs : List Nat}
theorem Rd.at_ (h : Rd w A n xs) {k : Nat} (hk : k < n) : ∃ ad x X, A = some ad ∧ w.cell? (ad.add k) = some (.float .f32 x) ∧ Fl .f32 x X ∧ xs[k]? = some x ∧ (clss xs)[k]? = some X := by
  have hl : k < xs.length := by rw [h.len]; exact hk
  have hx : xs[k]? = some xs[k] := List.getElem?_eq_getElem hl
  obtain ⟨ad, e, hc⟩ := h.cell k _ hx
  exact ⟨ad, xs[k], _, e, hc, Fl.self (h.wf _ (List.getElem_mem hl)), hx, by rw [clss_get, hx]; rfl⟩
theorem Rd.below (h : Rd w A n xs) (hb : Below w.heap.size w w') : Rd w' A n xs :=
  ⟨h.len, h.most, h.wf, fun j x hx => by
    obtain ⟨ad, e, hc⟩ := h.cell j x hx
    exact ⟨ad, e, (hb.cell (World.block_lt_of_cell? w _ hc)).trans hc⟩⟩
theorem Rd.drewN (h : Rd w A n xs) (k : Nat) : Rd (w.drewN k) A n xs := ⟨h.len, h.most, h.wf, h.cell⟩
theorem Rd.nil (w : World) : Rd w none 0 [] := ⟨rfl, Nat.zero_le _, fun x h => by simp at h, fun j x h => by simp at h⟩
end

/-- A row of floats of the call's own. -/
structure Ow (e : TypeId) (w : World) (B : Nat) (v : Value) (xs : List Nat) : Prop where
  own : w.ownsRow B e 1 v xs.length (flts xs)
  wf : wfs xs
section
variable {e : TypeId} {w w' : World} {B : Nat} {v : Value} {xs : List Nat}
theorem Ow.nil (w : World) (B : Nat) (e : TypeId) : Ow e w B (.slice none 0 0) [] := ⟨⟨by simp [flts], .inl ⟨rfl, rfl⟩⟩, fun x h => by simp at h⟩
theorem Ow.below (h : Ow e w B v xs) (hb : Below w.heap.size w w') : Ow e w' B v xs :=
  ⟨h.own.kept (⟨hb.os, hb.tape, hb.output, hb.size, fun i hi _ => hb.block i hi⟩ : w.grownBy w' none) (by cases v.ownBlock <;> simp), h.wf⟩
theorem Ow.drewN (h : Ow e w B v xs) (k : Nat) : Ow e (w.drewN k) B v xs := h.below (below_draws w k)
/-- What is written lies in another row: this one lives on. -/
theorem Ow.other (h : Ow e w B v xs) {row : Option Nat} (hg : w.grownBy w' row) (hne : v.ownBlock = none ∨ v.ownBlock ≠ row) : Ow e w' B v xs := ⟨h.own.kept hg hne, h.wf⟩
theorem Ow.base (h : Ow e w B v xs) (k : Nat) (hk : v.ownBlock = some k) : B ≤ k := by
  rcases h.own.2 with ⟨rfl, _⟩ | ⟨g, cap, cur, rfl, hb, _⟩
  · simp [Value.ownBlock] at hk
  · have : g = k := by simpa [Value.ownBlock] using hk
    omega
theorem Ow.lt (h : Ow e w B v xs) (k : Nat) (hk : v.ownBlock = some k) : k < w.heap.size := by
  rcases h.own.2 with ⟨rfl, _⟩ | ⟨g, cap, cur, rfl, hb, hh, _⟩
  · simp [Value.ownBlock] at hk
  · have : g = k := by simpa [Value.ownBlock] using hk
    subst this
    exact (Array.getElem?_eq_some_iff.1 hh).1
/-- An owned row is a slice that is read. -/
theorem Ow.reads (h : Ow e w B v xs) : ∃ A c, v = .slice A xs.length c ∧ Rd w A xs.length xs := by
  rcases Nat.eq_zero_or_pos xs.length with h0 | h0
  · have hx : xs = [] := List.eq_nil_of_length_eq_zero h0
    subst hx
    rcases h.own.2 with ⟨rfl, _⟩ | ⟨g, cap, cur, rfl, _⟩
    · exact ⟨none, 0, rfl, .nil w⟩
    · exact ⟨_, cap, rfl, ⟨rfl, Nat.zero_le _, fun x h => by simp at h, fun j x h => by simp at h⟩⟩
  · obtain ⟨g, cap, rfl, _, _⟩ := h.own.form h0
    have hm : xs.length ≤ maxLen := by
      rcases h.own.2 with ⟨_, h1⟩ | ⟨g', cap', cur, he, _, _, h1, h2, _⟩
      · omega
      · omega
    refine ⟨_, cap, rfl, ⟨rfl, hm, h.wf, fun j x hx => ⟨_, rfl, h.own.cells (g := g) rfl j _ (by rw [flts_get, hx]; rfl)⟩⟩⟩
theorem grown_of_below (h : Below w.heap.size w w') (row : Option Nat) : w.grownBy w' row := ⟨h.os, h.tape, h.output, h.size, fun i hi _ => h.block i hi⟩
end

section
variable {P : Program} {ops : Array Oper} {rest : List Oper} {o : Oper} {a : Act} {Q : Exit → Act → World → Prop}
/-- 'append(v, y)', v a row of the call's own: behind 'at_builtin'. -/
theorem ap_float {w0 W : World} (base : Nat) (hgd : o.guard = none) (s x : Operand) (t e : TypeId)
    (ho : o.op = .call { callee := .builtin .append, args := #[s, x], argTypes := #[t, t] })
    (ht : P.underlying t = some (.slice e)) (hinfo : (P.info? e).map (fun i => (i.zero, i.size, i.bytes)) = some (some (.float .f32 0), 1, 4))
    (v : Value) (xs : List Nat) (y : Nat) (hs : a.eval s = v) (hx : a.eval x = .slice (some ⟨W.heap.size, 0, none⟩) 1 1)
    (HO : Ow e W base v xs) (hy : y < 2 ^ FloatKind.f32.format.width) (HB : Below base w0 W) (hbase : base ≤ W.heap.size) (hl : xs.length ≤ 1073741824)
    (h : ∀ v1 w1, Ow e w1 base v1 (xs ++ [y]) → Below base w0 w1 → W.grownBy w1 v.ownBlock → (v1.ownBlock = v.ownBlock ∨ ∃ b, v1.ownBlock = some b ∧ W.heap.size ≤ b) → wpList P ops Q rest (a.put o.dst v1) w1) :
    wpList P ops Q (o :: rest) a (W.alloc (.cells #[.float .f32 y] e)) := by
  obtain ⟨i0, hi, hzz⟩ := Option.map_eq_some_iff.1 hinfo
  simp only [Prod.mk.injEq] at hzz
  obtain ⟨hz0, hz1, hz2⟩ := hzz
  refine wpList_append_own_at (W.alloc (.cells #[.float .f32 y] e)) hgd s x t ho base e i0 (.float .f32 0) 1 4 ht hi hz0 hz1 hz2 rfl (by omega) v xs.length (flts xs) hs (HO.own.alloc _) ⟨W.heap.size, 0, none⟩ 1 1 [.float .f32 y] hx rfl
    (World.news_of_block (cs := #[.float .f32 y]) (t := e) (fr := (0, 0)) (heap_alloc_new W _)) (by simp [Value.oneCell']) (by simp only [maxLen]; omega) (by omega) (by simp; omega) ?_
  intro v1 w1 hown hg _ hat
  have e1 : flts xs ++ [.float .f32 y] = flts (xs ++ [y]) := by simp [flts]
  refine h v1 w1 ⟨by rw [← e1]; simpa using hown, wfs_append HO.wf hy⟩ ((HB.alloc hbase _).grown hg (by simp; omega) (HO.base)) (World.grownBy.trans (World.grownBy_alloc W _ _) hg) ?_
  rcases hat with hat | hat
  · exact .inl hat
  · exact .inr ⟨_, hat, by simp⟩
/-- The same in a region that draws its order ('go_region_law'). -/
theorem ap_float_step {w0 W : World} {K : Act → World → Prop} {E : Prop} (base : Nat) (hgd : o.guard = none) (s x : Operand) (t e : TypeId)
    (ho : o.op = .call { callee := .builtin .append, args := #[s, x], argTypes := #[t, t] })
    (ht : P.underlying t = some (.slice e)) (hinfo : (P.info? e).map (fun i => (i.zero, i.size, i.bytes)) = some (some (.float .f32 0), 1, 4))
    (v : Value) (xs : List Nat) (y : Nat) (hs : a.eval s = v) (hx : a.eval x = .slice (some ⟨W.heap.size, 0, none⟩) 1 1)
    (HO : Ow e W base v xs) (hy : y < 2 ^ FloatKind.f32.format.width) (HB : Below base w0 W) (hbase : base ≤ W.heap.size) (hl : xs.length ≤ 1073741824)
    (h : ∀ v1 w1, Ow e w1 base v1 (xs ++ [y]) → Below base w0 w1 → W.grownBy w1 v.ownBlock → (v1.ownBlock = v.ownBlock ∨ ∃ b, v1.ownBlock = some b ∧ W.heap.size ≤ b) → K (a.put o.dst v1) w1) :
    if Region.wanted o (yielded ops a.tmps) = true then Oper.wp P o a (W.alloc (.cells #[.float .f32 y] e)) K Q else E := by
  have hw : Region.wanted o (yielded ops a.tmps) = true := by simp [Region.wanted, hgd]
  rw [if_pos hw]
  obtain ⟨i0, hi, hzz⟩ := Option.map_eq_some_iff.1 hinfo
  simp only [Prod.mk.injEq] at hzz
  obtain ⟨hz0, hz1, hz2⟩ := hzz
  obtain ⟨v1, w1, hrun, hown, hg, _, hat⟩ := run_append_own_at (P := P) (W.alloc (.cells #[.float .f32 y] e)) base t o.type e i0 (.float .f32 0) 1 4 ht hi hz0 hz1 hz2 rfl (by omega) v xs.length (flts xs) (HO.own.alloc _) ⟨W.heap.size, 0, none⟩ 1 1 [.float .f32 y] rfl
    (World.news_of_block (cs := #[.float .f32 y]) (t := e) (fr := (0, 0)) (heap_alloc_new W _)) (by simp [Value.oneCell']) (by simp only [maxLen]; omega) (by omega) (by simp; omega)
  have e1 : flts xs ++ [.float .f32 y] = flts (xs ++ [y]) := by simp [flts]
  unfold Oper.wp
  simp only [execOp, ho, resolve, invoke, builtin, Sem.run_bind, Sem.run_pure, Result.andThen_ok, List.map_toArray, List.map_cons, List.map_nil, hs, hx, hrun]
  refine h v1 w1 ⟨by rw [← e1]; simpa using hown, wfs_append HO.wf hy⟩ ((HB.alloc hbase _).grown hg (by simp; omega) (HO.base)) (World.grownBy.trans (World.grownBy_alloc W _ _) hg) ?_
  rcases hat with hat | hat
  · exact .inl hat
  · exact .inr ⟨_, hat, by simp⟩
/-- 'make([]float32, m)', ahead of the walk. -/
theorem mk_float (t e : TypeId) (ht : P.underlying t = some (.slice e)) (hinfo : (P.info? e).map (fun i => (i.zero, i.size, i.bytes)) = some (some (.float .f32 0), 1, 4)) (k : IntKind)
    (m : Nat) (hn : m ≤ 1073741824) :
    ∀ W : World, (Instr.makeSlice t (.int k (m : Int)) (.int k (m : Int))).run P W = .ok (.slice (some ⟨W.heap.size, 0, none⟩) m m) (W.alloc (.cells (madeCells #[.float .f32 0] m) e)) := by
  intro W
  exact run_make_row' t e (.float .f32 0) 4 ht hinfo rfl k k m (by omega) (by omega) W
end
theorem Ow.made (W : World) (base : Nat) (e : TypeId) (m : Nat) (hb : base ≤ W.heap.size) (hm : m ≤ 1073741824) :
    Ow e (W.alloc (.cells (madeCells #[.float .f32 0] m) e)) base (.slice (some ⟨W.heap.size, 0, none⟩) m m) (List.replicate m 0) := by
  have h := World.ownsRow_lit (base := base) (e := e) (size := 1) W (madeCells #[.float .f32 0] m) m hb (by simp only [maxLen]; omega) (by simp [size_madeCells])
  have hl : (madeCells #[Value.float .f32 0] m).toList = flts (List.replicate m 0) := by
    apply List.ext_getElem
    · simp [flts, madeCells]
    · intro i h1 h2
      simp [flts, madeCells, Nat.mod_one]
  rw [hl] at h
  exact ⟨by simpa using h, fun x hx => by rw [List.eq_of_mem_replicate hx]; decide⟩
theorem Ow.empty (W : World) (base : Nat) (e : TypeId) (hb : base ≤ W.heap.size) : Ow e (W.alloc (.cells #[] e)) base (.slice (some ⟨W.heap.size, 0, none⟩) 0 0) [] := by
  have h := World.ownsRow_lit (base := base) (e := e) (size := 1) W #[] 0 hb (Nat.zero_le _) (by simp)
  exact ⟨by simpa [flts] using h, fun x hx => by simp at hx⟩
theorem add_plain (g j : Nat) : (⟨g, 0, none⟩ : Addr).add j = ⟨g, j, none⟩ := by unfold Addr.add; split <;> simp_all
/-- 'v[i] = x', v owned. -/
theorem Ow.store {e : TypeId} {W : World} {base g n cap : Nat} {xs : List Nat} (h : Ow e W base (.slice (some ⟨g, 0, none⟩) n cap) xs) (hn : xs.length = n) (i x : Nat) (hx : x < 2 ^ FloatKind.f32.format.width) :
    Ow e (W.setCell ⟨g, i, none⟩ (.float .f32 x)) base (.slice (some ⟨g, 0, none⟩) n cap) (xs.set i x) ∧ W.grownBy (W.setCell ⟨g, i, none⟩ (.float .f32 x)) (some g) := by
  subst hn
  have hs := h.own.stored i (.float .f32 x)
  have he : (flts xs).set i (.float .f32 x) = flts (xs.set i x) := by simp [flts, List.map_set]
  rw [he] at hs
  refine ⟨⟨by simpa using hs.1, fun y hy => ?_⟩, hs.2⟩
  rcases List.mem_or_eq_of_mem_set hy with h1 | h1
  · exact h.wf y h1
  · rw [h1]; exact hx
theorem Ow.free {e : TypeId} {W : World} {base g n cap : Nat} {xs : List Nat} (h : Ow e W base (.slice (some ⟨g, 0, none⟩) n cap) xs) (i : Nat) : W.frozen? ⟨g, i, none⟩ = false := by
  rcases h.own.2 with ⟨h', _⟩ | ⟨g', cap', cur, h', _, hh, _⟩
  · cases h'
  · have : g = g' := by injection h' with h'; injection h' with h'; injection h' with h'
    subst this
    simp [World.frozen?, hh]

/-! ### What a law needs beside -/
theorem Row.rd {w : World} {A : Option Addr} {n : Nat} {l : List Value} (h : Row w [.f32] A n l) : ∃ xs, Rd w A n xs := by
  have hlen : l.length = n := by have := h.len; simpa using this
  have key : ∀ j, j < n → ∃ x, l[j]? = some (.float .f32 x) ∧ x < 2 ^ FloatKind.f32.format.width := by
    intro j hj
    obtain ⟨u, hu, b, rfl, hb⟩ := h.kind j 0 .f32 hj rfl
    exact ⟨b, by simpa using hu, hb⟩
  obtain ⟨F, hF⟩ := Deep.choose_lt (α := Nat) (n := n) key
  refine ⟨(List.range n).map F, by simp, h.most, fun x hx => ?_, fun j x hx => ?_⟩
  · obtain ⟨i, hi, rfl⟩ := List.mem_map.1 hx
    exact (hF i (List.mem_range.1 hi)).2
  · have hj : j < n := by
      rcases Nat.lt_or_ge j n with h | h
      · exact h
      · rw [List.getElem?_eq_none (by simpa using h)] at hx; cases hx
    have e : x = F j := by simp [hj] at hx; exact hx.symm
    subst e
    exact h.cell j _ (hF j hj).1
section
variable {e : TypeId} {w w' : World} {B n c : Nat} {v : Value} {xs : List Nat} {A : Option Addr}
theorem Ow.shape (h : Ow e w B v xs) : ∃ A c, v = .slice A xs.length c := by
  obtain ⟨A, c, hv, _⟩ := h.reads
  exact ⟨A, c, hv⟩
theorem Ow.shape_n (h : Ow e w B v xs) (hl : xs.length = n) : ∃ A c, v = .slice A n c := by
  subst hl; exact h.shape
theorem Ow.rd (h : Ow e w B (.slice A n c) xs) (hl : xs.length = n) : Rd w A n xs := by
  subst hl
  obtain ⟨A', c', hv, hr⟩ := h.reads
  injection hv with h1 h2 h3
  subst h1
  exact hr
theorem own_apart {vi vj : Value} {m Bj : Nat} (hi : ∀ k, vi.ownBlock = some k → k < m) (hj : ∀ k, vj.ownBlock = some k → Bj ≤ k) (h : m ≤ Bj) : vi.ownBlock = none ∨ vi.ownBlock ≠ vj.ownBlock := by
  cases h1 : vi.ownBlock with
  | none => exact .inl rfl
  | some k =>
    refine .inr fun he => ?_
    have := hi k h1
    have := hj k he.symm
    omega
theorem own_apart' {vi vj : Value} {m Bi : Nat} (hi : ∀ k, vi.ownBlock = some k → Bi ≤ k) (hj : ∀ k, vj.ownBlock = some k → k < m) (h : m ≤ Bi) : vi.ownBlock = none ∨ vi.ownBlock ≠ vj.ownBlock := by
  cases h1 : vi.ownBlock with
  | none => exact .inl rfl
  | some k =>
    refine .inr fun he => ?_
    have := hi k h1
    have := hj k he.symm
    omega
theorem ne_swap {a b : Option Nat} (h : a = none ∨ a ≠ b) : b = none ∨ b ≠ a := by
  rcases h with rfl | h
  · cases b
    · exact .inl rfl
    · exact .inr (by simp)
  · exact .inr (fun e => h e.symm)
theorem below_undrawn {m : Nat} (h : Below (w.drewN m).heap.size (w.drewN m) w') : Below w.heap.size w w' := below_next (below_draws w m) (Nat.le_refl _) h
theorem RB.m {P : Program} {f : FuncId} {args : Array Value} {b : Bool} (h : Calls P f args w (RB b w)) : Calls P f args w fun e w' => e = .returned (.bool b) ∧ Below w.heap.size w w' :=
  h.mono fun _ _ ⟨he, n, hn⟩ => ⟨he, by rw [hn]; exact below_draws w n⟩
theorem RH.m {P : Program} {f : FuncId} {args : Array Value} {x : Value} (h : Calls P f args w fun e w' => e = .returned x ∧ w = w') : Calls P f args w fun e w' => e = .returned x ∧ Below w.heap.size w w' :=
  h.mono fun _ _ ⟨he, hn⟩ => ⟨he, by rw [← hn]; exact Below.refl _ _⟩
theorem RFB.m {P : Program} {f : FuncId} {args : Array Value} {X : Option Nat} {b : Bool} (h : Calls P f args w (RFB X b w)) : Calls P f args w fun e w' => ∃ r, e = .returned (.tuple #[.float .f32 r, .bool b]) ∧ Fl .f32 r X ∧ Below w.heap.size w w' :=
  h.mono fun _ _ ⟨r, n, he, hr, hn⟩ => ⟨r, he, hr, by rw [hn]; exact below_draws w n⟩
end
end Go.Proofs.YtajnncidkmafgaaDoor
