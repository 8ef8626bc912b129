/- Texts, first part: digits of numbers, rows of bytes and of strings. Conditions: none beside the contracts' own. -/
import Derived.Test.YtajnncidkmafgaaDoorL1
import Derived.Test.YtajnncidkmafgaaDoorA
import Derived.Lib.UnsafeStr
import Derived.Lib.Join
import Derived.Laws.IdiomStrings
import Derived.Laws.Concat
set_option linter.unusedVariables false
set_option linter.unusedSimpArgs false
namespace Go.Proofs.YtajnncidkmafgaaDoor
open Go.RowKit
section
variable {P : Program} {ops : Array Oper} {rest : List Oper} {o : Oper} {a : Act} {Q : Exit → Act → World → Prop}
/-- 'append(v, y)' of one value of one cell. -/
theorem ap_val {W : World} (base : Nat) (hgd : o.guard = none) (s x : Operand) (t e : TypeId) (z : Value) (bytes : Nat)
    (ho : o.op = .call { callee := .builtin .append, args := #[s, x], argTypes := #[t, t] })
    (ht : P.underlying t = some (.slice e)) (hinfo : (P.info? e).map (fun i => (i.zero, i.size, i.bytes)) = some (some z, 1, bytes)) (hz1 : z.cells.size = 1) (hby : bytes ≤ 64)
    (v : Value) (vs : List Value) (y : Value) (hy : y.oneCell' = true) (hs : a.eval s = v) (hx : a.eval x = .slice (some ⟨W.heap.size, 0, none⟩) 1 1)
    (HO : W.ownsRow base e 1 v vs.length vs) (hbase : base ≤ W.heap.size) (hl : vs.length ≤ 4194304)
    (h : ∀ v1 w1, w1.ownsRow base e 1 v1 (vs ++ [y]).length (vs ++ [y]) → W.grownBy w1 v.ownBlock → (v1.ownBlock = v.ownBlock ∨ ∃ b, v1.ownBlock = some b ∧ W.heap.size ≤ b) → wpList P ops Q rest (a.put o.dst v1) w1) :
    wpList P ops Q (o :: rest) a (W.alloc (.cells #[y] e)) := by
  obtain ⟨i0, hi, hzz⟩ := Option.map_eq_some_iff.1 hinfo
  simp only [Prod.mk.injEq] at hzz
  obtain ⟨hz0, hz1', hz2⟩ := hzz
  have hbb : (vs.length + 1) * bytes ≤ 140737488355328 := Nat.le_trans (Nat.mul_le_mul (show vs.length + 1 ≤ 4194305 by omega) hby) (by decide)
  refine wpList_append_own_at (W.alloc (.cells #[y] e)) hgd s x t ho base e i0 z 1 bytes ht hi hz0 hz1' hz2 hz1 (by omega) v vs.length vs hs (HO.alloc _) ⟨W.heap.size, 0, none⟩ 1 1 [y] hx rfl
    (World.news_of_block (cs := #[y]) (t := e) (fr := (0, 0)) (heap_alloc_new W _)) (fun u hu => by rw [List.mem_singleton.1 hu]; exact hy) (by simp only [maxLen]; omega) hbb (by simp; omega) ?_
  intro v1 w1 hown hg _ hat
  refine h v1 w1 (by simpa using hown) (World.grownBy.trans (World.grownBy_alloc W _ _) hg) ?_
  rcases hat with hat | hat
  · exact .inl hat
  · exact .inr ⟨_, hat, by simp⟩
end
theorem row_lt {w : World} {B : Nat} {e : TypeId} {n : Nat} {v : Value} {l : List Value} (h : w.ownsRow B e 1 v n l) (k : Nat) (hk : v.ownBlock = some k) : B ≤ k ∧ k < w.heap.size := by
  rcases h.2 with ⟨rfl, _⟩ | ⟨g, cap, cur, rfl, hb, hh, _⟩
  · simp [Value.ownBlock] at hk
  · have : g = k := by simpa [Value.ownBlock] using hk
    subst this
    exact ⟨hb, (Array.getElem?_eq_some_iff.1 hh).1⟩
theorem row_below {w w' : World} {B : Nat} {e : TypeId} {n : Nat} {v : Value} {l : List Value} (h : w.ownsRow B e 1 v n l) (hb : Below w.heap.size w w') : w'.ownsRow B e 1 v n l :=
  h.kept (grown_of_below hb none) (by cases v.ownBlock <;> simp)
/-- A row of the call's own, read. -/
theorem row_shape {w : World} {B : Nat} {e : TypeId} {v : Value} {l : List Value} (h : w.ownsRow B e 1 v l.length l) :
    ∃ A c, v = .slice A l.length c ∧ (l ≠ [] → ∃ g, A = some ⟨g, 0, none⟩ ∧ B ≤ g ∧ g < w.heap.size ∧ l.length ≤ c ∧ ∀ j x, l[j]? = some x → w.cell? ⟨g, j, none⟩ = some x) := by
  rcases h.2 with ⟨rfl, h0⟩ | ⟨g, cap, cur, rfl, hb, hh, h3, h4, h5⟩
  · exact ⟨none, 0, by rw [h0], fun hne => absurd (List.eq_nil_of_length_eq_zero h0) hne⟩
  · refine ⟨_, cap, rfl, fun _ => ⟨g, rfl, hb, (Array.getElem?_eq_some_iff.1 hh).1, by omega, fun j x hx => ?_⟩⟩
    have := h.cells (g := g) rfl j x hx
    rwa [add_plain] at this

/-- A string. -/
abbrev tx (l : List UInt8) : Value := .string ⟨l.toArray⟩
def txs (ls : List (List UInt8)) : List Value := ls.map tx
theorem txs_snoc (ls : List (List UInt8)) (l : List UInt8) : txs ls ++ [tx l] = txs (ls ++ [l]) := by simp [txs]
theorem txs_length (ls : List (List UInt8)) : (txs ls).length = ls.length := by simp [txs]
theorem info_u8 : (Tryd.prog.info? 5).map (fun i => (i.zero, i.size, i.bytes)) = some (some (.int .u8 0), 1, 1) := by kernel_rfl
theorem info_str : (Tryd.prog.info? 9).map (fun i => (i.zero, i.size, i.bytes)) = some (some (.string ByteArray.empty), 1, 16) := by kernel_rfl
/-- Bytes in a row of the call's own. -/
abbrev OwB (w : World) (B : Nat) (v : Value) (l : List UInt8) : Prop := w.ownsRow B 5 1 v (Lib.byteCells l).length (Lib.byteCells l)
/-- Strings in a row of the call's own. -/
abbrev OwT (w : World) (B : Nat) (v : Value) (ls : List (List UInt8)) : Prop := w.ownsRow B 9 1 v (txs ls).length (txs ls)
theorem bytes_snoc (l : List UInt8) (b : UInt8) : Lib.byteCells l ++ [.int .u8 (b.toNat : Int)] = Lib.byteCells (l ++ [b]) := by simp [Lib.byteCells]
theorem row_len {w : World} {B : Nat} {e : TypeId} {n : Nat} {v : Value} {l l' : List Value} (h : w.ownsRow B e 1 v n l) (hl : l = l') : w.ownsRow B e 1 v l'.length l' := by
  subst hl
  have : l.length = n := by have := h.1; omega
  rw [this]; exact h

/-! ### Hexadecimal digits -/
def hexB (d : Nat) : UInt8 := [48, 49, 50, 51, 52, 53, 54, 55, 56, 57, 97, 98, 99, 100, 101, 102].getD d 0
def hexD (b : Int) (k : Nat) : Nat := b.toNat / 2 ^ (28 - 4 * k) % 16
theorem hexD_lt (b : Int) (k : Nat) : hexD b k < 16 := Nat.mod_lt _ (by decide)
def hexT (b : Int) (k : Nat) : List UInt8 := (List.range k).map fun j => hexB (hexD b j)
theorem hexT_succ (b : Int) (k : Nat) : hexT b (k + 1) = hexT b k ++ [hexB (hexD b k)] := by simp [hexT, List.range_succ]
theorem hexT_length (b : Int) (k : Nat) : (hexT b k).length = k := by simp [hexT]
theorem bitsC_le {x : Nat} {X : Option Nat} (hx : Fl .f32 x X) : 0 ≤ bitsC X ∧ bitsC X < 4294967296 := by
  rcases hx.cases with ⟨rfl, n1⟩ | ⟨rfl, n1⟩
  · decide
  · have := hx.wf
    simp only [bitsC]
    have e : (2 : Nat) ^ FloatKind.f32.format.width = 4294967296 := by decide
    omega
theorem hex_and {b : Int} (h0 : 0 ≤ b) (h1 : b < 4294967296) (k : Nat) : bits .and .i64 (b / 2 ^ (28 - 4 * k)) 15 = ((hexD b k : Nat) : Int) := by
  obtain ⟨n, rfl⟩ := Int.eq_ofNat_of_zero_le h0
  have e : ((n : Nat) : Int) / 2 ^ (28 - 4 * k) = ((n / 2 ^ (28 - 4 * k) : Nat) : Int) := by simp
  have hle : n / 2 ^ (28 - 4 * k) ≤ n := Nat.div_le_self _ _
  have hlt : n / 2 ^ (28 - 4 * k) < 4294967296 := by omega
  generalize hq : n / 2 ^ (28 - 4 * k) = q at *
  rw [e, show (15 : Int) = 2 ^ 4 - 1 from rfl, bits_mask .i64 63 (by decide) wraps_i64 4 (by decide) _ (by omega) (by omega)]
  simp only [hexD, Int.toNat_natCast, hq]
  omega
theorem hex_slice {d : Nat} (hd : d < 16) : (ByteArray.mk #[48, 49, 50, 51, 52, 53, 54, 55, 56, 57, 97, 98, 99, 100, 101, 102]).extract d (d + 1) = ⟨#[hexB d]⟩ := by
  have : d = 0 ∨ d = 1 ∨ d = 2 ∨ d = 3 ∨ d = 4 ∨ d = 5 ∨ d = 6 ∨ d = 7 ∨ d = 8 ∨ d = 9 ∨ d = 10 ∨ d = 11 ∨ d = 12 ∨ d = 13 ∨ d = 14 ∨ d = 15 := by omega
  rcases this with rfl | rfl | rfl | rfl | rfl | rfl | rfl | rfl | rfl | rfl | rfl | rfl | rfl | rfl | rfl | rfl <;> rfl
theorem run_hex_slice {d : Nat} (hd : d < 16) (W : World) : (Instr.slice 9 (.string ⟨#[48, 49, 50, 51, 52, 53, 54, 55, 56, 57, 97, 98, 99, 100, 101, 102]⟩) (some (.int .i64 (d : Int))) (some (.int .i64 ((d : Int) + 1))) none).run Tryd.prog W = .ok (.string ⟨#[hexB d]⟩) W := by
  rw [run_slice_string W 9 _ .i64 .i64 _ _ Tryd.underlying9 (by omega) (by omega) (by show (d : Int) + 1 ≤ 16; omega)]
  rw [show ((d : Int)).toNat = d by omega, show ((d : Int) + 1).toNat = d + 1 by omega, hex_slice hd]
theorem run_hex_index {d : Nat} (hd : d < 16) (W : World) : (Instr.index 9 (.string ⟨#[48, 49, 50, 51, 52, 53, 54, 55, 56, 57, 97, 98, 99, 100, 101, 102]⟩) (.int .i64 (d : Int))).run Tryd.prog W = .ok (.int .u8 ((hexB d).toNat : Int)) W := by
  have : d = 0 ∨ d = 1 ∨ d = 2 ∨ d = 3 ∨ d = 4 ∨ d = 5 ∨ d = 6 ∨ d = 7 ∨ d = 8 ∨ d = 9 ∨ d = 10 ∨ d = 11 ∨ d = 12 ∨ d = 13 ∨ d = 14 ∨ d = 15 := by omega
  rcases this with rfl | rfl | rfl | rfl | rfl | rfl | rfl | rfl | rfl | rfl | rfl | rfl | rfl | rfl | rfl | rfl <;> (rw [run_index_string W 9 _ .i64 _ Tryd.underlying9, dif_pos (by decide)]; rfl)
set_option maxHeartbeats 400000 in
theorem impl_hexOf {x : Nat} {X : Option Nat} (hx : Fl .f32 x X) (w : World) : Calls Tryd.prog 51 #[.float .f32 x] w fun e w' => e = .returned (tx (hexT (bitsC X) 8)) ∧ Below w.heap.size w w' := by
  obtain ⟨hb0, hb1⟩ := bitsC_le hx
  go_enter Tryd.func51, Tryd.ntmps51
  go_wp2_with (go_at_call 66; refine (impl_BitsOf hx _).mono ?_; rintro e w' ⟨rfl, n, rfl⟩)
  go_loopw [3, 5] (fun s i w' => ∃ k : Nat, k ≤ 8 ∧ s = tx (hexT (bitsC X) k) ∧ i = .int .i64 (28 - 4 * (k : Int)) ∧ Below w.heap.size w w') (fun _ i _ => (intOf i + 4).toNat)
  case atStart => exact ⟨0, by omega, rfl, rfl, below_draws _ _⟩
  case round =>
    obtain ⟨k, hk, rfl, rfl, hb⟩ := hrel
    by_cases hlt : k < 8
    · have hdl := hexD_lt (bitsC X) k
      have hand := hex_and hb0 hb1 k
      have hsl : ∀ W, _ := fun W => run_hex_slice hdl W
      have hwr : wrap64 ((hexD (bitsC X) k : Int) + 1) = (hexD (bitsC X) k : Int) + 1 := by unfold wrap64; omega
      have hadd : ∀ W, (Op.stringOp .add ⟨(hexT (bitsC X) k).toArray⟩ ⟨#[hexB (hexD (bitsC X) k)]⟩).run Tryd.prog W = .ok (tx (hexT (bitsC X) (k + 1))) W := fun W => by
        rw [run_string_add_sum W _ _ (by
          have h0 : (ByteArray.mk (hexT (bitsC X) k).toArray).size = k := by show (hexT (bitsC X) k).toArray.size = _; simp [hexT_length]
          rw [h0]; show k + 1 ≤ _; omega)]
        have := ByteArray.mk_append_mk (hexT (bitsC X) k) [hexB (hexD (bitsC X) k)]
        rw [hexT_succ]; exact congrArg (fun z => Result.ok (Value.string z) W) this
      go_wp2
      exact ⟨⟨k + 1, by omega, rfl, by congr 1; omega, hb⟩, by simp [intOf]; omega⟩
    · obtain rfl : k = 8 := by omega
      go_wp2
      go_ret
      exact ⟨rfl, hb⟩
/-- Bytes in a row of the call's own, back to a string. -/
theorem run_bytes_back {w : World} {B : Nat} {v : Value} {l : List UInt8} (h : OwB w B v l) (hl : l ≠ []) :
    ∃ A c, v = .slice A l.length c ∧ (convert 55 9 (.slice A l.length c)).run Tryd.prog w = .ok (tx l) w := by
  obtain ⟨A, c, rfl, hc⟩ := row_shape h
  obtain ⟨g, rfl, hB, hg, hlc, hcell⟩ := hc (by intro e; apply hl; simpa [Lib.byteCells] using e)
  rw [Lib.byteCells_length]
  refine ⟨_, c, rfl, run_convert_bytes_back w 55 9 5 ⟨g, 0, none⟩ c l Tryd.underlying55 Tryd.underlying5 Tryd.underlying9 (fun j hj => ?_)⟩
  rw [add_plain]
  exact hcell j _ (by simp [Lib.byteCells, hj])
end Go.Proofs.YtajnncidkmafgaaDoor
