/- Lines of samples: copies, and lines that take a sample. Conditions: none beside the contracts' own. -/
import Derived.Test.YtbaokmapgdnhlaaL8
import Derived.Test.YtbaokmapgdnhlaaL9
set_option linter.unusedVariables false
set_option linter.unusedSimpArgs false
namespace Go.Proofs.Ytbaokmapgdnhlaa
open Go.RowKit
theorem wfs_add {xs ys : List Nat} (h : wfs xs) (h' : wfs ys) : wfs (xs ++ ys) := by
  intro x hx
  rcases List.mem_append.1 hx with h1 | h1
  · exact h x h1
  · exact h' x h1
section
variable {P : Program} {ops : Array Oper} {rest : List Oper} {o : Oper} {a : Act} {Q : Exit → Act → World → Prop}
/-- 'append(v, ys...)', v a row of the call's own: behind 'at_builtin'. -/
theorem ap_slice {W : World} (base : Nat) (hgd : o.guard = none) (s x : Operand) (t e : TypeId)
    (ho : o.op = .call { callee := .builtin .append, args := #[s, x], argTypes := #[t, t] })
    (ht : P.underlying t = some (.slice e)) (hinfo : (P.info? e).map (fun i => (i.zero, i.size, i.bytes)) = some (some (.float .f32 0), 1, 4))
    (v : Value) (xs ys : List Nat) (A : Option Addr) (m c : Nat) (hs : a.eval s = v) (hx : a.eval x = .slice A m c)
    (HO : Ow e W base v xs) (HR : Rd W A m ys) (hbase : base ≤ W.heap.size) (hl : xs.length ≤ 1073741824) (hm : m ≤ 1073741824)
    (h : ∀ v1 w1, Ow e w1 base v1 (xs ++ ys) → W.grownBy w1 v.ownBlock → (v1.ownBlock = v.ownBlock ∨ ∃ b, v1.ownBlock = some b ∧ W.heap.size ≤ b) → wpList P ops Q rest (a.put o.dst v1) w1) :
    wpList P ops Q (o :: rest) a W := by
  obtain ⟨i0, hi, hzz⟩ := Option.map_eq_some_iff.1 hinfo
  simp only [Prod.mk.injEq] at hzz
  obtain ⟨hz0, hz1, hz2⟩ := hzz
  have hlen := HR.len
  cases A with
  | some ad =>
    refine wpList_append_own_at W hgd s x t ho base e i0 (.float .f32 0) 1 4 ht hi hz0 hz1 hz2 rfl (by omega) v xs.length (flts xs) hs HO.own ad m c (flts ys) hx (by rw [flts_length]; omega) (fun j u hj => ?_) (fun u hu => ?_) (by simp only [maxLen]; omega) (by omega) hbase ?_
    · rw [flts_get] at hj
      obtain ⟨y, hy, rfl⟩ := Option.map_eq_some_iff.1 hj
      obtain ⟨ad', e', hc⟩ := HR.cell j y hy
      obtain rfl := Option.some.inj e'
      exact hc
    · obtain ⟨y, _, rfl⟩ := List.mem_map.1 hu
      rfl
    · intro v1 w1 hown hg _ hat
      have e1 : flts xs ++ flts ys = flts (xs ++ ys) := by simp [flts]
      refine h v1 w1 ⟨by rw [← e1]; simpa [hlen] using hown, wfs_add HO.wf HR.wf⟩ hg ?_
      rcases hat with hat | hat
      · exact .inl hat
      · exact .inr ⟨_, hat, Nat.le_refl _⟩
  | none =>
    have hy : ys = [] := by
      cases ys with
      | nil => rfl
      | cons y t => obtain ⟨ad, h0, _⟩ := HR.cell 0 y rfl; cases h0
    subst hy
    obtain rfl : m = 0 := by simpa using hlen.symm
    have hrun : (Builtin.append_ #[t, t] o.type #[v, .slice none 0 c]).run P W = .ok v W := by
      rcases HO.own.2 with ⟨rfl, hn⟩ | ⟨g, cap, cur, rfl, _, _, hnc, _⟩
      · simp [Builtin.append_, run_underlying ht, sizeOf, typeInfo, hi, Builtin.lenOf, Builtin.firstCells, hn]
      · simp [Builtin.append_, run_underlying ht, sizeOf, typeInfo, hi, Builtin.lenOf, Builtin.firstCells, hnc, storeCells]
    refine wpList_plain hgd fun K hK => ?_
    unfold Oper.wp
    simp only [execOp, ho, resolve, invoke, builtin, Sem.run_bind, Sem.run_pure, Result.andThen_ok, List.map_toArray, List.map_cons, List.map_nil, hs, hx, hrun]
    exact hK _ _ (h v W (by simpa using HO) (World.grownBy.refl _ _) (.inl rfl))
end
/-- A new slice of these samples. -/
def RX (xs : List Nat) (w : World) (e : Ending) (w' : World) : Prop := ∃ v, e = .returned v ∧ Of w' w.heap.size v xs ∧ Below w.heap.size w w'
set_option maxHeartbeats 400000 in
theorem impl_copyNumbers {A : Option Addr} {n c : Nat} {xs : List Nat} (w : World) (h : Rd w A n xs) (hn : n ≤ 1048576) : Calls Try.prog 62 #[.slice A n c] w (RX xs w) := by
  go_enter Try.func62, Try.ntmps62
  go_wp2_with (at_builtin; refine ap_slice w.heap.size rfl _ _ 25 22 rfl Try.underlying25 info_f32 _ [] xs _ _ _ rfl rfl (.empty _ _ _ (Nat.le_refl _)) (h.below ((Below.refl _ _).alloc (Nat.le_refl _) _)) (by simp) (by simp) (by omega) ?_; intro v1 w1 ho1 hg1 _)
  go_ret
  exact ⟨_, rfl, by simpa using ho1, ((Below.refl _ w).alloc (Nat.le_refl _) _).grown hg1 (by simp) (fun k hk => Ow.base (Ow.empty w w.heap.size 22 (Nat.le_refl _)) k hk)⟩
set_option maxHeartbeats 400000 in
theorem spec_l03Own {A : Option Addr} {n c : Nat} {xs : List Nat} (w : World) (h : Rd w A n xs) (hn : n ≤ 1048576) : Calls Try.prog 57 #[.slice A n c] w (RX xs w) := by
  go_enter Try.func57, Try.ntmps57
  go_wp2_with (at_builtin; refine ap_slice w.heap.size rfl _ _ 25 22 rfl Try.underlying25 info_f32 _ [] xs _ _ _ rfl rfl (.empty _ _ _ (Nat.le_refl _)) (h.below ((Below.refl _ _).alloc (Nat.le_refl _) _)) (by simp) (by simp) (by omega) ?_; intro v1 w1 ho1 hg1 _)
  go_ret
  exact ⟨_, rfl, by simpa using ho1, ((Below.refl _ w).alloc (Nat.le_refl _) _).grown hg1 (by simp) (fun k hk => Ow.base (Ow.empty w w.heap.size 22 (Nat.le_refl _)) k hk)⟩

/-! ### A line that takes a sample -/
def takeL (xs : List Nat) (k : Nat) : List Nat := (xs.drop 1).take (k - 1) ++ xs.drop (k - 1)
theorem takeL_len {xs : List Nat} {k : Nat} (h1 : 1 ≤ k) (h2 : k ≤ xs.length) : (takeL xs k).length = xs.length := by simp [takeL]; omega
theorem takeL_get {xs : List Nat} {k : Nat} (h1 : 1 ≤ k) (h2 : k ≤ xs.length) : (takeL xs k)[k]? = xs[k]? := by
  have hl : ((xs.drop 1).take (k - 1)).length = k - 1 := by simp; omega
  rw [takeL, List.getElem?_append_right (by omega), hl, List.getElem?_drop]
  congr 1; omega
theorem takeL_set {xs : List Nat} {k x : Nat} (h1 : 1 ≤ k) (hx : xs[k]? = some x) : (takeL xs k).set (k - 1) x = takeL xs (k + 1) := by
  obtain ⟨hk, rfl⟩ := List.getElem?_eq_some_iff.1 hx
  have hl : ((xs.drop 1).take (k - 1)).length = k - 1 := by simp; omega
  have hl2 : ((xs.drop 1).take (k + 1 - 1)).length = k := by simp; omega
  apply List.ext_getElem?
  intro i
  rw [List.getElem?_set]
  unfold takeL
  by_cases h : k - 1 = i
  · subst h
    rw [if_pos rfl, if_pos (by simp; omega), List.getElem?_append_left (by omega), List.getElem?_take_of_lt (by omega), List.getElem?_drop, List.getElem?_eq_getElem (by omega)]
    congr 1; congr 1; omega
  · rw [if_neg h]
    rcases Nat.lt_or_ge i (k - 1) with h3 | h3
    · rw [List.getElem?_append_left (by omega), List.getElem?_append_left (by omega), List.getElem?_take_of_lt (by omega), List.getElem?_take_of_lt (by omega)]
    · rw [List.getElem?_append_right (by omega), List.getElem?_append_right (by omega), hl, hl2, List.getElem?_drop, List.getElem?_drop]
      congr 1; omega
theorem takeL_end {xs : List Nat} {x : Nat} (hn : 0 < xs.length) : (takeL xs xs.length).set (xs.length - 1) x = xs.tail ++ [x] := by
  have h1 : (xs.drop 1).take (xs.length - 1) = xs.tail := by rw [List.take_of_length_le (by simp)]; simp
  have h2 : xs.drop (xs.length - 1) = [xs[xs.length - 1]] := by rw [List.drop_eq_getElem_cons (by omega), List.drop_of_length_le (by omega)]
  rw [takeL, h1, h2, List.set_append_right _ _ (by simp)]
  simp
theorem takeL_one (xs : List Nat) : takeL xs 1 = xs := by simp [takeL]
end Go.Proofs.Ytbaokmapgdnhlaa
