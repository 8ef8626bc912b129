/- Rooms: their empty lines. Conditions: none beside the contracts' own. -/
import Derived.Test.YtlenpecnfilkjaaU1
import Derived.Test.YtlenpecnfilkjaaJ5
set_option linter.unusedVariables false
set_option linter.unusedSimpArgs false
namespace Go.Proofs.Ytlenpecnfilkjaa
open Go.RowKit
theorem infoJ32 : (Try.prog.info? 22).map (fun i => (i.zero, i.size, i.bytes)) = some (some (.float .f32 0), 1, 4) := by kernel_rfl
theorem infoJSS : (Try.prog.info? 126).map (fun i => (i.zero, i.size, i.bytes)) = some (some (.slice none 0 0), 1, 24) := by kernel_rfl
theorem own_at {g k n c : Nat} (e : (Value.slice (some ⟨g, 0, none⟩) n c).ownBlock = some k) : g = k := by simpa [Value.ownBlock] using e
def zeroX (T : List Int) (i : Nat) : List Nat := List.replicate ((T[i]?).getD 0).toNat 0
theorem OwSS.congr {w : World} {B M n : Nat} {v : Value} {F : Nat → Value} {X X' : Nat → List Nat} (h : OwSS w B M v n F X) (e : ∀ i, i < n → X i = X' i) : OwSS w B M v n F X' := ⟨h.own, fun i hi => by rw [← e i hi]; exact h.each i hi, h.inc, h.outer, h.top, h.low⟩
theorem OwSS.lower {w : World} {B B' M n : Nat} {v : Value} {F : Nat → Value} {X : Nat → List Nat} (h : OwSS w B M v n F X) (hB : B' ≤ B) : OwSS w B' M v n F X := ⟨World.ownsRow.mono h.own hB, fun i hi => ⟨World.ownsRow.mono (h.each i hi).own hB, (h.each i hi).wf⟩, h.inc, h.outer, h.top, fun k e => Nat.le_trans hB (h.low k e)⟩
theorem OwSS.grow {w w1 : World} {B k q : Nat} {v v1 : Value} {F : Nat → Value} {T : List Int} (h : OwSS w B w.heap.size v k F (zeroX T)) (hB : B ≤ w.heap.size) (hq : q ≤ 64) (hT : T[k]? = some (q : Int))
    (hown : w1.ownsRow B 126 1 v1 ((List.range k).map F ++ [Value.slice (some ⟨w.heap.size, 0, none⟩) q q]).length ((List.range k).map F ++ [Value.slice (some ⟨w.heap.size, 0, none⟩) q q])) (hg : (w.alloc (.cells (madeCells #[.float .f32 0] q) 22)).grownBy w1 v.ownBlock) (hat : v1.ownBlock = v.ownBlock ∨ ∃ b, v1.ownBlock = some b ∧ (w.alloc (.cells (madeCells #[.float .f32 0] q) 22)).heap.size ≤ b) :
    ∃ F', OwSS w1 B w1.heap.size v1 (k + 1) F' (zeroX T) := by
  have hu := Ow.made w B 22 q hB (by omega)
  have hs := (h.below ((Below.refl _ w).alloc (Nat.le_refl _) (.cells (madeCells #[.float .f32 0] q) 22))).snoc (by simp) hu (fun k e => Nat.le_of_eq (own_at e)) hown hg hat (by simp; omega) (ownsRow_lt hown)
  refine ⟨_, hs.congr (fun i hi => ?_)⟩
  by_cases hik : i < k
  · simp only [if_pos hik]
  · simp only [if_neg hik]
    obtain rfl : i = k := by omega
    rw [zeroX, hT]; simp
theorem apart_new' {v v1 u : Value} {m : Nat} (hd : v.ownBlock = none ∨ v.ownBlock ≠ u.ownBlock) (hat : v1.ownBlock = v.ownBlock ∨ ∃ b, v1.ownBlock = some b ∧ m ≤ b) (hu : ∀ k, u.ownBlock = some k → k < m) : v1.ownBlock = none ∨ v1.ownBlock ≠ u.ownBlock := by
  rcases hat with h | ⟨b, h, hb⟩
  · rw [h]; exact hd
  · refine .inr (fun e => ?_)
    have := hu b (by rw [← e, h])
    omega
/-- Lines and a bool. -/
def REm (ok : Bool) (N : Nat) (T : List Int) (w : World) (e : Ending) (w' : World) : Prop := ∃ v F, e = .returned (.tuple #[v, .bool ok]) ∧ OwSS w' w.heap.size w'.heap.size v (if ok = true then N else 0) F (zeroX T) ∧ Below w.heap.size w w'
theorem roomOk_all {n m : Nat} {f g : Nat → Int} (h : roomOk n m f g = true) : (lens n f m g).all (fun x => inC x 1 64) = true := by
  rw [lens_all]
  simp only [roomOk, Bool.and_eq_true] at h ⊢
  exact h.1
set_option maxHeartbeats 1600000 in
set_option maxRecDepth 100000 in
theorem spec_l03Lengths {b : Nat} {A B : Option Addr} {n m c d : Nat} {f0 : Nat → Int} {f1 f2 f3 : Nat → Nat} {f4 : Nat → Bool} {g0 : Nat → Int} {g1 : Nat → Nat} (w : World) (hp0 : w.cell? ⟨b, 0, none⟩ = some (.slice A n c)) (hp1 : w.cell? ⟨b, 1, none⟩ = some (.slice B m d)) (hlb : b < w.heap.size) (h : RdDelay w A n f0 f1 f2 f3 f4) (hn : n ≤ 1048576) (h' : RdPass w B m g0 g1) (hm : m ≤ 1048576) :
    Calls Try.prog 106 #[.pointer (some ⟨b, 0, none⟩)] w fun e w' => ∃ v, e = .returned v ∧ OfI w' w.heap.size v (lens n f0 m g0) ∧ Below w.heap.size w w' := by
  go_enter Try.func106, Try.ntmps106
  go_wp2_with fail
  go_loopw [3, 4] (fun v i w' => ∃ k, k ≤ n ∧ i = .int .i64 (k : Nat) ∧ OfI w' w.heap.size v ((List.range k).map f0) ∧ Below w.heap.size w w') (fun _ i _ => n - (intOf i).toNat)
  case atStart =>
    refine ⟨0, Nat.zero_le _, rfl, ⟨?_⟩, (Below.refl _ _).alloc (Nat.le_refl _) _⟩
    have := World.ownsRow_lit (base := w.heap.size) (e := 2) (size := 1) w #[] 0 (Nat.le_refl _) (Nat.zero_le _) (by simp)
    simpa [intv] using this
  case round =>
    obtain ⟨k, hk, rfl, ho, hb⟩ := hrel
    have hsz := hb.size
    have hc0 := (cell_below (o := 0) hb hlb).trans hp0
    have hc1 := (cell_below (o := 1) hb hlb).trans hp1
    by_cases hlt : k < n
    · obtain ⟨ad, rfl, c0, c1, c2, c3, c4⟩ := (h.below hb).cell k hlt
      clear h h' hp0 hp1
      go_wp2_with (at_builtin; refine ap_int (w0 := w) w.heap.size rfl _ _ 106 2 rfl Try.underlying106 info_i64 _ _ _ rfl (by go_simp) (by exact ho) (by exact hb) hsz (by simp; omega) ?_; intro v1 w3 ho3 hb3 hg3 hat)
      exact ⟨⟨k + 1, by omega, by go_num, by rw [List.range_succ, List.map_append]; exact ho3, hb3⟩, by simp [intOf]; omega⟩
    · obtain rfl : k = n := by omega
      rw [← lens_zero k f0 g0] at ho
      clear h
      go_wp2_with fail
      go_loopw [3, 5] (fun v i w' => ∃ q, q ≤ m ∧ i = .int .i64 (q : Nat) ∧ OfI w' w.heap.size v (lens k f0 q g0) ∧ Below w.heap.size w w') (fun _ i _ => m - (intOf i).toNat)
      case atStart => exact ⟨0, Nat.zero_le _, rfl, ho, hb⟩
      case round =>
        clear ho hb hsz hc0 hc1
        obtain ⟨q, hq, rfl, ho, hb⟩ := hrel
        have hsz := hb.size
        have hc0 := (cell_below (o := 0) hb hlb).trans hp0
        have hc1 := (cell_below (o := 1) hb hlb).trans hp1
        by_cases hlq : q < m
        · obtain ⟨ad, rfl, c0, c1⟩ := (h'.below hb).cell q hlq
          clear h' hp0 hp1
          go_wp2_with (at_builtin; refine ap_int (w0 := w) w.heap.size rfl _ _ 106 2 rfl Try.underlying106 info_i64 _ _ _ rfl (by go_simp) (by exact ho) (by exact hb) hsz (by rw [lens_len]; omega) ?_; intro v1 w3 ho3 hb3 hg3 hat)
          exact ⟨⟨q + 1, by omega, by go_num, by rw [lens_snoc]; exact ho3, hb3⟩, by simp [intOf]; omega⟩
        · obtain rfl : q = m := by omega
          go_wp2
          go_ret
          exact ⟨_, rfl, ho, hb⟩
set_option maxHeartbeats 1600000 in
set_option maxRecDepth 100000 in
theorem spec_l03Empty {b : Nat} {A B : Option Addr} {n m c d : Nat} {f0 : Nat → Int} {f1 f2 f3 : Nat → Nat} {f4 : Nat → Bool} {g0 : Nat → Int} {g1 : Nat → Nat} (w : World) (hp0 : w.cell? ⟨b, 0, none⟩ = some (.slice A n c)) (hp1 : w.cell? ⟨b, 1, none⟩ = some (.slice B m d)) (hlb : b < w.heap.size) (h : RdDelay w A n f0 f1 f2 f3 f4) (hn : n ≤ 1048576) (h' : RdPass w B m g0 g1) (hm : m ≤ 1048576) (hall : (lens n f0 m g0).all (fun x => inC x 1 64) = true) :
    Calls Try.prog 83 #[.pointer (some ⟨b, 0, none⟩)] w fun e w' => ∃ v F, e = .returned v ∧ OwSS w' w.heap.size w'.heap.size v (n + m) F (zeroX (lens n f0 m g0)) ∧ Below w.heap.size w w' := by
  have HL := Lib.hid (lens_len n f0 m g0)
  have HA := Lib.hid hall
  clear hall
  go_enter Try.func83, Try.ntmps83
  go_wp2_with fail
  have hB0 : Below w.heap.size w (w.alloc (.cells #[] 126)) := (Below.refl _ _).alloc (Nat.le_refl _) _
  refine (spec_l03Lengths _ ((cell_below hB0 hlb).trans hp0) ((cell_below hB0 hlb).trans hp1) (by simp; omega) (h.below hB0) hn (h'.below hB0) hm).mono ?_
  rintro e W1 ⟨v0, rfl, hoT, hb1⟩
  obtain ⟨A1, c1, rfl⟩ := hoT.shape_n HL.out
  have hO0 : OwSS (w.alloc (.cells #[] 126)) w.heap.size (w.heap.size + 1) (.slice (some ⟨w.heap.size, 0, none⟩) 0 0) 0 (fun _ => .slice none 0 0) (zeroX (lens n f0 m g0)) := by
    refine ⟨?_, fun i hi => by omega, fun i j a b h1 h2 => by omega, fun i hi => by omega, fun k e => ?_, fun k e => ?_⟩
    · have := World.ownsRow_lit (base := w.heap.size) (e := 126) (size := 1) w #[] 0 (Nat.le_refl _) (Nat.zero_le _) (by simp)
      simpa using this
    · rcases e with e | ⟨i, hi, _⟩
      · have : w.heap.size = k := by simpa [Value.ownBlock] using e
        omega
      · omega
    · have : w.heap.size = k := by simpa [Value.ownBlock] using e
      omega
  have hsz1 : w.heap.size + 1 ≤ W1.heap.size := by have := hb1.size; simpa using this
  have hO1 := (hO0.below hb1).top_le hsz1
  have hap0 := own_apart' (vi := .slice A1 (n + m) c1) (vj := .slice (some ⟨w.heap.size, 0, none⟩) 0 0) (Bi := w.heap.size + 1) (m := w.heap.size + 1) (fun k e => by have := hoT.base k e; simpa using this) (fun k e => by have := own_at e; omega) (Nat.le_refl _)
  have hT1 := hoT.low (B' := w.heap.size) (by simp)
  have hb2 := below_next hB0 (by simp) hb1
  clear hO0 hoT hb1 h h' hp0 hp1
  go_wp2_with fail
  go_loopw [3, 11] (fun v i w' => ∃ k F, k ≤ n + m ∧ i = .int .i64 (k : Nat) ∧ OwSS w' w.heap.size w'.heap.size v k F (zeroX (lens n f0 m g0)) ∧ OfI w' w.heap.size (.slice A1 (n + m) c1) (lens n f0 m g0) ∧ ((Value.slice A1 (n + m) c1).ownBlock = none ∨ (Value.slice A1 (n + m) c1).ownBlock ≠ v.ownBlock) ∧ Below w.heap.size w w') (fun _ i _ => n + m - (intOf i).toNat)
  case atStart => exact ⟨0, _, Nat.zero_le _, rfl, hO1, hT1, hap0, hb2⟩
  case round =>
    clear hO1 hT1 hap0 hb2
    obtain ⟨k, F, hk, rfl, ho, hT, hap, hb⟩ := hrel
    have hsz := hb.size
    by_cases hlt : k < n + m
    · obtain ⟨ad, x0, e1, hc, hx⟩ := (hT.rd HL.out).at_ hlt
      cases e1
      have h64 := (inC_iff _ _ _).1 (List.all_eq_true.1 HA.out x0 (List.mem_of_getElem? hx))
      obtain ⟨q, rfl⟩ : ∃ q : Nat, x0 = (q : Int) := ⟨x0.toNat, by omega⟩
      have hmk := mk_float (P := Try.prog) 126 22 Try.underlying126 infoJ32 .i64 q (by omega)
      have HX := Lib.hid hx
      have HO := Lib.hid ho
      have hrow : (wr.alloc (.cells (madeCells #[.float .f32 0] q) 22)).ownsRow w.heap.size 126 1 u3 ((List.range k).map F).length ((List.range k).map F) := by
        rw [List.length_map, List.length_range]; exact ho.own.alloc _
      clear hx ho
      go_wp2_with ((at_builtin; refine ap_val w.heap.size rfl _ _ 80 126 (.slice none 0 0) 24 rfl Try.underlying80 infoJSS rfl (by decide) u3 ((List.range k).map F) (.slice (some ⟨wr.heap.size, 0, none⟩) q q) (by simp [Value.oneCell']) rfl (by go_simp) hrow (by simp; omega) (by simp; omega) ?_; intro v1 w1 hown hg hat))
      obtain ⟨F', hO'⟩ := HO.out.grow hsz (by omega) HX.out hown hg hat
      have hal : Below w.heap.size w (wr.alloc (.cells (madeCells #[.float .f32 0] q) 22)) := hb.alloc hsz _
      exact ⟨⟨k + 1, F', by omega, by go_num, hO', (hT.below ((Below.refl _ wr).alloc (Nat.le_refl _) _)).other hg hap, ne_swap (apart_new' (ne_swap hap) hat (fun j e => by have := hT.lt j e; simp; omega)), hal.grown hg (by simp; omega) HO.out.low⟩, by simp [intOf]; omega⟩
    · obtain rfl : k = n + m := by omega
      go_wp2
      go_ret
      exact ⟨_, _, rfl, ho, hb⟩
set_option maxHeartbeats 400000 in
theorem impl_zeros {q : Nat} (w : World) (hq : q ≤ 64) : Calls Try.prog 107 #[.int .i64 (q : Int)] w fun e w' => e = .returned (.slice (some ⟨w.heap.size, 0, none⟩) q q) ∧ w' = w.alloc (.cells (madeCells #[.float .f32 0] q) 22) := by
  have hmk := mk_float (P := Try.prog) 126 22 Try.underlying126 infoJ32 .i64 q (by omega)
  go_enter Try.func107, Try.ntmps107
  go_wp2
  go_ret
  exact ⟨rfl, rfl⟩
set_option maxHeartbeats 1600000 in
set_option maxRecDepth 100000 in
theorem impl_empty {A B : Option Addr} {n m c d x y : Nat} {f0 : Nat → Int} {f1 f2 f3 : Nat → Nat} {f4 : Nat → Bool} {g0 : Nat → Int} {g1 : Nat → Nat} (w : World) (h : RdDelay w A n f0 f1 f2 f3 f4) (hn : n ≤ 1048576) (h' : RdPass w B m g0 g1) (hm : m ≤ 1048576) (hall : (lens n f0 m g0).all (fun x => inC x 1 64) = true) :
    Calls Try.prog 84 #[.agg #[.slice A n c, .slice B m d, .float .f32 x, .float .f32 y]] w fun e w' => ∃ v F, e = .returned v ∧ OwSS w' w.heap.size w'.heap.size v (n + m) F (zeroX (lens n f0 m g0)) ∧ Below w.heap.size w w' := by
  have HL := Lib.hid (lens_len n f0 m g0)
  have HA := Lib.hid hall
  have hB0 : Below w.heap.size w (w.alloc (.cells #[.slice A n c, .slice B m d, .float .f32 x, .float .f32 y] 76)) := (Below.refl _ _).alloc (Nat.le_refl _) _
  clear hall
  go_enter Try.func84, Try.ntmps84
  go_wp2_with fail
  refine (impl_lengths _ (h.below hB0) hn (h'.below hB0) hm).mono ?_
  rintro e W1 ⟨v0, rfl, hoT, hb1⟩
  obtain ⟨A1, c1, rfl⟩ := hoT.shape_n HL.out
  have hO1 : OwSS W1 w.heap.size W1.heap.size (.slice none 0 0) 0 (fun _ => .slice none 0 0) (zeroX (lens n f0 m g0)) := OwSS.nil _ _ _ _ _
  have hap0 : (Value.slice A1 (n + m) c1).ownBlock = none ∨ (Value.slice A1 (n + m) c1).ownBlock ≠ (Value.slice none 0 0).ownBlock := ne_swap (.inl rfl)
  have hT1 := hoT.low (B' := w.heap.size) (by simp)
  have hb2 := below_next hB0 (by simp) hb1
  clear hoT hb1 h h'
  go_wp2_with fail
  go_loopw [3, 9] (fun v i w' => ∃ k F, k ≤ n + m ∧ i = .int .i64 (k : Nat) ∧ OwSS w' w.heap.size w'.heap.size v k F (zeroX (lens n f0 m g0)) ∧ OfI w' w.heap.size (.slice A1 (n + m) c1) (lens n f0 m g0) ∧ ((Value.slice A1 (n + m) c1).ownBlock = none ∨ (Value.slice A1 (n + m) c1).ownBlock ≠ v.ownBlock) ∧ Below w.heap.size w w') (fun _ i _ => n + m - (intOf i).toNat)
  case atStart => exact ⟨0, _, Nat.zero_le _, rfl, hO1, hT1, hap0, hb2⟩
  case round =>
    clear hO1 hT1 hap0 hb2
    obtain ⟨k, F, hk, rfl, ho, hT, hap, hb⟩ := hrel
    have hsz := hb.size
    by_cases hlt : k < n + m
    · obtain ⟨ad, x0, e1, hc, hx⟩ := (hT.rd HL.out).at_ hlt
      cases e1
      have h64 := (inC_iff _ _ _).1 (List.all_eq_true.1 HA.out x0 (List.mem_of_getElem? hx))
      obtain ⟨q, rfl⟩ : ∃ q : Nat, x0 = (q : Int) := ⟨x0.toNat, by omega⟩
      have hmk := mk_float (P := Try.prog) 126 22 Try.underlying126 infoJ32 .i64 q (by omega)
      have HX := Lib.hid hx
      have HO := Lib.hid ho
      have hrow : (wr.alloc (.cells (madeCells #[.float .f32 0] q) 22)).ownsRow w.heap.size 126 1 u3 ((List.range k).map F).length ((List.range k).map F) := by
        rw [List.length_map, List.length_range]; exact ho.own.alloc _
      clear hx ho
      go_wp2_with (first | (go_at_call 107; refine (impl_zeros _ (by omega)).mono ?_; rintro e w' ⟨rfl, rfl⟩) | (at_builtin; refine ap_val w.heap.size rfl _ _ 80 126 (.slice none 0 0) 24 rfl Try.underlying80 infoJSS rfl (by decide) u3 ((List.range k).map F) (.slice (some ⟨wr.heap.size, 0, none⟩) q q) (by simp [Value.oneCell']) rfl (by go_simp) hrow (by simp; omega) (by simp; omega) ?_; intro v1 w1 hown hg hat))
      obtain ⟨F', hO'⟩ := HO.out.grow hsz (by omega) HX.out hown hg hat
      have hal : Below w.heap.size w (wr.alloc (.cells (madeCells #[.float .f32 0] q) 22)) := hb.alloc hsz _
      exact ⟨⟨k + 1, F', by omega, by go_num, hO', (hT.below ((Below.refl _ wr).alloc (Nat.le_refl _) _)).other hg hap, ne_swap (apart_new' (ne_swap hap) hat (fun j e => by have := hT.lt j e; simp; omega)), hal.grown hg (by simp; omega) HO.out.low⟩, by simp [intOf]; omega⟩
    · obtain rfl : k = n + m := by omega
      go_wp2
      go_ret
      exact ⟨_, _, rfl, ho, hb⟩
set_option maxHeartbeats 800000 in
theorem spec_EmptyRoom {A B : Option Addr} {n m c d x y : Nat} {f0 : Nat → Int} {f1 f2 f3 : Nat → Nat} {f4 : Nat → Bool} {g0 : Nat → Int} {g1 : Nat → Nat} (w : World) (h : RdDelay w A n f0 f1 f2 f3 f4) (hn : n ≤ 1048576) (h' : RdPass w B m g0 g1) (hm : m ≤ 1048576) :
    Calls Try.prog 46 #[.agg #[.slice A n c, .slice B m d, .float .f32 x, .float .f32 y]] w (REm (roomOk n m f0 g0) (n + m) (lens n f0 m g0) w) := by
  have hB0 : Below w.heap.size w (w.alloc (.cells #[.slice A n c, .slice B m d, .float .f32 x, .float .f32 y] 76)) := (Below.refl _ _).alloc (Nat.le_refl _) _
  cases hok : roomOk n m f0 g0
  · go_enter Try.func46, Try.ntmps46
    go_wp2_with fail
    refine (spec_l03Is _ (A := A) (n := n) (c := c) (B := B) (m := m) (d := d) (by simp [go_sem]) (by simp [go_sem]) (h.below hB0) hn (h'.below hB0) hm).mono ?_
    rintro e w' ⟨rfl, rfl⟩
    rw [hok]
    go_wp2_with fail
    go_ret2
    exact ⟨_, _, rfl, OwSS.nil _ _ _ (fun _ => .slice none 0 0) _, hB0⟩
  · have hall := roomOk_all hok
    go_enter Try.func46, Try.ntmps46
    go_wp2_with fail
    refine (spec_l03Is _ (A := A) (n := n) (c := c) (B := B) (m := m) (d := d) (by simp [go_sem]) (by simp [go_sem]) (h.below hB0) hn (h'.below hB0) hm).mono ?_
    rintro e w' ⟨rfl, rfl⟩
    rw [hok]
    go_wp2_with fail
    refine (spec_l03Empty _ (A := A) (n := n) (c := c) (B := B) (m := m) (d := d) (by simp [go_sem]) (by simp [go_sem]) (by simp) (h.below hB0) hn (h'.below hB0) hm hall).mono ?_
    rintro e w2 ⟨v, F, rfl, ho, hb⟩
    go_wp2_with fail
    go_ret2
    exact ⟨_, _, rfl, ho.lower (by simp), below_next hB0 (by simp) hb⟩
set_option maxHeartbeats 800000 in
theorem impl_EmptyRoom {A B : Option Addr} {n m c d x y : Nat} {f0 : Nat → Int} {f1 f2 f3 : Nat → Nat} {f4 : Nat → Bool} {g0 : Nat → Int} {g1 : Nat → Nat} (w : World) (h : RdDelay w A n f0 f1 f2 f3 f4) (hn : n ≤ 1048576) (h' : RdPass w B m g0 g1) (hm : m ≤ 1048576) :
    Calls Try.prog 47 #[.agg #[.slice A n c, .slice B m d, .float .f32 x, .float .f32 y]] w (REm (roomOk n m f0 g0) (n + m) (lens n f0 m g0) w) := by
  have hK0 := PrK.start w [.slice A n c, .slice B m d, .float .f32 x, .float .f32 y] 76
  cases hok : roomOk n m f0 g0
  all_goals
    go_enter Try.func47, Try.ntmps47
    go_wp2_with fail
    refine (impl_ValidRoom _ (h.below hK0.bel) hn (h'.below hK0.bel) hm).mono ?_
    rintro e w1 ⟨rfl, hb1⟩
    rw [hok]
    have hK1 := hK0.next hb1
    clear hK0 hb1
    have p0 := hK1.cp 0 _ rfl
    have p1 := hK1.cp 1 _ rfl
    have p2 := hK1.cp 2 _ rfl
    have p3 := hK1.cp 3 _ rfl
    go_wp2_with fail
  · go_ret2
    exact ⟨_, _, rfl, OwSS.nil _ _ _ (fun _ => .slice none 0 0) _, hK1.bel⟩
  · refine (impl_empty _ (h.below hK1.bel) hn (h'.below hK1.bel) hm (roomOk_all hok)).mono ?_
    rintro e w2 ⟨v, F, rfl, ho, hb⟩
    go_wp2_with fail
    go_ret2
    exact ⟨_, _, rfl, ho.lower hK1.bel.size, below_next hK1.bel hK1.bel.size hb⟩
end Go.Proofs.Ytlenpecnfilkjaa
