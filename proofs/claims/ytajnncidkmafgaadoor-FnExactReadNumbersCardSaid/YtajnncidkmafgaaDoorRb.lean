/- Reading decimal texts: the program's own walk and the law. Conditions: none beside the given statement's own. -/
import Derived.Test.YtajnncidkmafgaaDoorRa
set_option linter.unusedVariables false
set_option linter.unusedSimpArgs false
namespace Go.Proofs.YtajnncidkmafgaaDoor
open Go.RowKit
/-- What the listed variables hold. -/
structure Env (w : World) : Prop where
  pow : Pow w
  syn : ∃ tp p, w.var? Tryd.prog "strconv.ErrSyntax" = some #[.iface tp p]
  rng : ∃ tp p, w.var? Tryd.prog "strconv.ErrRange" = some #[.iface tp p]
theorem gSyn : Tryd.prog.globalNamed "strconv.ErrSyntax" = some 1 := by kernel_rfl
theorem gRng : Tryd.prog.globalNamed "strconv.ErrRange" = some 2 := by kernel_rfl
theorem Env.below {w w' : World} (h : Env w) (hb : Below w.heap.size w w') : Env w' := by
  obtain ⟨h1, ⟨t1, p1, e1⟩, ⟨t2, p2, e2⟩⟩ := h
  exact ⟨h1.below hb, ⟨t1, p1, Joins.var_stays gSyn e1 hb (Nat.le_refl _)⟩, ⟨t2, p2, Joins.var_stays gRng e2 hb (Nat.le_refl _)⟩⟩
theorem bytes_eta (s : ByteArray) : s = ⟨s.data.toList.toArray⟩ := by cases s; simp
set_option maxHeartbeats 800000 in
theorem impl_ReadDecimal {l : List UInt8} (w : World) (hl : l.length ≤ 1048576) (he : Env w) :
    Calls Tryd.prog 15 #[tx l] w fun e w' => e = .returned (.tuple #[.int .i64 (readV l), .bool (readC l)]) ∧ Below w.heap.size w w' := by
  have hd : (ByteArray.mk l.toArray).data.toList = l := tx_data l
  have hsz : (ByteArray.mk l.toArray).size = l.length := by show l.toArray.size = _; simp
  cases hp : Lib.parseIntB 64 l with
  | range =>
    obtain ⟨tp, p, hv⟩ := he.rng
    have C := Tryd.strconv_ParseInt_10_at64_range_var ⟨l.toArray⟩ (by omega) (by rw [hd]; exact hp) tp p w hv
    obtain ⟨r1, r2⟩ := read_no (l := l) (fun v e => by rw [hp] at e; cases e)
    rw [r1, r2]
    have HC := Lib.hid C
    clear C hp hv he
    go_enter Tryd.func15, Tryd.ntmps15
    go_wp2_with (go_at_call 32; refine HC.out.mono ?_; rintro e w' ⟨N, rfl, hN, hh, hb⟩)
    go_ret2
    exact ⟨rfl, hb⟩
  | ok v =>
    have C := Tryd.strconv_ParseInt_10_at64_ok ⟨l.toArray⟩ (by omega) v (by rw [hd]; exact hp) w
    replace C : Calls Tryd.prog 32 #[tx l, .int .i64 10, .int .i64 64] w fun e w' => e = .returned (.tuple #[.int .i64 v, .nilIface]) ∧ Below w.heap.size w w' := C.mono fun e w' ⟨h1, h2⟩ => ⟨h1, by
      rcases h2 with rfl | ⟨t, rfl⟩
      · exact Below.refl _ _
      · exact Joins.below_bytesWorld _ _ _ _ (Nat.le_refl _)⟩
    obtain ⟨r1, r2⟩ := read_ok hp
    have HC := Lib.hid C
    have HE := Lib.hid he
    clear C hp he
    cases hin : inC v (-1000000000000000) 1000000000000000
    · obtain ⟨r3, r4⟩ := r2 (fun h => by have : inC v (-1000000000000000) 1000000000000000 = true := h.1
                                         rw [hin] at this; cases this)
      rw [r3, r4]
      clear r1 r2
      go_enter Tryd.func15, Tryd.ntmps15
      go_wp2_with (first | (go_at_call 32; refine HC.out.mono ?_; rintro e w' ⟨rfl, hb⟩) | (go_at_call 33; refine (impl_within _ _ _ _).mono ?_; rintro e w'' ⟨rfl, rfl⟩))
      go_ret2
      exact ⟨rfl, hb⟩
    · have hvb : -1000000000000000 ≤ v ∧ v ≤ 1000000000000000 := inD_iff.1 hin
      by_cases hq : Lib.itoa v = l
      · obtain ⟨r3, r4⟩ := r1 ⟨hin, hq⟩
        rw [r3, r4]
        have hqb : (Lib.itoa v == l) = true := by rw [beq_iff_eq]; exact hq
        clear r1 r2 hq
        go_enter Tryd.func15, Tryd.ntmps15
        go_wp2_with (first | (go_at_call 32; refine HC.out.mono ?_; rintro e w' ⟨rfl, hb⟩) | (go_at_call 33; refine (impl_within _ _ _ _).mono ?_; rintro e w'' ⟨rfl, rfl⟩) | (go_at_call 9; refine (impl_Decimal (by omega) (by omega) _ (HE.out.below hb).pow).mono ?_; rintro e w2 ⟨rfl, hb2⟩))
        go_ret2
        exact ⟨rfl, below_next hb hb.size hb2⟩
      · obtain ⟨r3, r4⟩ := r2 (fun h => hq h.2)
        rw [r3, r4]
        have hqb : (Lib.itoa v == l) = false := by rw [beq_eq_false_iff_ne]; exact hq
        clear r1 r2 hq
        go_enter Tryd.func15, Tryd.ntmps15
        go_wp2_with (first | (go_at_call 32; refine HC.out.mono ?_; rintro e w' ⟨rfl, hb⟩) | (go_at_call 33; refine (impl_within _ _ _ _).mono ?_; rintro e w'' ⟨rfl, rfl⟩) | (go_at_call 9; refine (impl_Decimal (by omega) (by omega) _ (HE.out.below hb).pow).mono ?_; rintro e w2 ⟨rfl, hb2⟩))
        go_ret2
        exact ⟨rfl, below_next hb hb.size hb2⟩
  | _ =>
    obtain ⟨tp, p, hv⟩ := he.syn
    have C := Tryd.strconv_ParseInt_10_at64_bad_var ⟨l.toArray⟩ (by omega) (by rw [hd]; exact hp) tp p w hv
    obtain ⟨r1, r2⟩ := read_no (l := l) (fun v e => by rw [hp] at e; cases e)
    rw [r1, r2]
    have HC := Lib.hid C
    clear C hp hv he
    go_enter Tryd.func15, Tryd.ntmps15
    go_wp2_with (go_at_call 32; refine HC.out.mono ?_; rintro e w' ⟨N, rfl, hN, hh, hb⟩)
    go_ret2
    exact ⟨rfl, hb⟩
theorem spec_ReadDecimal {l : List UInt8} (w : World) (hl : l.length ≤ 9223372036854775807) :
    Calls Tryd.prog 14 #[tx l] w fun e w' => e = .returned (.tuple #[.int .i64 (readV l), .bool (readC l)]) ∧ Below w.heap.size w w' := by
  go_enter Tryd.func14, Tryd.ntmps14
  go_wp2_with (go_at_call 31; refine (spec_l01Value _ hl).mono ?_; rintro e w' ⟨rfl, hb⟩)
  go_ret2
  exact ⟨rfl, hb⟩
theorem readDecimal_walk (l : List UInt8) (w : World) (he : Env w) (hl : l.length ≤ 9223372036854775807) : Calls Tryd.prog 5 #[tx l] w fun e w' => e = .returned (.bool true) ∧ Below w.heap.size w w' := by
  rcases Nat.lt_or_ge 1048576 l.length with hn | hn
  · go_enter Tryd.func5, Tryd.ntmps5
    go_wp2
    go_ret
    exact ⟨rfl, Below.refl _ _⟩
  · have HE := Lib.hid he
    clear he
    go_enter Tryd.func5, Tryd.ntmps5
    go_wp2_with (go_at_call 14; refine (spec_ReadDecimal _ hl).mono ?_; rintro e w1 ⟨rfl, hb1⟩; refine Hid.out ?_)
    refine Lib.hid ?_
    have he1 := HE.out.below hb1
    go_wp2_with (go_at_call 15; refine (impl_ReadDecimal _ hn he1).mono ?_; rintro e w2 ⟨rfl, hb2⟩)
    go_ret
    exact ⟨rfl, below_next hb1 hb1.size hb2⟩
end Go.Proofs.YtajnncidkmafgaaDoor
