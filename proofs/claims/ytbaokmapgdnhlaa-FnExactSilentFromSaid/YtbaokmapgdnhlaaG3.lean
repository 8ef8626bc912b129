/- The walk of the law on delays that fall silent: the program, and the law. Conditions: none beside the contracts' own. -/
import Derived.Test.YtbaokmapgdnhlaaG2
import Derived.Test.YtbaokmapgdnhlaaD7
set_option linter.unusedVariables false
set_option linter.unusedSimpArgs false
namespace Go.Proofs.Ytbaokmapgdnhlaa
open Go.RowKit
set_option maxHeartbeats 6400000 in
theorem impl_SilentFrom {len : Int} {f d wt : Nat} {fl : Bool} {F D W : Option Nat} {A : Option Addr} {n c : Nat} {xs : List Nat} (w : World) (hf : Fl .f32 f F) (hd : Fl .f32 d D) (hw : Fl .f32 wt W) (h : Rd w A n xs) (hn : n ≤ 1048576) :
    Calls Try.prog 24 #[.agg #[.int .i64 len, .float .f32 f, .float .f32 d, .float .f32 wt, .bool fl], .slice A n c] w (RIB (silNC len n F fl (clss xs)) w) := by
  obtain ⟨Wb, hWb⟩ : ∃ W, W = w.alloc (.cells #[.int .i64 len, .float .f32 f, .float .f32 d, .float .f32 wt, .bool fl] 37) := ⟨_, rfl⟩
  have hB0 : Below w.heap.size w Wb := by rw [hWb]; exact (Below.refl _ w).alloc (Nat.le_refl _) _
  have hzb : Wb.heap.size = w.heap.size + 1 := by rw [hWb]; simp
  have hcb0 : Wb.cell? ⟨w.heap.size, 0, none⟩ = some (.int .i64 len) := by rw [hWb]; simp [go_sem]
  have hcb1 : Wb.cell? ⟨w.heap.size, 1, none⟩ = some (.float .f32 f) := by rw [hWb]; simp [go_sem]
  have hcb2 : Wb.cell? ⟨w.heap.size, 2, none⟩ = some (.float .f32 d) := by rw [hWb]; simp [go_sem]
  have hcb3 : Wb.cell? ⟨w.heap.size, 3, none⟩ = some (.float .f32 wt) := by rw [hWb]; simp [go_sem]
  have hcb4 : Wb.cell? ⟨w.heap.size, 4, none⟩ = some (.bool fl) := by rw [hWb]; simp [go_sem]
  have hlb : w.heap.size < Wb.heap.size := by omega
  have HR := Lib.hid (h.below hB0)
  have HX := Lib.hid h.len
  clear h
  have CV := fun W => impl_ValidDelay len f d wt fl W
  have CF := fun W => impl_IsFinite hf W
  have CA : ∀ W, Below Wb.heap.size Wb W → Calls Try.prog 71 #[.slice A n c] W (RB ((clss xs).all finC) W) := fun W e => impl_areFinite W (HR.out.below e) hn
  rcases sil_parts len n F fl (clss xs) with ⟨h1, hs⟩ | ⟨h1, h2, hs⟩ | ⟨h1, rfl, h3, hs⟩ | ⟨h1, rfl, hn0, hn64, h3, hsF, hsT⟩
  · have HS := Lib.hid hs
    rw [h1] at CV
    have HV := Lib.hid CV
    clear hs CV CF CA h1
    go_enter Try.func24, Try.ntmps24
    go_wp2_with fail
    rw [← hWb]
    clear hWb
    have h0L : Loose.All [(⟨w.heap.size, 0, none⟩, .int .i64 len), (⟨w.heap.size, 1, none⟩, .float .f32 f), (⟨w.heap.size, 2, none⟩, .float .f32 d), (⟨w.heap.size, 3, none⟩, .float .f32 wt), (⟨w.heap.size, 4, none⟩, .bool fl)] _ := ⟨hcb0, hcb1, hcb2, hcb3, hcb4, trivial⟩
    refine Loose.regionC [(⟨w.heap.size, 0, none⟩, .int .i64 len), (⟨w.heap.size, 1, none⟩, .float .f32 f), (⟨w.heap.size, 2, none⟩, .float .f32 d), (⟨w.heap.size, 3, none⟩, .float .f32 wt), (⟨w.heap.size, 4, none⟩, .bool fl)] (by kernel_rfl) (by kernel_rfl) h0L ?_
    clear hcb0 hcb1 hcb2 hcb3 hcb4
    apply Exists.intro
    repeat
      first
        | (apply Loose.walk_skip; exact rfl; simp only [Act.put, List.setIfInBounds_toArray, List.set_cons_zero, List.set_cons_succ])
        | (apply Loose.quiet h0L; exact rfl; exact rfl; intro K hK; go_big_quiet_op; go_big_quiet_on)
        | (apply Loose.quiet h0L; exact rfl; exact rfl; intro K hK; go_big_quiet_op; apply Exists.intro; refine ⟨fun w' hw' => ?_, ?_⟩
           · (first | exact rfl | (have l := hw'.all; simp only [Loose.All] at l; go_simp; rfl))
           go_big_quiet_on)
    apply Loose.free (g := (fun v => v = .bool false))
    · exact rfl
    · intro w' hw'
      apply Loose.call hw'
      · go_simp; exact ⟨⟨rfl, rfl⟩, rfl⟩
      · rfl
      · refine (HV.out _).mono ?_
        rintro e w2 ⟨rfl, hb⟩
        exact ⟨_, rfl, hb, rfl⟩
    rintro v rfl
    simp only [Act.put, List.setIfInBounds_toArray, List.set_cons_zero, List.set_cons_succ]
    repeat
      first
        | (apply Loose.walk_skip; exact rfl; simp only [Act.put, List.setIfInBounds_toArray, List.set_cons_zero, List.set_cons_succ])
        | (apply Loose.quiet h0L; exact rfl; exact rfl; intro K hK; go_big_quiet_op; go_big_quiet_on)
        | (apply Loose.quiet h0L; exact rfl; exact rfl; intro K hK; go_big_quiet_op; apply Exists.intro; refine ⟨fun w' hw' => ?_, ?_⟩
           · (first | exact rfl | (have l := hw'.all; simp only [Loose.All] at l; go_simp; rfl))
           go_big_quiet_on)
    apply Loose.done
    rintro w3 - hb3 -
    have HB := Lib.hid (below_next hB0 (Nat.le_of_lt hlb) hb3)
    clear hB0 hb3
    go_wp2_with fail
    go_ret2
    rw [HS.out]
    exact ⟨rfl, HB.out⟩
  · have HS := Lib.hid hs
    rw [h1] at CV
    have HV := Lib.hid CV
    clear hs CV CF CA h1
    go_enter Try.func24, Try.ntmps24
    go_wp2_with fail
    rw [← hWb]
    clear hWb
    have h0L : Loose.All [(⟨w.heap.size, 0, none⟩, .int .i64 len), (⟨w.heap.size, 1, none⟩, .float .f32 f), (⟨w.heap.size, 2, none⟩, .float .f32 d), (⟨w.heap.size, 3, none⟩, .float .f32 wt), (⟨w.heap.size, 4, none⟩, .bool fl)] _ := ⟨hcb0, hcb1, hcb2, hcb3, hcb4, trivial⟩
    refine Loose.regionC [(⟨w.heap.size, 0, none⟩, .int .i64 len), (⟨w.heap.size, 1, none⟩, .float .f32 f), (⟨w.heap.size, 2, none⟩, .float .f32 d), (⟨w.heap.size, 3, none⟩, .float .f32 wt), (⟨w.heap.size, 4, none⟩, .bool fl)] (by kernel_rfl) (by kernel_rfl) h0L ?_
    clear hcb0 hcb1 hcb2 hcb3 hcb4
    apply Exists.intro
    repeat
      first
        | (apply Loose.walk_skip; exact rfl; simp only [Act.put, List.setIfInBounds_toArray, List.set_cons_zero, List.set_cons_succ])
        | (apply Loose.quiet h0L; exact rfl; exact rfl; intro K hK; go_big_quiet_op; go_big_quiet_on)
        | (apply Loose.quiet h0L; exact rfl; exact rfl; intro K hK; go_big_quiet_op; apply Exists.intro; refine ⟨fun w' hw' => ?_, ?_⟩
           · (first | exact rfl | (have l := hw'.all; simp only [Loose.All] at l; go_simp; rfl))
           go_big_quiet_on)
    apply Loose.free (g := (fun v => v = .bool true))
    · exact rfl
    · intro w' hw'
      apply Loose.call hw'
      · go_simp; exact ⟨⟨rfl, rfl⟩, rfl⟩
      · rfl
      · refine (HV.out _).mono ?_
        rintro e w2 ⟨rfl, hb⟩
        exact ⟨_, rfl, hb, rfl⟩
    rintro v rfl
    simp only [Act.put, List.setIfInBounds_toArray, List.set_cons_zero, List.set_cons_succ]
    repeat
      first
        | (apply Loose.walk_skip; exact rfl; simp only [Act.put, List.setIfInBounds_toArray, List.set_cons_zero, List.set_cons_succ])
        | (apply Loose.quiet h0L; exact rfl; exact rfl; intro K hK; go_big_quiet_op; go_big_quiet_on)
        | (apply Loose.quiet h0L; exact rfl; exact rfl; intro K hK; go_big_quiet_op; apply Exists.intro; refine ⟨fun w' hw' => ?_, ?_⟩
           · (first | exact rfl | (have l := hw'.all; simp only [Loose.All] at l; go_simp; rfl))
           go_big_quiet_on)
    apply Loose.free (g := (fun v => v = .int .i64 (n : Int)))
    · exact rfl
    · intro w' hw'
      apply Loose.val hw'
      · go_simp; exact ⟨rfl, rfl⟩
      · first | exact ⟨_, rfl⟩ | exact ⟨0, rfl⟩
      · rfl
    rintro v rfl
    simp only [Act.put, List.setIfInBounds_toArray, List.set_cons_zero, List.set_cons_succ]
    repeat
      first
        | (apply Loose.walk_skip; exact rfl; simp only [Act.put, List.setIfInBounds_toArray, List.set_cons_zero, List.set_cons_succ])
        | (apply Loose.quiet h0L; exact rfl; exact rfl; intro K hK; go_big_quiet_op; go_big_quiet_on)
        | (apply Loose.quiet h0L; exact rfl; exact rfl; intro K hK; go_big_quiet_op; apply Exists.intro; refine ⟨fun w' hw' => ?_, ?_⟩
           · (first | exact rfl | (have l := hw'.all; simp only [Loose.All] at l; go_simp; rfl))
           go_big_quiet_on)
    apply Loose.free (g := (fun v => v = .int .i64 (n : Int)))
    · exact rfl
    · intro w' hw'
      apply Loose.call hw'
      · go_simp; exact ⟨⟨rfl, rfl⟩, rfl⟩
      · rfl
      · refine (impl_size _).mono ?_
        rintro e w2 ⟨rfl, rfl⟩
        exact ⟨_, rfl, Below.refl _ _, rfl⟩
    rintro v rfl
    simp only [Act.put, List.setIfInBounds_toArray, List.set_cons_zero, List.set_cons_succ]
    repeat
      first
        | (apply Loose.walk_skip; exact rfl; simp only [Act.put, List.setIfInBounds_toArray, List.set_cons_zero, List.set_cons_succ])
        | (apply Loose.quiet h0L; exact rfl; exact rfl; intro K hK; go_big_quiet_op; go_big_quiet_on)
        | (apply Loose.quiet h0L; exact rfl; exact rfl; intro K hK; go_big_quiet_op; apply Exists.intro; refine ⟨fun w' hw' => ?_, ?_⟩
           · (first | exact rfl | (have l := hw'.all; simp only [Loose.All] at l; go_simp; rfl))
           go_big_quiet_on)
    apply Loose.done
    rintro w3 - hb3 -
    have HB := Lib.hid (below_next hB0 (Nat.le_of_lt hlb) hb3)
    clear hB0 hb3
    go_wp2_with fail
    go_ret2
    rw [HS.out]
    exact ⟨rfl, HB.out⟩
  · have HS := Lib.hid hs
    rw [h1] at CV
    rw [h3] at CF
    have HV := Lib.hid CV
    have HFI := Lib.hid CF
    clear hs CV CF CA h1 h3
    go_enter Try.func24, Try.ntmps24
    go_wp2_with fail
    rw [← hWb]
    clear hWb
    have h0L : Loose.All [(⟨w.heap.size, 0, none⟩, .int .i64 (n : Int)), (⟨w.heap.size, 1, none⟩, .float .f32 f), (⟨w.heap.size, 2, none⟩, .float .f32 d), (⟨w.heap.size, 3, none⟩, .float .f32 wt), (⟨w.heap.size, 4, none⟩, .bool fl)] _ := ⟨hcb0, hcb1, hcb2, hcb3, hcb4, trivial⟩
    refine Loose.regionC [(⟨w.heap.size, 0, none⟩, .int .i64 (n : Int)), (⟨w.heap.size, 1, none⟩, .float .f32 f), (⟨w.heap.size, 2, none⟩, .float .f32 d), (⟨w.heap.size, 3, none⟩, .float .f32 wt), (⟨w.heap.size, 4, none⟩, .bool fl)] (by kernel_rfl) (by kernel_rfl) h0L ?_
    clear hcb0 hcb1 hcb2 hcb3 hcb4
    apply Exists.intro
    repeat
      first
        | (apply Loose.walk_skip; exact rfl; simp only [Act.put, List.setIfInBounds_toArray, List.set_cons_zero, List.set_cons_succ])
        | (apply Loose.quiet h0L; exact rfl; exact rfl; intro K hK; go_big_quiet_op; go_big_quiet_on)
        | (apply Loose.quiet h0L; exact rfl; exact rfl; intro K hK; go_big_quiet_op; apply Exists.intro; refine ⟨fun w' hw' => ?_, ?_⟩
           · (first | exact rfl | (have l := hw'.all; simp only [Loose.All] at l; go_simp; rfl))
           go_big_quiet_on)
    apply Loose.free (g := (fun v => v = .bool true))
    · exact rfl
    · intro w' hw'
      apply Loose.call hw'
      · go_simp; exact ⟨⟨rfl, rfl⟩, rfl⟩
      · rfl
      · refine (HV.out _).mono ?_
        rintro e w2 ⟨rfl, hb⟩
        exact ⟨_, rfl, hb, rfl⟩
    rintro v rfl
    simp only [Act.put, List.setIfInBounds_toArray, List.set_cons_zero, List.set_cons_succ]
    repeat
      first
        | (apply Loose.walk_skip; exact rfl; simp only [Act.put, List.setIfInBounds_toArray, List.set_cons_zero, List.set_cons_succ])
        | (apply Loose.quiet h0L; exact rfl; exact rfl; intro K hK; go_big_quiet_op; go_big_quiet_on)
        | (apply Loose.quiet h0L; exact rfl; exact rfl; intro K hK; go_big_quiet_op; apply Exists.intro; refine ⟨fun w' hw' => ?_, ?_⟩
           · (first | exact rfl | (have l := hw'.all; simp only [Loose.All] at l; go_simp; rfl))
           go_big_quiet_on)
    apply Loose.free (g := (fun v => v = .int .i64 (n : Int)))
    · exact rfl
    · intro w' hw'
      apply Loose.val hw'
      · go_simp; exact ⟨rfl, rfl⟩
      · first | exact ⟨_, rfl⟩ | exact ⟨0, rfl⟩
      · rfl
    rintro v rfl
    simp only [Act.put, List.setIfInBounds_toArray, List.set_cons_zero, List.set_cons_succ]
    repeat
      first
        | (apply Loose.walk_skip; exact rfl; simp only [Act.put, List.setIfInBounds_toArray, List.set_cons_zero, List.set_cons_succ])
        | (apply Loose.quiet h0L; exact rfl; exact rfl; intro K hK; go_big_quiet_op; go_big_quiet_on)
        | (apply Loose.quiet h0L; exact rfl; exact rfl; intro K hK; go_big_quiet_op; apply Exists.intro; refine ⟨fun w' hw' => ?_, ?_⟩
           · (first | exact rfl | (have l := hw'.all; simp only [Loose.All] at l; go_simp; rfl))
           go_big_quiet_on)
    apply Loose.free (g := (fun v => v = .int .i64 (n : Int)))
    · exact rfl
    · intro w' hw'
      apply Loose.call hw'
      · go_simp; exact ⟨⟨rfl, rfl⟩, rfl⟩
      · rfl
      · refine (impl_size _).mono ?_
        rintro e w2 ⟨rfl, rfl⟩
        exact ⟨_, rfl, Below.refl _ _, rfl⟩
    rintro v rfl
    simp only [Act.put, List.setIfInBounds_toArray, List.set_cons_zero, List.set_cons_succ]
    repeat
      first
        | (apply Loose.walk_skip; exact rfl; simp only [Act.put, List.setIfInBounds_toArray, List.set_cons_zero, List.set_cons_succ])
        | (apply Loose.quiet h0L; exact rfl; exact rfl; intro K hK; go_big_quiet_op; go_big_quiet_on)
        | (apply Loose.quiet h0L; exact rfl; exact rfl; intro K hK; go_big_quiet_op; apply Exists.intro; refine ⟨fun w' hw' => ?_, ?_⟩
           · (first | exact rfl | (have l := hw'.all; simp only [Loose.All] at l; go_simp; rfl))
           go_big_quiet_on)
    apply Loose.free (g := (fun v => v = .bool false))
    · exact rfl
    · intro w' hw'
      apply Loose.call hw'
      · go_simp; exact ⟨⟨rfl, rfl⟩, rfl⟩
      · rfl
      · refine (HFI.out _).mono ?_
        rintro e w2 ⟨rfl, q, rfl⟩
        exact ⟨_, rfl, below_draws _ _, rfl⟩
    rintro v rfl
    simp only [Act.put, List.setIfInBounds_toArray, List.set_cons_zero, List.set_cons_succ]
    repeat
      first
        | (apply Loose.walk_skip; exact rfl; simp only [Act.put, List.setIfInBounds_toArray, List.set_cons_zero, List.set_cons_succ])
        | (apply Loose.quiet h0L; exact rfl; exact rfl; intro K hK; go_big_quiet_op; go_big_quiet_on)
        | (apply Loose.quiet h0L; exact rfl; exact rfl; intro K hK; go_big_quiet_op; apply Exists.intro; refine ⟨fun w' hw' => ?_, ?_⟩
           · (first | exact rfl | (have l := hw'.all; simp only [Loose.All] at l; go_simp; rfl))
           go_big_quiet_on)
    apply Loose.done
    rintro w3 - hb3 -
    have HB := Lib.hid (below_next hB0 (Nat.le_of_lt hlb) hb3)
    clear hB0 hb3
    go_wp2_with fail
    go_ret2
    rw [HS.out]
    exact ⟨rfl, HB.out⟩
  cases hq : (clss xs).all finC
  · have HS := Lib.hid (hsF hq)
    rw [h1] at CV
    rw [h3] at CF
    rw [hq] at CA
    have HV := Lib.hid CV
    have HFI := Lib.hid CF
    have HAF := Lib.hid CA
    clear hsF hsT CV CF CA h1 h3 hq
    go_enter Try.func24, Try.ntmps24
    go_wp2_with fail
    rw [← hWb]
    clear hWb
    have h0L : Loose.All [(⟨w.heap.size, 0, none⟩, .int .i64 (n : Int)), (⟨w.heap.size, 1, none⟩, .float .f32 f), (⟨w.heap.size, 2, none⟩, .float .f32 d), (⟨w.heap.size, 3, none⟩, .float .f32 wt), (⟨w.heap.size, 4, none⟩, .bool fl)] _ := ⟨hcb0, hcb1, hcb2, hcb3, hcb4, trivial⟩
    refine Loose.regionC [(⟨w.heap.size, 0, none⟩, .int .i64 (n : Int)), (⟨w.heap.size, 1, none⟩, .float .f32 f), (⟨w.heap.size, 2, none⟩, .float .f32 d), (⟨w.heap.size, 3, none⟩, .float .f32 wt), (⟨w.heap.size, 4, none⟩, .bool fl)] (by kernel_rfl) (by kernel_rfl) h0L ?_
    clear hcb0 hcb1 hcb2 hcb3 hcb4
    apply Exists.intro
    repeat
      first
        | (apply Loose.walk_skip; exact rfl; simp only [Act.put, List.setIfInBounds_toArray, List.set_cons_zero, List.set_cons_succ])
        | (apply Loose.quiet h0L; exact rfl; exact rfl; intro K hK; go_big_quiet_op; go_big_quiet_on)
        | (apply Loose.quiet h0L; exact rfl; exact rfl; intro K hK; go_big_quiet_op; apply Exists.intro; refine ⟨fun w' hw' => ?_, ?_⟩
           · (first | exact rfl | (have l := hw'.all; simp only [Loose.All] at l; go_simp; rfl))
           go_big_quiet_on)
    apply Loose.free (g := (fun v => v = .bool true))
    · exact rfl
    · intro w' hw'
      apply Loose.call hw'
      · go_simp; exact ⟨⟨rfl, rfl⟩, rfl⟩
      · rfl
      · refine (HV.out _).mono ?_
        rintro e w2 ⟨rfl, hb⟩
        exact ⟨_, rfl, hb, rfl⟩
    rintro v rfl
    simp only [Act.put, List.setIfInBounds_toArray, List.set_cons_zero, List.set_cons_succ]
    repeat
      first
        | (apply Loose.walk_skip; exact rfl; simp only [Act.put, List.setIfInBounds_toArray, List.set_cons_zero, List.set_cons_succ])
        | (apply Loose.quiet h0L; exact rfl; exact rfl; intro K hK; go_big_quiet_op; go_big_quiet_on)
        | (apply Loose.quiet h0L; exact rfl; exact rfl; intro K hK; go_big_quiet_op; apply Exists.intro; refine ⟨fun w' hw' => ?_, ?_⟩
           · (first | exact rfl | (have l := hw'.all; simp only [Loose.All] at l; go_simp; rfl))
           go_big_quiet_on)
    apply Loose.free (g := (fun v => v = .int .i64 (n : Int)))
    · exact rfl
    · intro w' hw'
      apply Loose.val hw'
      · go_simp; exact ⟨rfl, rfl⟩
      · first | exact ⟨_, rfl⟩ | exact ⟨0, rfl⟩
      · rfl
    rintro v rfl
    simp only [Act.put, List.setIfInBounds_toArray, List.set_cons_zero, List.set_cons_succ]
    repeat
      first
        | (apply Loose.walk_skip; exact rfl; simp only [Act.put, List.setIfInBounds_toArray, List.set_cons_zero, List.set_cons_succ])
        | (apply Loose.quiet h0L; exact rfl; exact rfl; intro K hK; go_big_quiet_op; go_big_quiet_on)
        | (apply Loose.quiet h0L; exact rfl; exact rfl; intro K hK; go_big_quiet_op; apply Exists.intro; refine ⟨fun w' hw' => ?_, ?_⟩
           · (first | exact rfl | (have l := hw'.all; simp only [Loose.All] at l; go_simp; rfl))
           go_big_quiet_on)
    apply Loose.free (g := (fun v => v = .int .i64 (n : Int)))
    · exact rfl
    · intro w' hw'
      apply Loose.call hw'
      · go_simp; exact ⟨⟨rfl, rfl⟩, rfl⟩
      · rfl
      · refine (impl_size _).mono ?_
        rintro e w2 ⟨rfl, rfl⟩
        exact ⟨_, rfl, Below.refl _ _, rfl⟩
    rintro v rfl
    simp only [Act.put, List.setIfInBounds_toArray, List.set_cons_zero, List.set_cons_succ]
    repeat
      first
        | (apply Loose.walk_skip; exact rfl; simp only [Act.put, List.setIfInBounds_toArray, List.set_cons_zero, List.set_cons_succ])
        | (apply Loose.quiet h0L; exact rfl; exact rfl; intro K hK; go_big_quiet_op; go_big_quiet_on)
        | (apply Loose.quiet h0L; exact rfl; exact rfl; intro K hK; go_big_quiet_op; apply Exists.intro; refine ⟨fun w' hw' => ?_, ?_⟩
           · (first | exact rfl | (have l := hw'.all; simp only [Loose.All] at l; go_simp; rfl))
           go_big_quiet_on)
    apply Loose.free (g := (fun v => v = .bool true))
    · exact rfl
    · intro w' hw'
      apply Loose.call hw'
      · go_simp; exact ⟨⟨rfl, rfl⟩, rfl⟩
      · rfl
      · refine (HFI.out _).mono ?_
        rintro e w2 ⟨rfl, q, rfl⟩
        exact ⟨_, rfl, below_draws _ _, rfl⟩
    rintro v rfl
    simp only [Act.put, List.setIfInBounds_toArray, List.set_cons_zero, List.set_cons_succ]
    repeat
      first
        | (apply Loose.walk_skip; exact rfl; simp only [Act.put, List.setIfInBounds_toArray, List.set_cons_zero, List.set_cons_succ])
        | (apply Loose.quiet h0L; exact rfl; exact rfl; intro K hK; go_big_quiet_op; go_big_quiet_on)
        | (apply Loose.quiet h0L; exact rfl; exact rfl; intro K hK; go_big_quiet_op; apply Exists.intro; refine ⟨fun w' hw' => ?_, ?_⟩
           · (first | exact rfl | (have l := hw'.all; simp only [Loose.All] at l; go_simp; rfl))
           go_big_quiet_on)
    apply Loose.free (g := (fun v => v = .bool false))
    · exact rfl
    · intro w' hw'
      apply Loose.call hw'
      · go_simp; exact ⟨⟨rfl, rfl⟩, rfl⟩
      · rfl
      · refine (HAF.out _ hw'.bel).mono ?_
        rintro e w2 ⟨rfl, q, rfl⟩
        exact ⟨_, rfl, below_draws _ _, rfl⟩
    rintro v rfl
    simp only [Act.put, List.setIfInBounds_toArray, List.set_cons_zero, List.set_cons_succ]
    repeat
      first
        | (apply Loose.walk_skip; exact rfl; simp only [Act.put, List.setIfInBounds_toArray, List.set_cons_zero, List.set_cons_succ])
        | (apply Loose.quiet h0L; exact rfl; exact rfl; intro K hK; go_big_quiet_op; go_big_quiet_on)
        | (apply Loose.quiet h0L; exact rfl; exact rfl; intro K hK; go_big_quiet_op; apply Exists.intro; refine ⟨fun w' hw' => ?_, ?_⟩
           · (first | exact rfl | (have l := hw'.all; simp only [Loose.All] at l; go_simp; rfl))
           go_big_quiet_on)
    apply Loose.done
    rintro w3 - hb3 -
    have HB := Lib.hid (below_next hB0 (Nat.le_of_lt hlb) hb3)
    clear hB0 hb3
    go_wp2_with fail
    go_ret2
    rw [HS.out]
    exact ⟨rfl, HB.out⟩
  · have HS := Lib.hid (hsT hq)
    rw [h1] at CV
    rw [h3] at CF
    rw [hq] at CA
    have HV := Lib.hid CV
    have HFI := Lib.hid CF
    have HAF := Lib.hid CA
    clear hsF hsT CV CF CA h1 h3 hq
    go_enter Try.func24, Try.ntmps24
    go_wp2_with fail
    rw [← hWb]
    clear hWb
    have h0L : Loose.All [(⟨w.heap.size, 0, none⟩, .int .i64 (n : Int)), (⟨w.heap.size, 1, none⟩, .float .f32 f), (⟨w.heap.size, 2, none⟩, .float .f32 d), (⟨w.heap.size, 3, none⟩, .float .f32 wt), (⟨w.heap.size, 4, none⟩, .bool fl)] _ := ⟨hcb0, hcb1, hcb2, hcb3, hcb4, trivial⟩
    refine Loose.regionC [(⟨w.heap.size, 0, none⟩, .int .i64 (n : Int)), (⟨w.heap.size, 1, none⟩, .float .f32 f), (⟨w.heap.size, 2, none⟩, .float .f32 d), (⟨w.heap.size, 3, none⟩, .float .f32 wt), (⟨w.heap.size, 4, none⟩, .bool fl)] (by kernel_rfl) (by kernel_rfl) h0L ?_
    clear hcb0 hcb1 hcb2 hcb3 hcb4
    apply Exists.intro
    repeat
      first
        | (apply Loose.walk_skip; exact rfl; simp only [Act.put, List.setIfInBounds_toArray, List.set_cons_zero, List.set_cons_succ])
        | (apply Loose.quiet h0L; exact rfl; exact rfl; intro K hK; go_big_quiet_op; go_big_quiet_on)
        | (apply Loose.quiet h0L; exact rfl; exact rfl; intro K hK; go_big_quiet_op; apply Exists.intro; refine ⟨fun w' hw' => ?_, ?_⟩
           · (first | exact rfl | (have l := hw'.all; simp only [Loose.All] at l; go_simp; rfl))
           go_big_quiet_on)
    apply Loose.free (g := (fun v => v = .bool true))
    · exact rfl
    · intro w' hw'
      apply Loose.call hw'
      · go_simp; exact ⟨⟨rfl, rfl⟩, rfl⟩
      · rfl
      · refine (HV.out _).mono ?_
        rintro e w2 ⟨rfl, hb⟩
        exact ⟨_, rfl, hb, rfl⟩
    rintro v rfl
    simp only [Act.put, List.setIfInBounds_toArray, List.set_cons_zero, List.set_cons_succ]
    repeat
      first
        | (apply Loose.walk_skip; exact rfl; simp only [Act.put, List.setIfInBounds_toArray, List.set_cons_zero, List.set_cons_succ])
        | (apply Loose.quiet h0L; exact rfl; exact rfl; intro K hK; go_big_quiet_op; go_big_quiet_on)
        | (apply Loose.quiet h0L; exact rfl; exact rfl; intro K hK; go_big_quiet_op; apply Exists.intro; refine ⟨fun w' hw' => ?_, ?_⟩
           · (first | exact rfl | (have l := hw'.all; simp only [Loose.All] at l; go_simp; rfl))
           go_big_quiet_on)
    apply Loose.free (g := (fun v => v = .int .i64 (n : Int)))
    · exact rfl
    · intro w' hw'
      apply Loose.val hw'
      · go_simp; exact ⟨rfl, rfl⟩
      · first | exact ⟨_, rfl⟩ | exact ⟨0, rfl⟩
      · rfl
    rintro v rfl
    simp only [Act.put, List.setIfInBounds_toArray, List.set_cons_zero, List.set_cons_succ]
    repeat
      first
        | (apply Loose.walk_skip; exact rfl; simp only [Act.put, List.setIfInBounds_toArray, List.set_cons_zero, List.set_cons_succ])
        | (apply Loose.quiet h0L; exact rfl; exact rfl; intro K hK; go_big_quiet_op; go_big_quiet_on)
        | (apply Loose.quiet h0L; exact rfl; exact rfl; intro K hK; go_big_quiet_op; apply Exists.intro; refine ⟨fun w' hw' => ?_, ?_⟩
           · (first | exact rfl | (have l := hw'.all; simp only [Loose.All] at l; go_simp; rfl))
           go_big_quiet_on)
    apply Loose.free (g := (fun v => v = .int .i64 (n : Int)))
    · exact rfl
    · intro w' hw'
      apply Loose.call hw'
      · go_simp; exact ⟨⟨rfl, rfl⟩, rfl⟩
      · rfl
      · refine (impl_size _).mono ?_
        rintro e w2 ⟨rfl, rfl⟩
        exact ⟨_, rfl, Below.refl _ _, rfl⟩
    rintro v rfl
    simp only [Act.put, List.setIfInBounds_toArray, List.set_cons_zero, List.set_cons_succ]
    repeat
      first
        | (apply Loose.walk_skip; exact rfl; simp only [Act.put, List.setIfInBounds_toArray, List.set_cons_zero, List.set_cons_succ])
        | (apply Loose.quiet h0L; exact rfl; exact rfl; intro K hK; go_big_quiet_op; go_big_quiet_on)
        | (apply Loose.quiet h0L; exact rfl; exact rfl; intro K hK; go_big_quiet_op; apply Exists.intro; refine ⟨fun w' hw' => ?_, ?_⟩
           · (first | exact rfl | (have l := hw'.all; simp only [Loose.All] at l; go_simp; rfl))
           go_big_quiet_on)
    apply Loose.free (g := (fun v => v = .bool true))
    · exact rfl
    · intro w' hw'
      apply Loose.call hw'
      · go_simp; exact ⟨⟨rfl, rfl⟩, rfl⟩
      · rfl
      · refine (HFI.out _).mono ?_
        rintro e w2 ⟨rfl, q, rfl⟩
        exact ⟨_, rfl, below_draws _ _, rfl⟩
    rintro v rfl
    simp only [Act.put, List.setIfInBounds_toArray, List.set_cons_zero, List.set_cons_succ]
    repeat
      first
        | (apply Loose.walk_skip; exact rfl; simp only [Act.put, List.setIfInBounds_toArray, List.set_cons_zero, List.set_cons_succ])
        | (apply Loose.quiet h0L; exact rfl; exact rfl; intro K hK; go_big_quiet_op; go_big_quiet_on)
        | (apply Loose.quiet h0L; exact rfl; exact rfl; intro K hK; go_big_quiet_op; apply Exists.intro; refine ⟨fun w' hw' => ?_, ?_⟩
           · (first | exact rfl | (have l := hw'.all; simp only [Loose.All] at l; go_simp; rfl))
           go_big_quiet_on)
    apply Loose.free (g := (fun v => v = .bool true))
    · exact rfl
    · intro w' hw'
      apply Loose.call hw'
      · go_simp; exact ⟨⟨rfl, rfl⟩, rfl⟩
      · rfl
      · refine (HAF.out _ hw'.bel).mono ?_
        rintro e w2 ⟨rfl, q, rfl⟩
        exact ⟨_, rfl, below_draws _ _, rfl⟩
    rintro v rfl
    simp only [Act.put, List.setIfInBounds_toArray, List.set_cons_zero, List.set_cons_succ]
    repeat
      first
        | (apply Loose.walk_skip; exact rfl; simp only [Act.put, List.setIfInBounds_toArray, List.set_cons_zero, List.set_cons_succ])
        | (apply Loose.quiet h0L; exact rfl; exact rfl; intro K hK; go_big_quiet_op; go_big_quiet_on)
        | (apply Loose.quiet h0L; exact rfl; exact rfl; intro K hK; go_big_quiet_op; apply Exists.intro; refine ⟨fun w' hw' => ?_, ?_⟩
           · (first | exact rfl | (have l := hw'.all; simp only [Loose.All] at l; go_simp; rfl))
           go_big_quiet_on)
    apply Loose.done
    rintro w3 ⟨hc0, hc1, hc2, hc3, hc4, -⟩ hb3 -
    have HB := Lib.hid (below_next hB0 (Nat.le_of_lt hlb) hb3)
    have hr1 := HR.out.below hb3
    have hlb1 : w.heap.size < w3.heap.size := Nat.lt_of_lt_of_le hlb hb3.size
    clear hB0 hb3 HR HV HFI HAF h0L hzb
    go_wp2_with fail
    refine (impl_copyNumbers _ hr1 hn).mono ?_
    rintro e W1 ⟨v0, rfl, ho0, hb1⟩
    obtain ⟨A0, c0, rfl⟩ := ho0.shape_n HX.out
    have hs1 := hb1.size
    clear hr1
    go_wp2_with fail
    go_loopw [6, 7] (fun v i w' => ∃ k ls A1 c1, k ≤ 257 ∧ i = .int .i64 (k : Nat) ∧ v = .slice A1 n c1 ∧ Of w' w3.heap.size (.slice A1 n c1) ls ∧ Hid (silT F fl (257 - k) (k : Int) (clss ls) = silT F fl 257 0 (clss xs) ∧ ls.length = n) ∧ Below w3.heap.size w3 w') (fun _ i _ => 257 - (intOf i).toNat)
    case atStart => exact ⟨0, xs, _, _, Nat.zero_le _, rfl, rfl, ho0, Lib.hid ⟨rfl, HX.out⟩, hb1⟩
    case round =>
      obtain ⟨k, ls, A1, c1, hk, rfl, rfl, ho, hz, hb⟩ := hrel
      have hsz := hb.size
      have hce0 := (cell_below (o := 0) hb hlb1).trans hc0
      have hce1 := (cell_below (o := 1) hb hlb1).trans hc1
      have hce2 := (cell_below (o := 2) hb hlb1).trans hc2
      have hce3 := (cell_below (o := 3) hb hlb1).trans hc3
      have hce4 := (cell_below (o := 4) hb hlb1).trans hc4
      clear ho0 hb1
      by_cases hlt : k < 257
      · have hkI : (k : Int) ≤ 256 := by omega
        go_wp2_with fail
        refine (impl_areZeros _ (ho.rd hz.out.2) hn).mono ?_
        rintro e w1 ⟨rfl, q, rfl⟩
        cases hq : (clss ls).all zeroC
        · go_wp2_with fail
          refine (impl_Delay_step _ ((ho.drewN q).rd hz.out.2) (ho.cap_n hz.out.2) hn0 hn hf hd hw zero_fl).mono ?_
          rintro e w4 ⟨r, u1, ls1, rfl, hr, hoL1, hcl, hgr⟩
          have hb1 := below_next (below_drewN hb q) hsz hgr
          have hll : ls1.length = n := by have := congrArg List.length hcl; rw [clss_length] at this; rw [this]; simp [clss_length, hz.out.2]; omega
          obtain ⟨A2, c2, rfl⟩ := hoL1.shape_n hll
          have hoL2 := hoL1.low hsz
          have HLL := Lib.hid hll
          have HC := Lib.hid hcl
          clear hgr ho hb hce0 hce1 hce2 hce3 hce4 hsz hll hcl hoL1
          go_wp2_with fail
          refine ⟨⟨k + 1, ls1, _, _, by omega, by go_num, rfl, hoL2, Lib.hid ⟨?_, HLL.out⟩, hb1⟩, by simp [intOf]; omega⟩
          rw [← hz.out.1, show 257 - k = (257 - (k + 1)) + 1 by omega, silT_go hq, HC.out]
          rfl
        · go_wp2_with fail
          go_ret2
          rw [HS.out, ← hz.out.1, show 257 - k = (257 - (k + 1)) + 1 by omega, silT_hit hq]
          exact ⟨rfl, below_next HB.out (Nat.le_of_lt hlb1) (below_drewN hb q)⟩
      · obtain rfl : k = 257 := by omega
        go_wp2_with fail
        go_ret2
        rw [HS.out, ← hz.out.1]
        exact ⟨rfl, below_next HB.out (Nat.le_of_lt hlb1) hb⟩
set_option maxHeartbeats 800000 in
theorem laws_toDelay {l : Int} {f d wt : Nat} {fl : Bool} (w : World) : Calls Try.prog 21 #[.agg #[.int .i64 l, .float .f32 f, .float .f32 d, .float .f32 wt, .bool fl]] w (RV (.agg #[.int .i64 l, .float .f32 f, .float .f32 d, .float .f32 wt, .bool fl]) w) := by
  go_enter Try.func21, Try.ntmps21
  go_wp2
  refine bodyPost_ret (v := .agg #[.int .i64 l, .float .f32 f, .float .f32 d, .float .f32 wt, .bool fl]) ?_ rfl ⟨rfl, ?_⟩
  · simp [results, Try.results21, go_sem]
  · (repeat (first | exact Below.refl _ _ | (with_reducible assumption) | refine below_drewN ?_ _ | refine Below.drew ?_ | refine Below.alloc ?_ (by simp; try omega) _))
set_option maxHeartbeats 4000000 in
set_option maxRecDepth 100000 in
theorem silentFrom_walk (a0_0 : Int) (a0_1 : Nat) (a0_2 : Nat) (a0_3 : Nat) (a0_4 : Bool) (a1 : Option Addr) (n1 c1 : Nat) (l1 : List Value) (w : World) (w0_0 : (Lit.int .i64 a0_0).wf = true) (w0_1 : a0_1 < 2 ^ FloatKind.f32.format.width) (w0_2 : a0_2 < 2 ^ FloatKind.f32.format.width) (w0_3 : a0_3 < 2 ^ FloatKind.f32.format.width) (w1 : Row w [.f32] a1 n1 l1) :
    Calls Try.prog 5 #[.agg #[.int .i64 a0_0, .float .f32 a0_1, .float .f32 a0_2, .float .f32 a0_3, .bool a0_4], .slice a1 n1 c1] w fun e w' => e = .returned (.bool true) ∧ Below w.heap.size w w' := by
  obtain ⟨x1, h1⟩ := w1.rd
  rcases Nat.lt_or_ge 1048576 n1 with hn1 | hn1
  · go_enter Try.func5, Try.ntmps5
    go_wp2_with fail
    go_ret
    exact ⟨rfl, by (repeat (first | exact Below.refl _ _ | (with_reducible assumption) | refine below_drewN ?_ _ | refine Below.drew ?_ | refine Below.alloc ?_ (by simp; try omega) _))⟩
  have hy0_1 := Fl.self w0_1
  have hy0_2 := Fl.self w0_2
  have hy0_3 := Fl.self w0_3
  have hl1 := h1.len
  have HL1 := Lib.hid hl1; clear hl1
  have HB0 : Below w.heap.size w w := Below.refl _ _
  have hz0 : w.heap.size ≤ w.heap.size := Nat.le_refl _
  go_enter Try.func5, Try.ntmps5
  go_wp2_with fail
  obtain ⟨W1, hW1⟩ : ∃ V, V = World.alloc w (.cells #[.int .i64 a0_0, .float .f32 a0_1, .float .f32 a0_2, .float .f32 a0_3, .bool a0_4] 35) := ⟨_, rfl⟩
  rw [← hW1]
  have eZ0 : w.heap.size = w.heap.size := rfl
  have hZ1 : W1.heap.size = w.heap.size + 1 := by rw [hW1]; simp [eZ0]
  have hb1 : Below w.heap.size w W1 := by rw [hW1]; exact (Below.refl _ _).alloc (Nat.le_refl _) _
  have cp0_0 : W1.cell? ⟨w.heap.size, 0, none⟩ = some (.int .i64 a0_0) := by rw [hW1, ← eZ0]; simp [go_sem]
  have cp0_1 : W1.cell? ⟨w.heap.size, 1, none⟩ = some (.float .f32 a0_1) := by rw [hW1, ← eZ0]; simp [go_sem]
  have cp0_2 : W1.cell? ⟨w.heap.size, 2, none⟩ = some (.float .f32 a0_2) := by rw [hW1, ← eZ0]; simp [go_sem]
  have cp0_3 : W1.cell? ⟨w.heap.size, 3, none⟩ = some (.float .f32 a0_3) := by rw [hW1, ← eZ0]; simp [go_sem]
  have cp0_4 : W1.cell? ⟨w.heap.size, 4, none⟩ = some (.bool a0_4) := by rw [hW1, ← eZ0]; simp [go_sem]
  have ltp0 : w.heap.size < W1.heap.size := by rw [hZ1]; omega
  have lup0 := ltp0
  clear hW1
  have hs1 : w.heap.size ≤ W1.heap.size := hb1.size
  have HB1 := below_next HB0 hz0 hb1
  have hz1 : w.heap.size ≤ W1.heap.size := Nat.le_trans hz0 hs1
  clear hb1
  refine (laws_toDelay _).mono ?_
  rintro e_ W2 ⟨rfl, hb2⟩
  have hs2 : W1.heap.size ≤ W2.heap.size := hb2.size
  have HB2 := below_next HB1 hz1 hb2
  have hz2 : w.heap.size ≤ W2.heap.size := Nat.le_trans hz1 hs2
  replace cp0_0 := (cell_below hb2 ltp0).trans cp0_0
  replace cp0_1 := (cell_below hb2 ltp0).trans cp0_1
  replace cp0_2 := (cell_below hb2 ltp0).trans cp0_2
  replace cp0_3 := (cell_below hb2 ltp0).trans cp0_3
  replace cp0_4 := (cell_below hb2 ltp0).trans cp0_4
  replace ltp0 := Nat.lt_of_lt_of_le ltp0 hb2.size
  clear hb2
  go_wp2_with fail
  refine (laws_toFloat32S _ (h1.below HB2) hn1).mono ?_
  rintro e_ W3 ⟨v1, rfl, HO1, hb3⟩
  obtain ⟨A1, c_1, rfl⟩ := HO1.shape_n HL1.out
  have hs3 : W2.heap.size ≤ W3.heap.size := hb3.size
  have HB3 := below_next HB2 hz2 hb3
  have hz3 : w.heap.size ≤ W3.heap.size := Nat.le_trans hz2 hs3
  replace cp0_0 := (cell_below hb3 ltp0).trans cp0_0
  replace cp0_1 := (cell_below hb3 ltp0).trans cp0_1
  replace cp0_2 := (cell_below hb3 ltp0).trans cp0_2
  replace cp0_3 := (cell_below hb3 ltp0).trans cp0_3
  replace cp0_4 := (cell_below hb3 ltp0).trans cp0_4
  replace ltp0 := Nat.lt_of_lt_of_le ltp0 hb3.size
  have ltA1 := HO1.lt
  have geA1 := HO1.base
  clear hb3
  go_wp2_with fail
  refine (spec_SilentFrom _ hy0_1 hy0_2 hy0_3 (HO1.rd HL1.out) hn1).mono ?_
  rintro e_ W4 ⟨rfl, hb4⟩
  have hs4 : W3.heap.size ≤ W4.heap.size := hb4.size
  have HB4 := below_next HB3 hz3 hb4
  have hz4 : w.heap.size ≤ W4.heap.size := Nat.le_trans hz3 hs4
  replace HO1 := HO1.below hb4
  replace cp0_0 := (cell_below hb4 ltp0).trans cp0_0
  replace cp0_1 := (cell_below hb4 ltp0).trans cp0_1
  replace cp0_2 := (cell_below hb4 ltp0).trans cp0_2
  replace cp0_3 := (cell_below hb4 ltp0).trans cp0_3
  replace cp0_4 := (cell_below hb4 ltp0).trans cp0_4
  replace ltp0 := Nat.lt_of_lt_of_le ltp0 hb4.size
  clear hb4
  go_wp2_with fail
  refine (laws_toFloat32S _ (h1.below HB4) hn1).mono ?_
  rintro e_ W5 ⟨v2, rfl, HO2, hb5⟩
  obtain ⟨A2, c_2, rfl⟩ := HO2.shape_n HL1.out
  have hs5 : W4.heap.size ≤ W5.heap.size := hb5.size
  have HB5 := below_next HB4 hz4 hb5
  have hz5 : w.heap.size ≤ W5.heap.size := Nat.le_trans hz4 hs5
  replace HO1 := HO1.below hb5
  replace cp0_0 := (cell_below hb5 ltp0).trans cp0_0
  replace cp0_1 := (cell_below hb5 ltp0).trans cp0_1
  replace cp0_2 := (cell_below hb5 ltp0).trans cp0_2
  replace cp0_3 := (cell_below hb5 ltp0).trans cp0_3
  replace cp0_4 := (cell_below hb5 ltp0).trans cp0_4
  replace ltp0 := Nat.lt_of_lt_of_le ltp0 hb5.size
  have ltA2 := HO2.lt
  have geA2 := HO2.base
  clear hb5
  go_wp2_with fail
  refine (laws_toDelay _).mono ?_
  rintro e_ W6 ⟨rfl, hb6⟩
  have hs6 : W5.heap.size ≤ W6.heap.size := hb6.size
  have HB6 := below_next HB5 hz5 hb6
  have hz6 : w.heap.size ≤ W6.heap.size := Nat.le_trans hz5 hs6
  replace HO1 := HO1.below hb6
  replace HO2 := HO2.below hb6
  replace cp0_0 := (cell_below hb6 ltp0).trans cp0_0
  replace cp0_1 := (cell_below hb6 ltp0).trans cp0_1
  replace cp0_2 := (cell_below hb6 ltp0).trans cp0_2
  replace cp0_3 := (cell_below hb6 ltp0).trans cp0_3
  replace cp0_4 := (cell_below hb6 ltp0).trans cp0_4
  replace ltp0 := Nat.lt_of_lt_of_le ltp0 hb6.size
  clear hb6
  go_wp2_with fail
  refine (impl_SilentFrom _ hy0_1 hy0_2 hy0_3 (HO2.rd HL1.out) hn1).mono ?_
  rintro e_ W7 ⟨rfl, hb7⟩
  have hs7 : W6.heap.size ≤ W7.heap.size := hb7.size
  have HB7 := below_next HB6 hz6 hb7
  have hz7 : w.heap.size ≤ W7.heap.size := Nat.le_trans hz6 hs7
  replace HO1 := HO1.below hb7
  replace HO2 := HO2.below hb7
  replace cp0_0 := (cell_below hb7 ltp0).trans cp0_0
  replace cp0_1 := (cell_below hb7 ltp0).trans cp0_1
  replace cp0_2 := (cell_below hb7 ltp0).trans cp0_2
  replace cp0_3 := (cell_below hb7 ltp0).trans cp0_3
  replace cp0_4 := (cell_below hb7 ltp0).trans cp0_4
  replace ltp0 := Nat.lt_of_lt_of_le ltp0 hb7.size
  clear hb7
  go_wp2_with fail
  refine (laws_toFloat32S _ (h1.below HB7) hn1).mono ?_
  rintro e_ W8 ⟨v3, rfl, HO3, hb8⟩
  obtain ⟨A3, c_3, rfl⟩ := HO3.shape_n HL1.out
  have hs8 : W7.heap.size ≤ W8.heap.size := hb8.size
  have HB8 := below_next HB7 hz7 hb8
  have hz8 : w.heap.size ≤ W8.heap.size := Nat.le_trans hz7 hs8
  replace HO1 := HO1.below hb8
  replace HO2 := HO2.below hb8
  replace cp0_0 := (cell_below hb8 ltp0).trans cp0_0
  replace cp0_1 := (cell_below hb8 ltp0).trans cp0_1
  replace cp0_2 := (cell_below hb8 ltp0).trans cp0_2
  replace cp0_3 := (cell_below hb8 ltp0).trans cp0_3
  replace cp0_4 := (cell_below hb8 ltp0).trans cp0_4
  replace ltp0 := Nat.lt_of_lt_of_le ltp0 hb8.size
  have ltA3 := HO3.lt
  have geA3 := HO3.base
  clear hb8
  go_wp2_with fail
  refine (RB.m (laws_eqFloat32S _ (HO2.rd HL1.out) (HO3.rd HL1.out) rfl (by omega))).mono ?_
  rintro e_ W9 ⟨rfl, hb9⟩
  have hs9 : W8.heap.size ≤ W9.heap.size := hb9.size
  have HB9 := below_next HB8 hz8 hb9
  have hz9 : w.heap.size ≤ W9.heap.size := Nat.le_trans hz8 hs9
  replace HO1 := HO1.below hb9
  replace HO2 := HO2.below hb9
  replace HO3 := HO3.below hb9
  replace cp0_0 := (cell_below hb9 ltp0).trans cp0_0
  replace cp0_1 := (cell_below hb9 ltp0).trans cp0_1
  replace cp0_2 := (cell_below hb9 ltp0).trans cp0_2
  replace cp0_3 := (cell_below hb9 ltp0).trans cp0_3
  replace cp0_4 := (cell_below hb9 ltp0).trans cp0_4
  replace ltp0 := Nat.lt_of_lt_of_le ltp0 hb9.size
  clear hb9
  go_wp2_with fail
  go_ret
  exact ⟨rfl, HB9⟩
end Go.Proofs.Ytbaokmapgdnhlaa
