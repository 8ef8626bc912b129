/- Floats as classes: what each float operation of Go gives, up to which not-a-number it is. Conditions: none. -/
import Derived.WalkKit
import Derived.WalkSpells
import Derived.WalkLawsBesides
import Derived.Deep.Draws
import Derived.Lib.Hide
import Derived.Test.YtajnncidkmafgaaDoorFp
set_option linter.unusedVariables false
set_option linter.unusedSimpArgs false
namespace Go.Proofs.YtajnncidkmafgaaDoor
open Go.RowKit

/-- Is it a not-a-number? -/
def isN (k : FloatKind) (b : Nat) : Bool := (k.format.read b).isNaN
/-- The class of a word: 'none' for each not-a-number. -/
def cls (k : FloatKind) (b : Nat) : Option Nat := if isN k b then none else some b
/-- A word that fits its kind, of class X. -/
structure Fl (k : FloatKind) (b : Nat) (X : Option Nat) : Prop where
  wf : b < 2 ^ k.format.width
  cl : cls k b = X

theorem Fl.self {k : FloatKind} {b : Nat} (h : b < 2 ^ k.format.width) : Fl k b (cls k b) := ⟨h, rfl⟩
theorem Fl.some {k : FloatKind} {b c : Nat} (h : Fl k b (.some c)) : b = c := by
  have := h.cl
  unfold cls at this
  split at this
  · cases this
  · injection this
theorem Fl.not_nan {k : FloatKind} {b c : Nat} (h : Fl k b (.some c)) : isN k b = false := by
  have := h.cl
  unfold cls at this
  split at this
  · cases this
  · simp_all
theorem Fl.nan {k : FloatKind} {b : Nat} (h : Fl k b .none) : isN k b = true := by
  have := h.cl
  unfold cls at this
  split at this
  · assumption
  · cases this
theorem Fl.of_lit {k : FloatKind} {b : Nat} (h : b < 2 ^ k.format.width) (hn : isN k b = false) : Fl k b (.some b) := ⟨h, by simp [cls, hn]⟩
theorem Fl.of_nan {k : FloatKind} {b : Nat} (h : b < 2 ^ k.format.width) (hn : isN k b = true) : Fl k b .none := ⟨h, by simp [cls, hn]⟩
theorem Fl.cases {k : FloatKind} {b : Nat} {X : Option Nat} (h : Fl k b X) : (X = .none ∧ isN k b = true) ∨ (X = .some b ∧ isN k b = false) := by
  cases X with
  | none => exact .inl ⟨rfl, h.nan⟩
  | some c => exact .inr ⟨by rw [h.some], h.not_nan⟩

section core
open Ieee
theorem read_word (f : Format) (neg : Bool) {rung : Nat} (h : rung < f.signWeight) :
    f.word neg rung / f.signWeight % 2 = neg.toNat ∧ f.word neg rung % f.signWeight = rung := by
  have hp : 0 < f.signWeight := Nat.two_pow_pos _
  unfold Format.word
  cases neg
  · simp [Nat.div_eq_of_lt h, Nat.mod_eq_of_lt h]
  · simp [Nat.add_div_left _ hp, Nat.div_eq_of_lt h, Nat.mod_eq_of_lt h]
theorem read_word_nan (f : Format) (neg : Bool) {rung : Nat} (h : rung ≤ f.infRung) : (f.read (f.word neg rung)).isNaN = false := by
  have hlt : rung < f.signWeight := Nat.lt_of_le_of_lt h f.infRung_lt
  obtain ⟨_, h2⟩ := read_word f neg hlt
  unfold Format.read
  simp only [h2]
  split
  · rfl
  · split
    · rfl
    · rw [if_pos (by omega)]; rfl
theorem nearest_rung (f : Format) (neg : Bool) (m : Nat) (p : Int) : ∃ r, r ≤ f.infRung ∧ f.nearest neg m p = f.word neg r := by
  unfold Format.nearest
  dsimp only
  split
  · exact ⟨0, Nat.zero_le _, rfl⟩
  · exact ⟨_, Nat.min_le_right _ _, rfl⟩
theorem write_not_nan (f : Format) {d : Datum} (h : d.isNaN = false) : (f.read (f.write d)).isNaN = false := by
  cases d with
  | number s m p =>
    obtain ⟨r, hr, he⟩ := nearest_rung f s m p
    show (f.read (f.nearest s m p)).isNaN = false
    rw [he]
    exact read_word_nan f s hr
  | infinity s => exact read_word_nan f s (Nat.le_refl _)
  | nan s t => simp [Datum.isNaN] at h
theorem sum_not_nan {a b d : Datum} (h : a.sum b = .some d) : d.isNaN = false := by
  cases a <;> cases b <;> simp only [Datum.sum] at h <;> first | (cases h; done) | (injection h with h; subst h; rfl) | (split at h <;> first | (cases h; done) | (injection h with h; subst h; rfl))
theorem product_not_nan {a b d : Datum} (h : a.product b = .some d) : d.isNaN = false := by
  cases a <;> cases b <;> simp only [Datum.product] at h <;> first | (cases h; done) | (injection h with h; subst h; rfl) | (split at h <;> first | (cases h; done) | (injection h with h; subst h; rfl))
theorem quotient_not_nan {n : Nat} {a b d : Datum} (h : a.quotient n b = .some d) : d.isNaN = false := by
  cases a <;> cases b <;> simp only [Datum.quotient] at h <;> first | (cases h; done) | (injection h with h; subst h; rfl) | (repeat' split at h) <;> first | (cases h; done) | (injection h with h; subst h; rfl)
theorem root_not_nan {n : Nat} {a d : Datum} (h : a.root n = .some d) : d.isNaN = false := by
  cases a <;> simp only [Datum.root] at h <;> first | (cases h; done) | (injection h with h; subst h; rfl) | (repeat' split at h) <;> first | (cases h; done) | (injection h with h; subst h; rfl)
theorem opposite_nan (d : Datum) : d.opposite.isNaN = d.isNaN := by cases d <;> rfl
theorem sum_nan_left {a b : Datum} (h : a.isNaN = true) : a.sum b = .none := by cases a <;> simp [Datum.isNaN] at h <;> rfl
theorem sum_nan_right {a b : Datum} (h : b.isNaN = true) : a.sum b = .none := by cases b <;> simp [Datum.isNaN] at h <;> cases a <;> rfl
theorem product_nan_left {a b : Datum} (h : a.isNaN = true) : a.product b = .none := by cases a <;> simp [Datum.isNaN] at h <;> rfl
theorem product_nan_right {a b : Datum} (h : b.isNaN = true) : a.product b = .none := by cases b <;> simp [Datum.isNaN] at h <;> cases a <;> rfl
theorem quotient_nan_left {n : Nat} {a b : Datum} (h : a.isNaN = true) : a.quotient n b = .none := by cases a <;> simp [Datum.isNaN] at h <;> rfl
theorem quotient_nan_right {n : Nat} {a b : Datum} (h : b.isNaN = true) : a.quotient n b = .none := by cases b <;> simp [Datum.isNaN] at h <;> cases a <;> rfl
theorem order_nan_left {a b : Datum} (h : a.isNaN = true) : a.order b = .none := by cases a <;> simp [Datum.isNaN] at h <;> rfl
theorem order_nan_right {a b : Datum} (h : b.isNaN = true) : a.order b = .none := by cases b <;> simp [Datum.isNaN] at h <;> cases a <;> rfl
theorem order_self {a : Datum} (h : a.isNaN = false) : a.order a = .some .eq := by
  cases a with
  | number s m i => simp [Datum.order]
  | infinity s => simp [Datum.order]
  | nan s t => simp [Datum.isNaN] at h
end core

/-- The four operations on classes. -/
def fop (op : BinOp) (k : FloatKind) (X Y : Option Nat) : Option Nat := X.bind fun a => Y.bind fun b => floatBits op k a b
abbrev fadd (X Y : Option Nat) : Option Nat := fop .add .f32 X Y
abbrev fsub (X Y : Option Nat) : Option Nat := fop .sub .f32 X Y
abbrev fmul (X Y : Option Nat) : Option Nat := fop .mul .f32 X Y
abbrev fquo (X Y : Option Nat) : Option Nat := fop .quo .f32 X Y
/-- The order of classes. -/
def ford (k : FloatKind) (X Y : Option Nat) : Option Ordering := X.bind fun a => Y.bind fun b => k.format.order a b

def nanB (q : Question) (w : World) : Nat := q.cut (w.tape w.drawn q)
/-- What an operation gives in a world, to the bit. -/
def fr (op : BinOp) (k : FloatKind) (x y : Nat) (w : World) : Nat := (floatBits op k x y).getD (nanB (.nanBits k x y) w)
/-- How often it asks. -/
def fd (op : BinOp) (k : FloatKind) (x y : Nat) : Nat := if (floatBits op k x y).isSome then 0 else 1

theorem floatBits_nan {op : BinOp} {k : FloatKind} {x y : Nat} (h : isN k x = true ∨ isN k y = true) : floatBits op k x y = .none := by
  have hx : isN k x = true → (k.format.read x).isNaN = true := fun h => h
  have hy : isN k y = true → (k.format.read y).isNaN = true := fun h => h
  have ho : isN k y = true → (k.format.read y).opposite.isNaN = true := fun h => by rw [opposite_nan]; exact h
  unfold floatBits
  cases op <;> simp only [Ieee.Format.add, Ieee.Format.sub, Ieee.Format.mul, Ieee.Format.div, Option.map_eq_none_iff] <;> rcases h with h | h
  · exact sum_nan_left (hx h)
  · exact sum_nan_right (hy h)
  · exact sum_nan_left (hx h)
  · exact sum_nan_right (ho h)
  · exact product_nan_left (hx h)
  · exact product_nan_right (hy h)
  · exact quotient_nan_left (hx h)
  · exact quotient_nan_right (hy h)
theorem floatBits_some {op : BinOp} {k : FloatKind} {x y r : Nat} (h : floatBits op k x y = .some r) : isN k r = false ∧ r < 2 ^ k.format.width := by
  refine ⟨?_, ?_⟩
  · unfold floatBits at h
    cases op <;> simp only [Ieee.Format.add, Ieee.Format.sub, Ieee.Format.mul, Ieee.Format.div] at h <;> first | (cases h; done) | (obtain ⟨d, hd, rfl⟩ := Option.map_eq_some_iff.1 h)
    · exact write_not_nan _ (sum_not_nan hd)
    · exact write_not_nan _ (sum_not_nan hd)
    · exact write_not_nan _ (product_not_nan hd)
    · exact write_not_nan _ (quotient_not_nan hd)
  · have := floatBits_wf h
    cases k
    · show r < 2 ^ 32
      simpa [Lit.wf] using this
    · show r < 2 ^ 64
      simpa [Lit.wf] using this
theorem isN_of_rung {k : FloatKind} {b : Nat} (h : k.format.infRung < b % k.format.signWeight) : isN k b = true := by
  have hb : k.format.binade ≤ k.format.infRung := by cases k <;> decide
  unfold isN Ieee.Format.read
  dsimp only
  rw [if_neg (by omega), if_neg (by omega), if_neg (by omega)]
  rfl
theorem nan32_is (t : Nat) : isN .f32 ((t % 2) * 2 ^ 31 + 0x7f800000 + 1 + (t / 2) % (2 ^ 23 - 1)) = true ∧ (t % 2) * 2 ^ 31 + 0x7f800000 + 1 + (t / 2) % (2 ^ 23 - 1) < 2 ^ FloatKind.f32.format.width := by
  have h1 : t % 2 < 2 := Nat.mod_lt _ (by omega)
  have h2 : t / 2 % (2 ^ 23 - 1) < 8388607 := Nat.mod_lt _ (by omega)
  generalize t % 2 = u at *
  generalize t / 2 % (2 ^ 23 - 1) = v at *
  refine ⟨isN_of_rung ?_, ?_⟩
  · show 2139095040 < (u * 2147483648 + 2139095040 + 1 + v) % 2147483648
    omega
  · show u * 2147483648 + 2139095040 + 1 + v < 4294967296
    omega
theorem nan64_is (t : Nat) : isN .f64 ((t % 2) * 2 ^ 63 + 0x7ff0000000000000 + 1 + (t / 2) % (2 ^ 52 - 1)) = true ∧ (t % 2) * 2 ^ 63 + 0x7ff0000000000000 + 1 + (t / 2) % (2 ^ 52 - 1) < 2 ^ FloatKind.f64.format.width := by
  have h1 : t % 2 < 2 := Nat.mod_lt _ (by omega)
  have h2 : t / 2 % (2 ^ 52 - 1) < 4503599627370495 := Nat.mod_lt _ (by omega)
  generalize t % 2 = u at *
  generalize t / 2 % (2 ^ 52 - 1) = v at *
  refine ⟨isN_of_rung ?_, ?_⟩
  · show 9218868437227405312 < (u * 9223372036854775808 + 9218868437227405312 + 1 + v) % 9223372036854775808
    omega
  · show u * 9223372036854775808 + 9218868437227405312 + 1 + v < 18446744073709551616
    omega
theorem nanBits_nan (k : FloatKind) (x y : Nat) (w : World) : isN k (nanB (.nanBits k x y) w) = true ∧ nanB (.nanBits k x y) w < 2 ^ k.format.width := by
  cases k
  · exact nan32_is _
  · exact nan64_is _
theorem nanConv_nan (k : FloatKind) (x : Nat) (w : World) : isN k (nanB (.nanConv k x) w) = true ∧ nanB (.nanConv k x) w < 2 ^ k.format.width := by
  cases k
  · exact nan32_is _
  · exact nan64_is _
theorem Fl.fr {k : FloatKind} {a b : Nat} {X Y : Option Nat} (h1 : Fl k a X) (h2 : Fl k b Y) (op : BinOp) (w : World) : Fl k (fr op k a b w) (fop op k X Y) := by
  rcases h1.cases with ⟨rfl, n1⟩ | ⟨rfl, n1⟩
  · have he : floatBits op k a b = .none := floatBits_nan (.inl n1)
    obtain ⟨g1, g2⟩ := nanBits_nan k a b w
    simp only [Proofs.YtajnncidkmafgaaDoor.fr, he, Option.getD_none, fop, Option.bind_none]
    exact .of_nan g2 g1
  · rcases h2.cases with ⟨rfl, n2⟩ | ⟨rfl, n2⟩
    · have he : floatBits op k a b = .none := floatBits_nan (.inr n2)
      obtain ⟨g1, g2⟩ := nanBits_nan k a b w
      simp only [Proofs.YtajnncidkmafgaaDoor.fr, he, Option.getD_none, fop, Option.bind_some, Option.bind_none]
      exact .of_nan g2 g1
    · simp only [Proofs.YtajnncidkmafgaaDoor.fr, fop, Option.bind_some]
      cases he : floatBits op k a b with
      | none =>
        obtain ⟨g1, g2⟩ := nanBits_nan k a b w
        exact .of_nan g2 g1
      | some r => exact .of_lit (floatBits_some he).2 (floatBits_some he).1
theorem Fl.ord {k : FloatKind} {a b : Nat} {X Y : Option Nat} (h1 : Fl k a X) (h2 : Fl k b Y) : k.format.order a b = ford k X Y := by
  rcases h1.cases with ⟨rfl, n1⟩ | ⟨rfl, n1⟩
  · exact order_nan_left n1
  · rcases h2.cases with ⟨rfl, n2⟩ | ⟨rfl, n2⟩
    · exact order_nan_right n2
    · rfl

section run
variable {P : Program} (w : World) (t : TypeId) (k : FloatKind) (x y : Nat)
theorem run_fl (op : BinOp) (h : op = .add ∨ op = .sub ∨ op = .mul ∨ op = .quo) : (binOp op t (.float k x) (.float k y)).run P w = .ok (.float k (fr op k x y w)) (w.drewN (fd op k x y)) := by
  cases hb : floatBits op k x y with
  | some r =>
    rw [run_float_arith w op t k x y r hb]
    simp [fr, fd, hb, World.drewN_zero]
  | none =>
    have hq : (Question.nanBits k x y).forced = false := rfl
    rcases h with rfl | rfl | rfl | rfl <;> unfold floatBits at hb <;> simp only at hb <;> simp [binOp, Op.floatArith, hb, fr, fd, floatBits, choose, Sem.run, hq, nanB, World.drewN]
@[go_sem] theorem run_fl_add : (binOp .add t (.float k x) (.float k y)).run P w = .ok (.float k (fr .add k x y w)) (w.drewN (fd .add k x y)) := run_fl w t k x y .add (by simp)
@[go_sem] theorem run_fl_sub : (binOp .sub t (.float k x) (.float k y)).run P w = .ok (.float k (fr .sub k x y w)) (w.drewN (fd .sub k x y)) := run_fl w t k x y .sub (by simp)
@[go_sem] theorem run_fl_mul : (binOp .mul t (.float k x) (.float k y)).run P w = .ok (.float k (fr .mul k x y w)) (w.drewN (fd .mul k x y)) := run_fl w t k x y .mul (by simp)
@[go_sem] theorem run_fl_quo : (binOp .quo t (.float k x) (.float k y)).run P w = .ok (.float k (fr .quo k x y w)) (w.drewN (fd .quo k x y)) := run_fl w t k x y .quo (by simp)
end run

@[go_sem] theorem run_store_float {P : Program} (w : World) (a : Addr) (m : Mode) (k : FloatKind) (x : Nat) : (store a (.float k x) m).run P w = stored P w a (.float k x) m := run_store P w a _ m rfl

/-- A bool, and no more than draws. -/
def RB (b : Bool) (w : World) (e : Ending) (w' : World) : Prop := e = .returned (.bool b) ∧ ∃ n, w' = w.drewN n
/-- A whole number, and no more than draws. -/
def RI (k : IntKind) (b : Int) (w : World) (e : Ending) (w' : World) : Prop := e = .returned (.int k b) ∧ ∃ n, w' = w.drewN n
/-- A float of a class, and no more than draws. -/
def RF (k : FloatKind) (X : Option Nat) (w : World) (e : Ending) (w' : World) : Prop := ∃ r n, e = .returned (.float k r) ∧ Fl k r X ∧ w' = w.drewN n
/-- A value, and below the heap that was there nothing has changed. -/
def RV (v : Value) (w : World) (e : Ending) (w' : World) : Prop := e = .returned v ∧ Below w.heap.size w w'
/-- A float of a class, and below the heap that was there nothing has changed. -/
def RFM (k : FloatKind) (X : Option Nat) (w : World) (e : Ending) (w' : World) : Prop := ∃ r, e = .returned (.float k r) ∧ Fl k r X ∧ Below w.heap.size w w'
theorem bcell {W w1 : World} (hb : Below W.heap.size W w1) : (∀ b o, b < W.heap.size → w1.cell? ⟨b, o, none⟩ = W.cell? ⟨b, o, none⟩) ∧ (∀ b o, b < W.heap.size → w1.frozen? ⟨b, o, none⟩ = W.frozen? ⟨b, o, none⟩) :=
  ⟨fun b o h => hb.cell (p := ⟨b, o, none⟩) h, fun b o h => hb.frozen (p := ⟨b, o, none⟩) h⟩
theorem below_next {B : Nat} {w w1 w2 : World} (h : Below B w w1) (hB : B ≤ w1.heap.size) (k : Below w1.heap.size w1 w2) : Below B w w2 :=
  h.trans ⟨k.os, k.tape, k.output, k.size, fun i hi => k.block i (Nat.lt_of_lt_of_le hi hB)⟩
/-- Any value, and no more than draws. -/
def RV2 (v : Value) (w : World) (e : Ending) (w' : World) : Prop := e = .returned v ∧ ∃ n, w' = w.drewN n
/-- A float of a class and a bool, and no more than draws. -/
def RFB (X : Option Nat) (b : Bool) (w : World) (e : Ending) (w' : World) : Prop := ∃ r n, e = .returned (.tuple #[.float .f32 r, .bool b]) ∧ Fl .f32 r X ∧ w' = w.drewN n
theorem below_draws (w : World) (n : Nat) : Below w.heap.size w (w.drewN n) := below_drewN (Below.refl _ _) n
theorem wf_lt {k : FloatKind} {b : Nat} (h : (Lit.float k b).wf = true) : b < 2 ^ k.format.width := by
  cases k
  · show b < 2 ^ 32
    simpa [Lit.wf] using h
  · show b < 2 ^ 64
    simpa [Lit.wf] using h
theorem ord_self (k : FloatKind) (b : Nat) : k.format.order b b = if isN k b then none else some .eq := by
  unfold Ieee.Format.order
  cases h : isN k b with
  | true => exact order_nan_left h
  | false => exact order_self h
theorem ord_nan {k : FloatKind} {b : Nat} (h : isN k b = true) : k.format.order b b = none := by rw [ord_self, h]; rfl
theorem ord_num {k : FloatKind} {b : Nat} (h : isN k b = false) : k.format.order b b = some .eq := by rw [ord_self, h]; rfl
@[go_sem] theorem none_bne (o : Ordering) : ((none : Option Ordering) != some o) = true := rfl
@[go_sem] theorem none_beq (o : Ordering) : ((none : Option Ordering) == some o) = false := rfl
theorem ret_int {k : IntKind} {a b : Int} (h : a = b) : Ending.returned (.int k a) = .returned (.int k b) := by rw [h]
theorem ret_bool {a b : Bool} (h : a = b) : Ending.returned (.bool a) = .returned (.bool b) := by rw [h]
theorem wrap64_word {b : Nat} (h : b < 2 ^ FloatKind.f32.format.width) : wrap64 (b : Int) = b := by
  have : b < 4294967296 := h
  unfold wrap64; omega

/-! ### Classes -/
def finC (X : Option Nat) : Bool := ford .f32 (fsub X X) (some 0) == some .eq
def bitsC (X : Option Nat) : Int := match X with | none => 2143289344 | some b => b
def sameC (X Y : Option Nat) : Bool := bitsC X == bitsC Y
def subC (X : Option Nat) : Bool := (ford .f32 X (some 0) != some .eq) && (bits .and .i64 (bitsC X) 2139095040 == 0)
theorem not_word {b : Nat} (h : isN .f32 b = false) : b ≠ 2143289344 := by
  rintro rfl
  revert h; decide
theorem sameC_none_some {b : Nat} (h : isN .f32 b = false) : sameC none (some b) = false := by
  have := not_word h
  simp only [sameC, bitsC, beq_eq_false_iff_ne]; omega
theorem sameC_some_none {b : Nat} (h : isN .f32 b = false) : sameC (some b) none = false := by
  have := not_word h
  simp only [sameC, bitsC, beq_eq_false_iff_ne]; omega
theorem and_shift (b c n : Nat) : b &&& (c * 2 ^ n) = (b / 2 ^ n &&& c) * 2 ^ n := by
  rw [← Nat.shiftLeft_eq, ← Nat.shiftLeft_eq, ← Nat.shiftRight_eq_div_pow]
  apply Nat.eq_of_testBit_eq
  intro i
  simp only [Nat.testBit_and, Nat.testBit_shiftLeft, Nat.testBit_shiftRight]
  by_cases h : n ≤ i
  · simp [h]
  · simp [h]
theorem wraps_i64 (n : Int) (h₀ : 0 ≤ n) (h₁ : n < 2 ^ 63) : IntKind.i64.wrap n = n := by rw [IntKind.wrap_i64]; omega
theorem and_exp (b : Nat) (h : b < 4294967296) : bits .and .i64 (b : Int) 2139095040 = ((b / 8388608 % 256 * 8388608 : Nat) : Int) := by
  rw [show (2139095040 : Int) = ((2139095040 : Nat) : Int) from rfl, (bits_nat .i64 63 (by decide) wraps_i64 b 2139095040 (by omega) (by omega)).1]
  rw [show (2139095040 : Nat) = 255 * 2 ^ 23 from rfl, and_shift, show (255 : Nat) = 2 ^ 8 - 1 from rfl, Nat.and_two_pow_sub_one_eq_mod]
theorem word32 {b : Nat} (h : b < 2 ^ FloatKind.f32.format.width) (hn : isN .f32 b = false) : b < 4294967296 ∧ b % 2147483648 ≤ 2139095040 ∧ Fp.sr Ieee.single b = if b < 2147483648 then (b : Int) else 2147483648 - (b : Int) := by
  have h1 : b < 4294967296 := h
  have h2 : Fp.rung Ieee.single b ≤ Ieee.single.infRung := Fp.rung_le_of_not_nan _ (by decide) hn
  refine ⟨h1, h2, ?_⟩
  show Fp.sg (b / 2147483648 % 2 == 1) (b % 2147483648) = _
  unfold Fp.sg
  by_cases hb : b < 2147483648
  · rw [if_pos hb, show (b / 2147483648 % 2 == 1) = false by rw [beq_eq_false_iff_ne]; omega]
    simp only [Bool.false_eq_true, if_false]; omega
  · rw [if_neg hb, show (b / 2147483648 % 2 == 1) = true by rw [beq_iff_eq]; omega]
    simp only [if_true]; omega
/-- How two numbers that are none stand to each other, by their signed rungs. -/
theorem ford32 {a b : Nat} (ha : a < 2 ^ FloatKind.f32.format.width) (na : isN .f32 a = false) (hb : b < 2 ^ FloatKind.f32.format.width) (nb : isN .f32 b = false) :
    ford .f32 (some a) (some b) = some (compare (Fp.sr Ieee.single a) (Fp.sr Ieee.single b)) :=
  Fp.order_words Ieee.single (by decide) (by decide) (Fp.rung_le_of_not_nan _ (by decide) na) (Fp.rung_le_of_not_nan _ (by decide) nb)
theorem cmp_lt (x y : Int) : (some (compare x y) == some Ordering.lt) = decide (x < y) := by
  rcases Int.lt_trichotomy x y with h | h | h
  · rw [Int.compare_eq_lt.2 h]; simp [h]
  · subst h; simp
  · rw [Int.compare_eq_gt.2 h]; simp; omega
theorem cmp_gt (x y : Int) : (some (compare x y) == some Ordering.gt) = decide (y < x) := by
  rcases Int.lt_trichotomy x y with h | h | h
  · rw [Int.compare_eq_lt.2 h]; simp; omega
  · subst h; simp
  · rw [Int.compare_eq_gt.2 h]; simp [h]
theorem cmp_eq (x y : Int) : (some (compare x y) == some Ordering.eq) = decide (x = y) := by
  rcases Int.lt_trichotomy x y with h | h | h
  · rw [Int.compare_eq_lt.2 h]; simp; omega
  · subst h; simp
  · rw [Int.compare_eq_gt.2 h]; simp; omega
theorem subC_parts {x : Nat} {X : Option Nat} (hx : Fl .f32 x X) : subC X = ((ford .f32 X (some 0) != some .eq) && (ford .f32 X (some 8388608) == some .lt) && (ford .f32 X (some 2155872256) == some .gt)) := by
  rcases hx.cases with ⟨rfl, _⟩ | ⟨rfl, n1⟩
  · rfl
  · obtain ⟨h1, h2, h3⟩ := word32 hx.wf n1
    unfold subC
    rw [ford32 hx.wf n1 (b := 0) (by decide) (by decide), ford32 hx.wf n1 (b := 8388608) (by decide) (by decide), ford32 hx.wf n1 (b := 2155872256) (by decide) (by decide)]
    rw [show Fp.sr Ieee.single 0 = 0 by decide, show Fp.sr Ieee.single 8388608 = 8388608 by decide, show Fp.sr Ieee.single 2155872256 = -8388608 by decide]
    simp only [bitsC, bne, cmp_eq, cmp_lt, cmp_gt, and_exp x h1]
    rw [h3, Bool.eq_iff_iff]
    simp only [Bool.and_eq_true, Bool.not_eq_true', decide_eq_false_iff_not, decide_eq_true_eq, beq_iff_eq]
    split <;> omega
end Go.Proofs.YtajnncidkmafgaaDoor
