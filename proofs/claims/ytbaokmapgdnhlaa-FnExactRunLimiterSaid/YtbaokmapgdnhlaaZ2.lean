/- Regions whose operations yield one of some values: the class of the worlds that hold some cells. Conditions: none beside the theorem's own. -/
import Derived.Test.YtbaokmapgdnhlaaZ1
import Derived.Test.YtbaokmapgdnhlaaFl
import Derived.Below
set_option linter.unusedVariables false
set_option linter.unusedSimpArgs false
namespace Go.Proofs.Ytbaokmapgdnhlaa
open Go.RowKit
namespace Loose
def All : List (Addr × Value) → World → Prop
  | [], _ => True
  | p :: ps, w => w.cell? p.1 = some p.2 ∧ All ps w
theorem All.below {w w' : World} (hb : Below w.heap.size w w') : ∀ {cs : List (Addr × Value)}, All cs w → All cs w'
  | [], _ => trivial
  | _ :: _, h => ⟨(hb.cell (World.block_lt_of_cell? _ _ h.1)).trans h.1, All.below hb h.2⟩
theorem All.drewN {cs : List (Addr × Value)} {w : World} (h : All cs w) (k : Nat) : All cs (w.drewN k) := h.below (below_drewN (Below.refl _ _) k)
/-- The block that has grown holds none of the cells. -/
theorem All.grown {w w' : World} {row : Option Nat} (hg : w.grownBy w' row) : ∀ {cs : List (Addr × Value)}, (∀ p ∈ cs, row ≠ some p.1.block) → All cs w → All cs w'
  | [], _, _ => trivial
  | p :: _, hr, h => ⟨by
      have hb := World.block_lt_of_cell? _ _ h.1
      have := hg.block p.1.block hb (fun e => hr p (by simp) e.symm)
      have h1 := h.1
      unfold World.cell? at *
      rw [this]; exact h1, All.grown hg (fun q hq => hr q (List.mem_cons_of_mem _ hq)) h.2⟩
structure Cls (W : World) (cs : List (Addr × Value)) (W0 : World) : Prop where
  all : All cs W0
  bel : Below W.heap.size W W0
theorem Cls.next {W w w' : World} {cs : List (Addr × Value)} (h : Cls W cs w) (hb : Below w.heap.size w w') : Cls W cs w' := ⟨h.all.below (cs := cs) hb, below_next h.bel h.bel.size hb⟩
theorem Cls.drew {W w : World} {cs : List (Addr × Value)} (h : Cls W cs w) (k : Nat) : Cls W cs (w.drewN k) := h.next (below_drewN (Below.refl _ _) k)
def Rb (w w' : World) : Prop := Below w.heap.size w w'
theorem Rb.refl (w : World) : Rb w w := Below.refl _ _
section
variable {P : Program} {ops : Array Oper} {W : World} {cs : List (Addr × Value)} {Q : Exit → Act → World → Prop} {o : Oper} {rest : List Oper} {p : Value → World → Prop} {ql : List (Option (Value → World → Prop))} {a : Act} {F : World → Prop}
theorem regionC {id : Nat} {l : List Oper} (cs : List (Addr × Value)) (hm : P.follows .mixedOrders = true) (hB : Region.lexB .any l.toArray = true) (h0 : All cs W)
    (h : ∃ ql, walk P l.toArray (Cls W cs) Rb (fin (Cls W cs) Q) l ql a (fun _ => True)) : (Code.region id l.toArray true).wp P Q a W :=
  region Rb hm hB (Cls.drew (k := 1) ⟨h0, Below.refl _ _⟩) h
theorem quiet (h0 : All cs W) (hw : Region.wanted o (yielded ops a.tmps) = true) (hc : calm o.op = true)
    (h : ∀ K : Act → Prop, (∀ a', walk P ops (Cls W cs) Rb (fin (Cls W cs) Q) rest ql a' F → K a') → o.quiet P a (Cls W cs) K) : walk P ops (Cls W cs) Rb (fin (Cls W cs) Q) (o :: rest) (none :: ql) a F :=
  walk_quiet Rb.refl ⟨W, h0, Below.refl _ _⟩ hw hc h
theorem free {g : Value → Prop} (hw : Region.wanted o (yielded ops a.tmps) = true) (ho : ∀ w, Cls W cs w → at_ P o a (Cls W cs) Rb w (fun v _ => g v)) (h : ∀ v, g v → walk P ops (Cls W cs) Rb (fin (Cls W cs) Q) rest ql (a.put o.dst v) F) : walk P ops (Cls W cs) Rb (fin (Cls W cs) Q) (o :: rest) (some (fun v _ => g v) :: ql) a F :=
  walk_free hw ho h
/-- What it yields hangs on memory made by then. -/
theorem held (hw : Region.wanted o (yielded ops a.tmps) = true) (hs : ∀ v w w', Below w.heap.size w w' → p v w → p v w') (ho : ∀ w, Cls W cs w → at_ P o a (Cls W cs) Rb w p) (h : ∀ v, (∃ w, Cls W cs w ∧ p v w) → walk P ops (Cls W cs) Rb (fin (Cls W cs) Q) rest ql (a.put o.dst v) (fun w => F w ∧ p v w)) : walk P ops (Cls W cs) Rb (fin (Cls W cs) Q) (o :: rest) (some p :: ql) a F :=
  walk_loose hw (fun v w w' hr h => hs v w w' hr h) ho h
theorem val {v : Value} {w w2 : World} (hc : Cls W cs w) (h : (execOp a.eval o).run P w = .ok (.value v) w2) (hd : ∃ k, w2 = w.drewN k) (hp : p v w2) : at_ P o a (Cls W cs) Rb w p := by
  obtain ⟨k, rfl⟩ := hd
  exact at_val h (hc.drew k) (below_drewN (Below.refl _ _) k) hp
theorem call {f : FuncId} {args : Array Value} {w w1 : World} (hc : Cls W cs w) (h : (execOp a.eval o).run P w = .ok (.enter f args) w1) (hd : w1 = w) (hk : Calls P f args w (fun e w'' => ∃ v, e = .returned v ∧ Below w.heap.size w w'' ∧ p v w'')) : at_ P o a (Cls W cs) Rb w p := by
  subst hd
  exact at_enter h (hk.mono fun e w'' ⟨v, he, hb, hp⟩ => ⟨v, he, hc.next hb, hb, hp⟩)
theorem done (h : ∀ w', All cs w' → Below W.heap.size W w' → F w' → Q .normal a w') : walk P ops (Cls W cs) Rb (fin (Cls W cs) Q) [] [] a F :=
  walk_nil fun w' hc hF => h w' hc.all hc.bel hF
end
end Loose
end Go.Proofs.Ytbaokmapgdnhlaa
