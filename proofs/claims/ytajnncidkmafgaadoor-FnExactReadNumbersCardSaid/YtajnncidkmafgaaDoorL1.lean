/- The walks over slices of samples, second part: sums and products of samples. Conditions: none beside the contracts' own. -/
import Derived.Test.YtajnncidkmafgaaDoorL
set_option linter.unusedVariables false
set_option linter.unusedSimpArgs false
namespace Go.Proofs.YtajnncidkmafgaaDoor
open Go.RowKit

def few (n : Nat) : Bool := decide (n ≤ 256)
/-- A float and a bool, and below the heap that was there nothing has changed. -/
def RFBM (X : Option Nat) (b : Bool) (w : World) (e : Ending) (w' : World) : Prop := ∃ r, e = .returned (.tuple #[.float .f32 r, .bool b]) ∧ Fl .f32 r X ∧ Below w.heap.size w w'
/-- A new slice and a bool. -/
def RSB (Zs : List (Option Nat)) (b : Bool) (w : World) (e : Ending) (w' : World) : Prop := ∃ v zs, e = .returned (.tuple #[v, .bool b]) ∧ Of w' w.heap.size v zs ∧ clss zs = Zs ∧ zs.length ≤ 1048576 ∧ Below w.heap.size w w'
theorem zero_fl : Fl .f32 0 (some 0) := .of_lit (by decide) (by decide)
def sumNC (n : Nat) (X : List (Option Nat)) : Option Nat := if few n = true then sumC X else some 0
def scaleNC (n : Nat) (X : List (Option Nat)) (Y : Option Nat) : List (Option Nat) := if few n = true then X.map (fmul · Y) else []
end Go.Proofs.YtajnncidkmafgaaDoor
