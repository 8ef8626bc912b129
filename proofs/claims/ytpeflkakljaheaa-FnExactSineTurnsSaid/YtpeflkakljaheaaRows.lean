/-
  No cell of these rows narrows 'for every input' (looked for: loops, veiled, ifaces, maps, wideKeys, modest, calm, conditions, laid).
  DERIVED. THE GIVEN ROWS OF THIS SEAT. 12 by the template 'for every input the law returns true; each argument reads behind the call as it read before'; 0 by the template 'total and deterministic' (their statements: YtpeflkakljaheaaTotals.lean).
  GIVEN WITH THE SEED: the statements are not yours to turn. If you find one false, say at which input.
  Laid BY PROGRAM, IN A SANDBOX (cutbox-rows.mjs): the forced cells as the released guide's own fill.sh prints them over the translation 5cf5cff509272d7b… (all of the seat's roots in one cut). By AI agents, Wed Nov 11 2026. No macro, syntax, notation, axiom, sorry.
-/
import Derived.Test.YtpeflkakljaheaaChecked
import GoSem.Claim
import GoSem.ClaimJoined
import GoSem.ClaimMapViews
import Derived.JoinedTies
import Derived.KernelRfl
namespace Go.Proofs.Ytpeflkakljaheaa
/- THE CELL 'sum', in the pinned program and in every row, IS THE sha256 OF THE DUMP (.gsa) THAT YtpeflkakljaheaaProg.lean LOADS. Nothing in Lean hashes anything: it is a label: what it is worth is what the hold of that sum in a sandbox is worth. -/
noncomputable def Try.pinned : Pinned := { name := "ytpeflkakljaheaa", sum := "5cf5cff509272d7b7ee17c5d616c179065a5c2f262016e3dec277526351c3d5d", checked := Try.checked }
namespace Rows
def none {H : Type} : Left H := { results := [], args := [] }

/-- 'laws.FnExactFromBits': WHATEVER THE INPUT: true; the input reads as it did. -/
def fnExactFromBitsSpec : ChangeSpec := { name := "fnExactFromBits", fn := fun _ => fun
  | [d] => { results := [.lit (.bool true)], args := [d] }
  | _ => none }
def fnExactFromBitsRow : OpenClaim := { program := "ytpeflkakljaheaa", sum := "5cf5cff509272d7b7ee17c5d616c179065a5c2f262016e3dec277526351c3d5d", func := "loop.example/g01170/laws.FnExactFromBits", spec := "fnExactFromBits", inPlace := ["math.Float32frombits"], apart := false }
def FnExactFromBitsSaid : Prop := fnExactFromBitsRow.holds Try.pinned (OpenSpec.ofChange fnExactFromBitsSpec)

/-- ITS FALSE NEIGHBOUR: 'it returns false'. Refute it at one input. -/
def fnExactFromBitsWrong : ChangeSpec := { name := "fnExactFromBits", fn := fun _ => fun
  | [d] => { results := [.lit (.bool false)], args := [d] }
  | _ => none }
def FnExactFromBitsWrongFalsely : Prop := fnExactFromBitsRow.holds Try.pinned (OpenSpec.ofChange fnExactFromBitsWrong)

/-- 'laws.FnExactFlushNumber': WHATEVER THE INPUT: true; the input reads as it did. -/
def fnExactFlushNumberSpec : ChangeSpec := { name := "fnExactFlushNumber", fn := fun _ => fun
  | [d] => { results := [.lit (.bool true)], args := [d] }
  | _ => none }
def fnExactFlushNumberRow : OpenClaim := { program := "ytpeflkakljaheaa", sum := "5cf5cff509272d7b7ee17c5d616c179065a5c2f262016e3dec277526351c3d5d", func := "loop.example/g01170/laws.FnExactFlushNumber", spec := "fnExactFlushNumber", inPlace := ["math.Float32bits", "math.Float32frombits", "math.Float64bits", "math.Float64frombits"], apart := false }
def FnExactFlushNumberSaid : Prop := fnExactFlushNumberRow.holds Try.pinned (OpenSpec.ofChange fnExactFlushNumberSpec)

/-- ITS FALSE NEIGHBOUR: 'it returns false'. Refute it at one input. -/
def fnExactFlushNumberWrong : ChangeSpec := { name := "fnExactFlushNumber", fn := fun _ => fun
  | [d] => { results := [.lit (.bool false)], args := [d] }
  | _ => none }
def FnExactFlushNumberWrongFalsely : Prop := fnExactFlushNumberRow.holds Try.pinned (OpenSpec.ofChange fnExactFlushNumberWrong)

/-- 'laws.FnExactNextUp': WHATEVER THE INPUT: true; the input reads as it did. -/
def fnExactNextUpSpec : ChangeSpec := { name := "fnExactNextUp", fn := fun _ => fun
  | [d] => { results := [.lit (.bool true)], args := [d] }
  | _ => none }
def fnExactNextUpRow : OpenClaim := { program := "ytpeflkakljaheaa", sum := "5cf5cff509272d7b7ee17c5d616c179065a5c2f262016e3dec277526351c3d5d", func := "loop.example/g01170/laws.FnExactNextUp", spec := "fnExactNextUp", inPlace := ["math.Float32bits", "math.Float32frombits", "math.Float64frombits", "math.Float64bits"], apart := false }
def FnExactNextUpSaid : Prop := fnExactNextUpRow.holds Try.pinned (OpenSpec.ofChange fnExactNextUpSpec)

/-- ITS FALSE NEIGHBOUR: 'it returns false'. Refute it at one input. -/
def fnExactNextUpWrong : ChangeSpec := { name := "fnExactNextUp", fn := fun _ => fun
  | [d] => { results := [.lit (.bool false)], args := [d] }
  | _ => none }
def FnExactNextUpWrongFalsely : Prop := fnExactNextUpRow.holds Try.pinned (OpenSpec.ofChange fnExactNextUpWrong)

/-- 'laws.FnExactNextDown': WHATEVER THE INPUT: true; the input reads as it did. -/
def fnExactNextDownSpec : ChangeSpec := { name := "fnExactNextDown", fn := fun _ => fun
  | [d] => { results := [.lit (.bool true)], args := [d] }
  | _ => none }
def fnExactNextDownRow : OpenClaim := { program := "ytpeflkakljaheaa", sum := "5cf5cff509272d7b7ee17c5d616c179065a5c2f262016e3dec277526351c3d5d", func := "loop.example/g01170/laws.FnExactNextDown", spec := "fnExactNextDown", inPlace := ["math.Float32bits", "math.Float32frombits", "math.Float64frombits", "math.Float64bits"], apart := false }
def FnExactNextDownSaid : Prop := fnExactNextDownRow.holds Try.pinned (OpenSpec.ofChange fnExactNextDownSpec)

/-- ITS FALSE NEIGHBOUR: 'it returns false'. Refute it at one input. -/
def fnExactNextDownWrong : ChangeSpec := { name := "fnExactNextDown", fn := fun _ => fun
  | [d] => { results := [.lit (.bool false)], args := [d] }
  | _ => none }
def FnExactNextDownWrongFalsely : Prop := fnExactNextDownRow.holds Try.pinned (OpenSpec.ofChange fnExactNextDownWrong)

/-- 'laws.FnExactTanhNumber': WHATEVER THE INPUT: true; the input reads as it did. -/
def fnExactTanhNumberSpec : ChangeSpec := { name := "fnExactTanhNumber", fn := fun _ => fun
  | [d] => { results := [.lit (.bool true)], args := [d] }
  | _ => none }
def fnExactTanhNumberRow : OpenClaim := { program := "ytpeflkakljaheaa", sum := "5cf5cff509272d7b7ee17c5d616c179065a5c2f262016e3dec277526351c3d5d", func := "loop.example/g01170/laws.FnExactTanhNumber", spec := "fnExactTanhNumber", inPlace := ["math.Float64frombits"], apart := false }
def FnExactTanhNumberSaid : Prop := fnExactTanhNumberRow.holds Try.pinned (OpenSpec.ofChange fnExactTanhNumberSpec)

/-- ITS FALSE NEIGHBOUR: 'it returns false'. Refute it at one input. -/
def fnExactTanhNumberWrong : ChangeSpec := { name := "fnExactTanhNumber", fn := fun _ => fun
  | [d] => { results := [.lit (.bool false)], args := [d] }
  | _ => none }
def FnExactTanhNumberWrongFalsely : Prop := fnExactTanhNumberRow.holds Try.pinned (OpenSpec.ofChange fnExactTanhNumberWrong)

/-- 'laws.FnExactRootNumber': WHATEVER THE INPUT: true; the input reads as it did. -/
def fnExactRootNumberSpec : ChangeSpec := { name := "fnExactRootNumber", fn := fun _ => fun
  | [d] => { results := [.lit (.bool true)], args := [d] }
  | _ => none }
def fnExactRootNumberRow : OpenClaim := { program := "ytpeflkakljaheaa", sum := "5cf5cff509272d7b7ee17c5d616c179065a5c2f262016e3dec277526351c3d5d", func := "loop.example/g01170/laws.FnExactRootNumber", spec := "fnExactRootNumber", inPlace := ["math.sqrt"], apart := false }
def FnExactRootNumberSaid : Prop := fnExactRootNumberRow.holds Try.pinned (OpenSpec.ofChange fnExactRootNumberSpec)

/-- ITS FALSE NEIGHBOUR: 'it returns false'. Refute it at one input. -/
def fnExactRootNumberWrong : ChangeSpec := { name := "fnExactRootNumber", fn := fun _ => fun
  | [d] => { results := [.lit (.bool false)], args := [d] }
  | _ => none }
def FnExactRootNumberWrongFalsely : Prop := fnExactRootNumberRow.holds Try.pinned (OpenSpec.ofChange fnExactRootNumberWrong)

/-- 'laws.FnExactLogNumber': WHATEVER THE INPUT: true; the input reads as it did. -/
def fnExactLogNumberSpec : ChangeSpec := { name := "fnExactLogNumber", fn := fun _ => fun
  | [d] => { results := [.lit (.bool true)], args := [d] }
  | _ => none }
def fnExactLogNumberRow : OpenClaim := { program := "ytpeflkakljaheaa", sum := "5cf5cff509272d7b7ee17c5d616c179065a5c2f262016e3dec277526351c3d5d", func := "loop.example/g01170/laws.FnExactLogNumber", spec := "fnExactLogNumber", inPlace := ["math.Float64frombits", "math.Float64bits"], apart := false }
def FnExactLogNumberSaid : Prop := fnExactLogNumberRow.holds Try.pinned (OpenSpec.ofChange fnExactLogNumberSpec)

/-- ITS FALSE NEIGHBOUR: 'it returns false'. Refute it at one input. -/
def fnExactLogNumberWrong : ChangeSpec := { name := "fnExactLogNumber", fn := fun _ => fun
  | [d] => { results := [.lit (.bool false)], args := [d] }
  | _ => none }
def FnExactLogNumberWrongFalsely : Prop := fnExactLogNumberRow.holds Try.pinned (OpenSpec.ofChange fnExactLogNumberWrong)

/-- 'laws.FnExactSineTurns': WHATEVER THE INPUT: true; the input reads as it did. -/
def fnExactSineTurnsSpec : ChangeSpec := { name := "fnExactSineTurns", fn := fun _ => fun
  | [d] => { results := [.lit (.bool true)], args := [d] }
  | _ => none }
def fnExactSineTurnsRow : OpenClaim := { program := "ytpeflkakljaheaa", sum := "5cf5cff509272d7b7ee17c5d616c179065a5c2f262016e3dec277526351c3d5d", func := "loop.example/g01170/laws.FnExactSineTurns", spec := "fnExactSineTurns", inPlace := ["math.Float64frombits", "math.Float64bits", "math.archTrunc"], apart := false }
def FnExactSineTurnsSaid : Prop := fnExactSineTurnsRow.holds Try.pinned (OpenSpec.ofChange fnExactSineTurnsSpec)

/-- ITS FALSE NEIGHBOUR: 'it returns false'. Refute it at one input. -/
def fnExactSineTurnsWrong : ChangeSpec := { name := "fnExactSineTurns", fn := fun _ => fun
  | [d] => { results := [.lit (.bool false)], args := [d] }
  | _ => none }
def FnExactSineTurnsWrongFalsely : Prop := fnExactSineTurnsRow.holds Try.pinned (OpenSpec.ofChange fnExactSineTurnsWrong)

/-- 'laws.FnExactGainOf': WHATEVER THE INPUT: true; the input reads as it did. -/
def fnExactGainOfSpec : ChangeSpec := { name := "fnExactGainOf", fn := fun _ => fun
  | [d] => { results := [.lit (.bool true)], args := [d] }
  | _ => none }
def fnExactGainOfRow : OpenClaim := { program := "ytpeflkakljaheaa", sum := "5cf5cff509272d7b7ee17c5d616c179065a5c2f262016e3dec277526351c3d5d", func := "loop.example/g01170/laws.FnExactGainOf", spec := "fnExactGainOf", inPlace := ["math.Float64frombits"], apart := false }
def FnExactGainOfSaid : Prop := fnExactGainOfRow.holds Try.pinned (OpenSpec.ofChange fnExactGainOfSpec)

/-- ITS FALSE NEIGHBOUR: 'it returns false'. Refute it at one input. -/
def fnExactGainOfWrong : ChangeSpec := { name := "fnExactGainOf", fn := fun _ => fun
  | [d] => { results := [.lit (.bool false)], args := [d] }
  | _ => none }
def FnExactGainOfWrongFalsely : Prop := fnExactGainOfRow.holds Try.pinned (OpenSpec.ofChange fnExactGainOfWrong)

/-- 'laws.FnExactStepOfPitch': WHATEVER THE INPUT: true; the input reads as it did. -/
def fnExactStepOfPitchSpec : ChangeSpec := { name := "fnExactStepOfPitch", fn := fun _ => fun
  | [d] => { results := [.lit (.bool true)], args := [d] }
  | _ => none }
def fnExactStepOfPitchRow : OpenClaim := { program := "ytpeflkakljaheaa", sum := "5cf5cff509272d7b7ee17c5d616c179065a5c2f262016e3dec277526351c3d5d", func := "loop.example/g01170/laws.FnExactStepOfPitch", spec := "fnExactStepOfPitch", inPlace := ["math.Float64frombits"], apart := false }
def FnExactStepOfPitchSaid : Prop := fnExactStepOfPitchRow.holds Try.pinned (OpenSpec.ofChange fnExactStepOfPitchSpec)

/-- ITS FALSE NEIGHBOUR: 'it returns false'. Refute it at one input. -/
def fnExactStepOfPitchWrong : ChangeSpec := { name := "fnExactStepOfPitch", fn := fun _ => fun
  | [d] => { results := [.lit (.bool false)], args := [d] }
  | _ => none }
def FnExactStepOfPitchWrongFalsely : Prop := fnExactStepOfPitchRow.holds Try.pinned (OpenSpec.ofChange fnExactStepOfPitchWrong)

/-- 'laws.FnExactLevelOfFilter': WHATEVER THE INPUT: true; the input reads as it did. -/
def fnExactLevelOfFilterSpec : ChangeSpec := { name := "fnExactLevelOfFilter", fn := fun _ => fun
  | [d] => { results := [.lit (.bool true)], args := [d] }
  | _ => none }
def fnExactLevelOfFilterRow : OpenClaim := { program := "ytpeflkakljaheaa", sum := "5cf5cff509272d7b7ee17c5d616c179065a5c2f262016e3dec277526351c3d5d", func := "loop.example/g01170/laws.FnExactLevelOfFilter", spec := "fnExactLevelOfFilter", apart := false }
def FnExactLevelOfFilterSaid : Prop := fnExactLevelOfFilterRow.holds Try.pinned (OpenSpec.ofChange fnExactLevelOfFilterSpec)

/-- ITS FALSE NEIGHBOUR: 'it returns false'. Refute it at one input. -/
def fnExactLevelOfFilterWrong : ChangeSpec := { name := "fnExactLevelOfFilter", fn := fun _ => fun
  | [d] => { results := [.lit (.bool false)], args := [d] }
  | _ => none }
def FnExactLevelOfFilterWrongFalsely : Prop := fnExactLevelOfFilterRow.holds Try.pinned (OpenSpec.ofChange fnExactLevelOfFilterWrong)

/-- 'laws.FnExactBendSample': WHATEVER THE INPUT: true; the input reads as it did. -/
def fnExactBendSampleSpec : ChangeSpec := { name := "fnExactBendSample", fn := fun _ => fun
  | [d] => { results := [.lit (.bool true)], args := [d] }
  | _ => none }
def fnExactBendSampleRow : OpenClaim := { program := "ytpeflkakljaheaa", sum := "5cf5cff509272d7b7ee17c5d616c179065a5c2f262016e3dec277526351c3d5d", func := "loop.example/g01170/laws.FnExactBendSample", spec := "fnExactBendSample", apart := false }
def FnExactBendSampleSaid : Prop := fnExactBendSampleRow.holds Try.pinned (OpenSpec.ofChange fnExactBendSampleSpec)

/-- ITS FALSE NEIGHBOUR: 'it returns false'. Refute it at one input. -/
def fnExactBendSampleWrong : ChangeSpec := { name := "fnExactBendSample", fn := fun _ => fun
  | [d] => { results := [.lit (.bool false)], args := [d] }
  | _ => none }
def FnExactBendSampleWrongFalsely : Prop := fnExactBendSampleRow.holds Try.pinned (OpenSpec.ofChange fnExactBendSampleWrong)

/- THE SECOND FORM. 'bulk': how many values and letters a reading holds, each counted each time it is reached (what is shared counts as often as it is met; a slice's spare places count too). A statement '..UptoSaid' is the law's where the arguments, and the package variables that the reading takes, are together of bulk at most 1048576: NARROWER than '..Said'. Prove '..Said' where nothing that the law and all that it calls make is longer than what came in: it says more and counts as full. Else prove '..UptoSaid'. A law counts once. -/
mutual
def uptoBulk {H : Type} : DataW H → Nat
  | .lit (.string bytes) => bytes.length + 1
  | .lit _ => 1
  | .nil => 1
  | .ptr d => uptoBulk d + 1
  | .slice elems spare => uptoBulkAll elems + uptoBulkAll spare + 1
  | .agg parts => uptoBulkAll parts + 1
  | .iface _ d => uptoBulk d + 1
  | .map entries => uptoBulkEntries entries + 1
  | .held _ => 1
def uptoBulkAll {H : Type} : List (DataW H) → Nat
  | [] => 0
  | d :: r => uptoBulk d + uptoBulkAll r
def uptoBulkEntries {H : Type} : List (Lit × DataW H) → Nat
  | [] => 0
  | x :: r => uptoBulkEntry x + uptoBulkEntries r
def uptoBulkEntry {H : Type} : Lit × DataW H → Nat
  | (.string bytes, d) => bytes.length + uptoBulk d + 1
  | (_, d) => uptoBulk d + 1
 end
def uptoSmall : (H : Type) → List (DataW H) → Bool := fun _ ds => decide (uptoBulkAll ds ≤ 1048576)
def OpenSpec.upto (s : _root_.Go.ChangeSpec) : _root_.Go.OpenSpec := { _root_.Go.OpenSpec.ofChange s with cond := some uptoSmall }

/-- 'laws.FnExactFromBits', WHERE WHAT IT READS IS OF BULK AT MOST 1048576: true; the input reads as it did. -/
def fnExactFromBitsUptoRow : OpenClaim := { program := "ytpeflkakljaheaa", sum := "5cf5cff509272d7b7ee17c5d616c179065a5c2f262016e3dec277526351c3d5d", func := "loop.example/g01170/laws.FnExactFromBits", spec := "fnExactFromBits", inPlace := ["math.Float32frombits"], apart := false, narrowed := true }
def FnExactFromBitsUptoSaid : Prop := fnExactFromBitsUptoRow.holds Try.pinned (OpenSpec.upto fnExactFromBitsSpec)

/-- 'laws.FnExactFlushNumber', WHERE WHAT IT READS IS OF BULK AT MOST 1048576: true; the input reads as it did. -/
def fnExactFlushNumberUptoRow : OpenClaim := { program := "ytpeflkakljaheaa", sum := "5cf5cff509272d7b7ee17c5d616c179065a5c2f262016e3dec277526351c3d5d", func := "loop.example/g01170/laws.FnExactFlushNumber", spec := "fnExactFlushNumber", inPlace := ["math.Float32bits", "math.Float32frombits", "math.Float64bits", "math.Float64frombits"], apart := false, narrowed := true }
def FnExactFlushNumberUptoSaid : Prop := fnExactFlushNumberUptoRow.holds Try.pinned (OpenSpec.upto fnExactFlushNumberSpec)

/-- 'laws.FnExactNextUp', WHERE WHAT IT READS IS OF BULK AT MOST 1048576: true; the input reads as it did. -/
def fnExactNextUpUptoRow : OpenClaim := { program := "ytpeflkakljaheaa", sum := "5cf5cff509272d7b7ee17c5d616c179065a5c2f262016e3dec277526351c3d5d", func := "loop.example/g01170/laws.FnExactNextUp", spec := "fnExactNextUp", inPlace := ["math.Float32bits", "math.Float32frombits", "math.Float64frombits", "math.Float64bits"], apart := false, narrowed := true }
def FnExactNextUpUptoSaid : Prop := fnExactNextUpUptoRow.holds Try.pinned (OpenSpec.upto fnExactNextUpSpec)

/-- 'laws.FnExactNextDown', WHERE WHAT IT READS IS OF BULK AT MOST 1048576: true; the input reads as it did. -/
def fnExactNextDownUptoRow : OpenClaim := { program := "ytpeflkakljaheaa", sum := "5cf5cff509272d7b7ee17c5d616c179065a5c2f262016e3dec277526351c3d5d", func := "loop.example/g01170/laws.FnExactNextDown", spec := "fnExactNextDown", inPlace := ["math.Float32bits", "math.Float32frombits", "math.Float64frombits", "math.Float64bits"], apart := false, narrowed := true }
def FnExactNextDownUptoSaid : Prop := fnExactNextDownUptoRow.holds Try.pinned (OpenSpec.upto fnExactNextDownSpec)

/-- 'laws.FnExactTanhNumber', WHERE WHAT IT READS IS OF BULK AT MOST 1048576: true; the input reads as it did. -/
def fnExactTanhNumberUptoRow : OpenClaim := { program := "ytpeflkakljaheaa", sum := "5cf5cff509272d7b7ee17c5d616c179065a5c2f262016e3dec277526351c3d5d", func := "loop.example/g01170/laws.FnExactTanhNumber", spec := "fnExactTanhNumber", inPlace := ["math.Float64frombits"], apart := false, narrowed := true }
def FnExactTanhNumberUptoSaid : Prop := fnExactTanhNumberUptoRow.holds Try.pinned (OpenSpec.upto fnExactTanhNumberSpec)

/-- 'laws.FnExactRootNumber', WHERE WHAT IT READS IS OF BULK AT MOST 1048576: true; the input reads as it did. -/
def fnExactRootNumberUptoRow : OpenClaim := { program := "ytpeflkakljaheaa", sum := "5cf5cff509272d7b7ee17c5d616c179065a5c2f262016e3dec277526351c3d5d", func := "loop.example/g01170/laws.FnExactRootNumber", spec := "fnExactRootNumber", inPlace := ["math.sqrt"], apart := false, narrowed := true }
def FnExactRootNumberUptoSaid : Prop := fnExactRootNumberUptoRow.holds Try.pinned (OpenSpec.upto fnExactRootNumberSpec)

/-- 'laws.FnExactLogNumber', WHERE WHAT IT READS IS OF BULK AT MOST 1048576: true; the input reads as it did. -/
def fnExactLogNumberUptoRow : OpenClaim := { program := "ytpeflkakljaheaa", sum := "5cf5cff509272d7b7ee17c5d616c179065a5c2f262016e3dec277526351c3d5d", func := "loop.example/g01170/laws.FnExactLogNumber", spec := "fnExactLogNumber", inPlace := ["math.Float64frombits", "math.Float64bits"], apart := false, narrowed := true }
def FnExactLogNumberUptoSaid : Prop := fnExactLogNumberUptoRow.holds Try.pinned (OpenSpec.upto fnExactLogNumberSpec)

/-- 'laws.FnExactSineTurns', WHERE WHAT IT READS IS OF BULK AT MOST 1048576: true; the input reads as it did. -/
def fnExactSineTurnsUptoRow : OpenClaim := { program := "ytpeflkakljaheaa", sum := "5cf5cff509272d7b7ee17c5d616c179065a5c2f262016e3dec277526351c3d5d", func := "loop.example/g01170/laws.FnExactSineTurns", spec := "fnExactSineTurns", inPlace := ["math.Float64frombits", "math.Float64bits", "math.archTrunc"], apart := false, narrowed := true }
def FnExactSineTurnsUptoSaid : Prop := fnExactSineTurnsUptoRow.holds Try.pinned (OpenSpec.upto fnExactSineTurnsSpec)

/-- 'laws.FnExactGainOf', WHERE WHAT IT READS IS OF BULK AT MOST 1048576: true; the input reads as it did. -/
def fnExactGainOfUptoRow : OpenClaim := { program := "ytpeflkakljaheaa", sum := "5cf5cff509272d7b7ee17c5d616c179065a5c2f262016e3dec277526351c3d5d", func := "loop.example/g01170/laws.FnExactGainOf", spec := "fnExactGainOf", inPlace := ["math.Float64frombits"], apart := false, narrowed := true }
def FnExactGainOfUptoSaid : Prop := fnExactGainOfUptoRow.holds Try.pinned (OpenSpec.upto fnExactGainOfSpec)

/-- 'laws.FnExactStepOfPitch', WHERE WHAT IT READS IS OF BULK AT MOST 1048576: true; the input reads as it did. -/
def fnExactStepOfPitchUptoRow : OpenClaim := { program := "ytpeflkakljaheaa", sum := "5cf5cff509272d7b7ee17c5d616c179065a5c2f262016e3dec277526351c3d5d", func := "loop.example/g01170/laws.FnExactStepOfPitch", spec := "fnExactStepOfPitch", inPlace := ["math.Float64frombits"], apart := false, narrowed := true }
def FnExactStepOfPitchUptoSaid : Prop := fnExactStepOfPitchUptoRow.holds Try.pinned (OpenSpec.upto fnExactStepOfPitchSpec)

/-- 'laws.FnExactLevelOfFilter', WHERE WHAT IT READS IS OF BULK AT MOST 1048576: true; the input reads as it did. -/
def fnExactLevelOfFilterUptoRow : OpenClaim := { program := "ytpeflkakljaheaa", sum := "5cf5cff509272d7b7ee17c5d616c179065a5c2f262016e3dec277526351c3d5d", func := "loop.example/g01170/laws.FnExactLevelOfFilter", spec := "fnExactLevelOfFilter", apart := false, narrowed := true }
def FnExactLevelOfFilterUptoSaid : Prop := fnExactLevelOfFilterUptoRow.holds Try.pinned (OpenSpec.upto fnExactLevelOfFilterSpec)

/-- 'laws.FnExactBendSample', WHERE WHAT IT READS IS OF BULK AT MOST 1048576: true; the input reads as it did. -/
def fnExactBendSampleUptoRow : OpenClaim := { program := "ytpeflkakljaheaa", sum := "5cf5cff509272d7b7ee17c5d616c179065a5c2f262016e3dec277526351c3d5d", func := "loop.example/g01170/laws.FnExactBendSample", spec := "fnExactBendSample", apart := false, narrowed := true }
def FnExactBendSampleUptoSaid : Prop := fnExactBendSampleUptoRow.holds Try.pinned (OpenSpec.upto fnExactBendSampleSpec)

end Rows
end Go.Proofs.Ytpeflkakljaheaa
