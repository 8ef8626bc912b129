/-
  No cell of these rows narrows 'for every input' (looked for: loops, veiled, ifaces, maps, wideKeys, modest, calm, conditions, laid).
  DERIVED. THE GIVEN ROWS OF THIS SEAT. 12 by the template 'for every input the law returns true; each argument reads behind the call as it read before'; 0 by the template 'total and deterministic' (their statements: YtcjflleeffbhhaaTotals.lean).
  GIVEN WITH THE SEED: the statements are not yours to turn. If you find one false, say at which input.
  Laid BY PROGRAM, IN A SANDBOX (cutbox-rows.mjs): the forced cells as the released guide's own fill.sh prints them over the translation 48a5ebb9945c7578… (all of the seat's roots in one cut). By AI agents, Wed Nov 11 2026. No macro, syntax, notation, axiom, sorry.
-/
import Derived.Test.YtcjflleeffbhhaaChecked
import GoSem.Claim
import GoSem.ClaimJoined
import GoSem.ClaimMapViews
import Derived.JoinedTies
import Derived.KernelRfl
namespace Go.Proofs.Ytcjflleeffbhhaa
/- THE CELL 'sum', in the pinned program and in every row, IS THE sha256 OF THE DUMP (.gsa) THAT YtcjflleeffbhhaaProg.lean LOADS. Nothing in Lean hashes anything: it is a label: what it is worth is what the hold of that sum in a sandbox is worth. -/
noncomputable def Try.pinned : Pinned := { name := "ytcjflleeffbhhaa", sum := "48a5ebb9945c7578fe7b089e89deb285a481ac0e517d9cc3cb31106966fe16dc", checked := Try.checked }
namespace Rows
def none {H : Type} : Left H := { results := [], args := [] }

/-- 'laws.FnExactSumNumbers': WHATEVER THE INPUT: true; the input reads as it did. -/
def fnExactSumNumbersSpec : ChangeSpec := { name := "fnExactSumNumbers", fn := fun _ => fun
  | [d] => { results := [.lit (.bool true)], args := [d] }
  | _ => none }
def fnExactSumNumbersRow : OpenClaim := { program := "ytcjflleeffbhhaa", sum := "48a5ebb9945c7578fe7b089e89deb285a481ac0e517d9cc3cb31106966fe16dc", func := "loop.example/g01170/laws.FnExactSumNumbers", spec := "fnExactSumNumbers", apart := false }
def FnExactSumNumbersSaid : Prop := fnExactSumNumbersRow.holds Try.pinned (OpenSpec.ofChange fnExactSumNumbersSpec)

/-- ITS FALSE NEIGHBOUR: 'it returns false'. Refute it at one input. -/
def fnExactSumNumbersWrong : ChangeSpec := { name := "fnExactSumNumbers", fn := fun _ => fun
  | [d] => { results := [.lit (.bool false)], args := [d] }
  | _ => none }
def FnExactSumNumbersWrongFalsely : Prop := fnExactSumNumbersRow.holds Try.pinned (OpenSpec.ofChange fnExactSumNumbersWrong)

/-- 'laws.FnExactSumPairs': WHATEVER THE INPUT: true; the input reads as it did. -/
def fnExactSumPairsSpec : ChangeSpec := { name := "fnExactSumPairs", fn := fun _ => fun
  | [d] => { results := [.lit (.bool true)], args := [d] }
  | _ => none }
def fnExactSumPairsRow : OpenClaim := { program := "ytcjflleeffbhhaa", sum := "48a5ebb9945c7578fe7b089e89deb285a481ac0e517d9cc3cb31106966fe16dc", func := "loop.example/g01170/laws.FnExactSumPairs", spec := "fnExactSumPairs", recurses := true, apart := false }
def FnExactSumPairsSaid : Prop := fnExactSumPairsRow.holds Try.pinned (OpenSpec.ofChange fnExactSumPairsSpec)

/-- ITS FALSE NEIGHBOUR: 'it returns false'. Refute it at one input. -/
def fnExactSumPairsWrong : ChangeSpec := { name := "fnExactSumPairs", fn := fun _ => fun
  | [d] => { results := [.lit (.bool false)], args := [d] }
  | _ => none }
def FnExactSumPairsWrongFalsely : Prop := fnExactSumPairsRow.holds Try.pinned (OpenSpec.ofChange fnExactSumPairsWrong)

/-- 'laws.FnExactDotNumbers': WHATEVER THE INPUT: true; the input reads as it did. -/
def fnExactDotNumbersSpec : ChangeSpec := { name := "fnExactDotNumbers", fn := fun _ => fun
  | [d1, d2] => { results := [.lit (.bool true)], args := [d1, d2] }
  | _ => none }
def fnExactDotNumbersRow : OpenClaim := { program := "ytcjflleeffbhhaa", sum := "48a5ebb9945c7578fe7b089e89deb285a481ac0e517d9cc3cb31106966fe16dc", func := "loop.example/g01170/laws.FnExactDotNumbers", spec := "fnExactDotNumbers", apart := false }
def FnExactDotNumbersSaid : Prop := fnExactDotNumbersRow.holds Try.pinned (OpenSpec.ofChange fnExactDotNumbersSpec)

/-- ITS FALSE NEIGHBOUR: 'it returns false'. Refute it at one input. -/
def fnExactDotNumbersWrong : ChangeSpec := { name := "fnExactDotNumbers", fn := fun _ => fun
  | [d1, d2] => { results := [.lit (.bool false)], args := [d1, d2] }
  | _ => none }
def FnExactDotNumbersWrongFalsely : Prop := fnExactDotNumbersRow.holds Try.pinned (OpenSpec.ofChange fnExactDotNumbersWrong)

/-- 'laws.FnExactScaleSamples': WHATEVER THE INPUT: true; the input reads as it did. -/
def fnExactScaleSamplesSpec : ChangeSpec := { name := "fnExactScaleSamples", fn := fun _ => fun
  | [d1, d2] => { results := [.lit (.bool true)], args := [d1, d2] }
  | _ => none }
def fnExactScaleSamplesRow : OpenClaim := { program := "ytcjflleeffbhhaa", sum := "48a5ebb9945c7578fe7b089e89deb285a481ac0e517d9cc3cb31106966fe16dc", func := "loop.example/g01170/laws.FnExactScaleSamples", spec := "fnExactScaleSamples", apart := false }
def FnExactScaleSamplesSaid : Prop := fnExactScaleSamplesRow.holds Try.pinned (OpenSpec.ofChange fnExactScaleSamplesSpec)

/-- ITS FALSE NEIGHBOUR: 'it returns false'. Refute it at one input. -/
def fnExactScaleSamplesWrong : ChangeSpec := { name := "fnExactScaleSamples", fn := fun _ => fun
  | [d1, d2] => { results := [.lit (.bool false)], args := [d1, d2] }
  | _ => none }
def FnExactScaleSamplesWrongFalsely : Prop := fnExactScaleSamplesRow.holds Try.pinned (OpenSpec.ofChange fnExactScaleSamplesWrong)

/-- 'laws.FnExactMixSamples': WHATEVER THE INPUT: true; the input reads as it did. -/
def fnExactMixSamplesSpec : ChangeSpec := { name := "fnExactMixSamples", fn := fun _ => fun
  | [d1, d2] => { results := [.lit (.bool true)], args := [d1, d2] }
  | _ => none }
def fnExactMixSamplesRow : OpenClaim := { program := "ytcjflleeffbhhaa", sum := "48a5ebb9945c7578fe7b089e89deb285a481ac0e517d9cc3cb31106966fe16dc", func := "loop.example/g01170/laws.FnExactMixSamples", spec := "fnExactMixSamples", apart := false }
def FnExactMixSamplesSaid : Prop := fnExactMixSamplesRow.holds Try.pinned (OpenSpec.ofChange fnExactMixSamplesSpec)

/-- ITS FALSE NEIGHBOUR: 'it returns false'. Refute it at one input. -/
def fnExactMixSamplesWrong : ChangeSpec := { name := "fnExactMixSamples", fn := fun _ => fun
  | [d1, d2] => { results := [.lit (.bool false)], args := [d1, d2] }
  | _ => none }
def FnExactMixSamplesWrongFalsely : Prop := fnExactMixSamplesRow.holds Try.pinned (OpenSpec.ofChange fnExactMixSamplesWrong)

/-- 'laws.FnExactPeakOf': WHATEVER THE INPUT: true; the input reads as it did. -/
def fnExactPeakOfSpec : ChangeSpec := { name := "fnExactPeakOf", fn := fun _ => fun
  | [d] => { results := [.lit (.bool true)], args := [d] }
  | _ => none }
def fnExactPeakOfRow : OpenClaim := { program := "ytcjflleeffbhhaa", sum := "48a5ebb9945c7578fe7b089e89deb285a481ac0e517d9cc3cb31106966fe16dc", func := "loop.example/g01170/laws.FnExactPeakOf", spec := "fnExactPeakOf", inPlace := ["math.Float32bits", "math.Float32frombits", "math.Float64bits", "math.Float64frombits"], apart := false }
def FnExactPeakOfSaid : Prop := fnExactPeakOfRow.holds Try.pinned (OpenSpec.ofChange fnExactPeakOfSpec)

/-- ITS FALSE NEIGHBOUR: 'it returns false'. Refute it at one input. -/
def fnExactPeakOfWrong : ChangeSpec := { name := "fnExactPeakOf", fn := fun _ => fun
  | [d] => { results := [.lit (.bool false)], args := [d] }
  | _ => none }
def FnExactPeakOfWrongFalsely : Prop := fnExactPeakOfRow.holds Try.pinned (OpenSpec.ofChange fnExactPeakOfWrong)

/-- 'laws.FnExactClipSamples': WHATEVER THE INPUT: true; the input reads as it did. -/
def fnExactClipSamplesSpec : ChangeSpec := { name := "fnExactClipSamples", fn := fun _ => fun
  | [d1, d2] => { results := [.lit (.bool true)], args := [d1, d2] }
  | _ => none }
def fnExactClipSamplesRow : OpenClaim := { program := "ytcjflleeffbhhaa", sum := "48a5ebb9945c7578fe7b089e89deb285a481ac0e517d9cc3cb31106966fe16dc", func := "loop.example/g01170/laws.FnExactClipSamples", spec := "fnExactClipSamples", inPlace := ["math.Float32bits", "math.Float64bits", "math.Float64frombits"], apart := false }
def FnExactClipSamplesSaid : Prop := fnExactClipSamplesRow.holds Try.pinned (OpenSpec.ofChange fnExactClipSamplesSpec)

/-- ITS FALSE NEIGHBOUR: 'it returns false'. Refute it at one input. -/
def fnExactClipSamplesWrong : ChangeSpec := { name := "fnExactClipSamples", fn := fun _ => fun
  | [d1, d2] => { results := [.lit (.bool false)], args := [d1, d2] }
  | _ => none }
def FnExactClipSamplesWrongFalsely : Prop := fnExactClipSamplesRow.holds Try.pinned (OpenSpec.ofChange fnExactClipSamplesWrong)

/-- 'laws.FnExactFadeSamples': WHATEVER THE INPUT: true; the input reads as it did. -/
def fnExactFadeSamplesSpec : ChangeSpec := { name := "fnExactFadeSamples", fn := fun _ => fun
  | [d1, d2, d3] => { results := [.lit (.bool true)], args := [d1, d2, d3] }
  | _ => none }
def fnExactFadeSamplesRow : OpenClaim := { program := "ytcjflleeffbhhaa", sum := "48a5ebb9945c7578fe7b089e89deb285a481ac0e517d9cc3cb31106966fe16dc", func := "loop.example/g01170/laws.FnExactFadeSamples", spec := "fnExactFadeSamples", apart := false }
def FnExactFadeSamplesSaid : Prop := fnExactFadeSamplesRow.holds Try.pinned (OpenSpec.ofChange fnExactFadeSamplesSpec)

/-- ITS FALSE NEIGHBOUR: 'it returns false'. Refute it at one input. -/
def fnExactFadeSamplesWrong : ChangeSpec := { name := "fnExactFadeSamples", fn := fun _ => fun
  | [d1, d2, d3] => { results := [.lit (.bool false)], args := [d1, d2, d3] }
  | _ => none }
def FnExactFadeSamplesWrongFalsely : Prop := fnExactFadeSamplesRow.holds Try.pinned (OpenSpec.ofChange fnExactFadeSamplesWrong)

/-- 'laws.FnExactRunGate': WHATEVER THE INPUT: true; the input reads as it did. -/
def fnExactRunGateSpec : ChangeSpec := { name := "fnExactRunGate", fn := fun _ => fun
  | [d1, d2, d3, d4] => { results := [.lit (.bool true)], args := [d1, d2, d3, d4] }
  | _ => none }
def fnExactRunGateRow : OpenClaim := { program := "ytcjflleeffbhhaa", sum := "48a5ebb9945c7578fe7b089e89deb285a481ac0e517d9cc3cb31106966fe16dc", func := "loop.example/g01170/laws.FnExactRunGate", spec := "fnExactRunGate", inPlace := ["math.Float32bits", "math.Float64bits", "math.Float64frombits"], apart := false }
def FnExactRunGateSaid : Prop := fnExactRunGateRow.holds Try.pinned (OpenSpec.ofChange fnExactRunGateSpec)

/-- ITS FALSE NEIGHBOUR: 'it returns false'. Refute it at one input. -/
def fnExactRunGateWrong : ChangeSpec := { name := "fnExactRunGate", fn := fun _ => fun
  | [d1, d2, d3, d4] => { results := [.lit (.bool false)], args := [d1, d2, d3, d4] }
  | _ => none }
def FnExactRunGateWrongFalsely : Prop := fnExactRunGateRow.holds Try.pinned (OpenSpec.ofChange fnExactRunGateWrong)

/-- 'laws.FnExactRootMean': WHATEVER THE INPUT: true; the input reads as it did. -/
def fnExactRootMeanSpec : ChangeSpec := { name := "fnExactRootMean", fn := fun _ => fun
  | [d] => { results := [.lit (.bool true)], args := [d] }
  | _ => none }
def fnExactRootMeanRow : OpenClaim := { program := "ytcjflleeffbhhaa", sum := "48a5ebb9945c7578fe7b089e89deb285a481ac0e517d9cc3cb31106966fe16dc", func := "loop.example/g01170/laws.FnExactRootMean", spec := "fnExactRootMean", inPlace := ["math.sqrt"], apart := false }
def FnExactRootMeanSaid : Prop := fnExactRootMeanRow.holds Try.pinned (OpenSpec.ofChange fnExactRootMeanSpec)

/-- ITS FALSE NEIGHBOUR: 'it returns false'. Refute it at one input. -/
def fnExactRootMeanWrong : ChangeSpec := { name := "fnExactRootMean", fn := fun _ => fun
  | [d] => { results := [.lit (.bool false)], args := [d] }
  | _ => none }
def FnExactRootMeanWrongFalsely : Prop := fnExactRootMeanRow.holds Try.pinned (OpenSpec.ofChange fnExactRootMeanWrong)

/-- 'laws.FnExactEmptyLine': WHATEVER THE INPUT: true; the input reads as it did. -/
def fnExactEmptyLineSpec : ChangeSpec := { name := "fnExactEmptyLine", fn := fun _ => fun
  | [d] => { results := [.lit (.bool true)], args := [d] }
  | _ => none }
def fnExactEmptyLineRow : OpenClaim := { program := "ytcjflleeffbhhaa", sum := "48a5ebb9945c7578fe7b089e89deb285a481ac0e517d9cc3cb31106966fe16dc", func := "loop.example/g01170/laws.FnExactEmptyLine", spec := "fnExactEmptyLine", apart := false }
def FnExactEmptyLineSaid : Prop := fnExactEmptyLineRow.holds Try.pinned (OpenSpec.ofChange fnExactEmptyLineSpec)

/-- ITS FALSE NEIGHBOUR: 'it returns false'. Refute it at one input. -/
def fnExactEmptyLineWrong : ChangeSpec := { name := "fnExactEmptyLine", fn := fun _ => fun
  | [d] => { results := [.lit (.bool false)], args := [d] }
  | _ => none }
def FnExactEmptyLineWrongFalsely : Prop := fnExactEmptyLineRow.holds Try.pinned (OpenSpec.ofChange fnExactEmptyLineWrong)

/-- 'laws.FnExactNewLimiter': WHATEVER THE INPUT: true; the input reads as it did. -/
def fnExactNewLimiterSpec : ChangeSpec := { name := "fnExactNewLimiter", fn := fun _ => fun
  | [d1, d2, d3] => { results := [.lit (.bool true)], args := [d1, d2, d3] }
  | _ => none }
def fnExactNewLimiterRow : OpenClaim := { program := "ytcjflleeffbhhaa", sum := "48a5ebb9945c7578fe7b089e89deb285a481ac0e517d9cc3cb31106966fe16dc", func := "loop.example/g01170/laws.FnExactNewLimiter", spec := "fnExactNewLimiter", apart := false }
def FnExactNewLimiterSaid : Prop := fnExactNewLimiterRow.holds Try.pinned (OpenSpec.ofChange fnExactNewLimiterSpec)

/-- ITS FALSE NEIGHBOUR: 'it returns false'. Refute it at one input. -/
def fnExactNewLimiterWrong : ChangeSpec := { name := "fnExactNewLimiter", fn := fun _ => fun
  | [d1, d2, d3] => { results := [.lit (.bool false)], args := [d1, d2, d3] }
  | _ => none }
def FnExactNewLimiterWrongFalsely : Prop := fnExactNewLimiterRow.holds Try.pinned (OpenSpec.ofChange fnExactNewLimiterWrong)

/- THE SECOND FORM. 'bulk': how many values and letters a reading holds, each counted each time it is reached (what is shared counts as often as it is met; a slice's spare places count too). A statement '..UptoSaid' is the law's where the arguments, and the package variables that the reading takes, are together of bulk at most 1048576: NARROWER than '..Said'. Prove '..Said' where nothing that the law and all that it calls make is longer than what came in: it says more and counts as full. Else prove '..UptoSaid'. A law counts once. -/
mutual
def uptoBulk {H : Type} : DataW H → Nat
  | .lit (.string bytes) => bytes.length + 1
  | .lit _ => 1
  | .nil => 1
  | .ptr d => uptoBulk d + 1
  | .slice elems spare => uptoBulkAll elems + uptoBulkAll spare + 1
  | .agg parts => uptoBulkAll parts + 1
  | .iface _ d => uptoBulk d + 1
  | .map entries => uptoBulkEntries entries + 1
  | .held _ => 1
def uptoBulkAll {H : Type} : List (DataW H) → Nat
  | [] => 0
  | d :: r => uptoBulk d + uptoBulkAll r
def uptoBulkEntries {H : Type} : List (Lit × DataW H) → Nat
  | [] => 0
  | x :: r => uptoBulkEntry x + uptoBulkEntries r
def uptoBulkEntry {H : Type} : Lit × DataW H → Nat
  | (.string bytes, d) => bytes.length + uptoBulk d + 1
  | (_, d) => uptoBulk d + 1
 end
def uptoSmall : (H : Type) → List (DataW H) → Bool := fun _ ds => decide (uptoBulkAll ds ≤ 1048576)
def OpenSpec.upto (s : _root_.Go.ChangeSpec) : _root_.Go.OpenSpec := { _root_.Go.OpenSpec.ofChange s with cond := some uptoSmall }

/-- 'laws.FnExactSumNumbers', WHERE WHAT IT READS IS OF BULK AT MOST 1048576: true; the input reads as it did. -/
def fnExactSumNumbersUptoRow : OpenClaim := { program := "ytcjflleeffbhhaa", sum := "48a5ebb9945c7578fe7b089e89deb285a481ac0e517d9cc3cb31106966fe16dc", func := "loop.example/g01170/laws.FnExactSumNumbers", spec := "fnExactSumNumbers", apart := false, narrowed := true }
def FnExactSumNumbersUptoSaid : Prop := fnExactSumNumbersUptoRow.holds Try.pinned (OpenSpec.upto fnExactSumNumbersSpec)

/-- 'laws.FnExactSumPairs', WHERE WHAT IT READS IS OF BULK AT MOST 1048576: true; the input reads as it did. -/
def fnExactSumPairsUptoRow : OpenClaim := { program := "ytcjflleeffbhhaa", sum := "48a5ebb9945c7578fe7b089e89deb285a481ac0e517d9cc3cb31106966fe16dc", func := "loop.example/g01170/laws.FnExactSumPairs", spec := "fnExactSumPairs", recurses := true, apart := false, narrowed := true }
def FnExactSumPairsUptoSaid : Prop := fnExactSumPairsUptoRow.holds Try.pinned (OpenSpec.upto fnExactSumPairsSpec)

/-- 'laws.FnExactDotNumbers', WHERE WHAT IT READS IS OF BULK AT MOST 1048576: true; the input reads as it did. -/
def fnExactDotNumbersUptoRow : OpenClaim := { program := "ytcjflleeffbhhaa", sum := "48a5ebb9945c7578fe7b089e89deb285a481ac0e517d9cc3cb31106966fe16dc", func := "loop.example/g01170/laws.FnExactDotNumbers", spec := "fnExactDotNumbers", apart := false, narrowed := true }
def FnExactDotNumbersUptoSaid : Prop := fnExactDotNumbersUptoRow.holds Try.pinned (OpenSpec.upto fnExactDotNumbersSpec)

/-- 'laws.FnExactScaleSamples', WHERE WHAT IT READS IS OF BULK AT MOST 1048576: true; the input reads as it did. -/
def fnExactScaleSamplesUptoRow : OpenClaim := { program := "ytcjflleeffbhhaa", sum := "48a5ebb9945c7578fe7b089e89deb285a481ac0e517d9cc3cb31106966fe16dc", func := "loop.example/g01170/laws.FnExactScaleSamples", spec := "fnExactScaleSamples", apart := false, narrowed := true }
def FnExactScaleSamplesUptoSaid : Prop := fnExactScaleSamplesUptoRow.holds Try.pinned (OpenSpec.upto fnExactScaleSamplesSpec)

/-- 'laws.FnExactMixSamples', WHERE WHAT IT READS IS OF BULK AT MOST 1048576: true; the input reads as it did. -/
def fnExactMixSamplesUptoRow : OpenClaim := { program := "ytcjflleeffbhhaa", sum := "48a5ebb9945c7578fe7b089e89deb285a481ac0e517d9cc3cb31106966fe16dc", func := "loop.example/g01170/laws.FnExactMixSamples", spec := "fnExactMixSamples", apart := false, narrowed := true }
def FnExactMixSamplesUptoSaid : Prop := fnExactMixSamplesUptoRow.holds Try.pinned (OpenSpec.upto fnExactMixSamplesSpec)

/-- 'laws.FnExactPeakOf', WHERE WHAT IT READS IS OF BULK AT MOST 1048576: true; the input reads as it did. -/
def fnExactPeakOfUptoRow : OpenClaim := { program := "ytcjflleeffbhhaa", sum := "48a5ebb9945c7578fe7b089e89deb285a481ac0e517d9cc3cb31106966fe16dc", func := "loop.example/g01170/laws.FnExactPeakOf", spec := "fnExactPeakOf", inPlace := ["math.Float32bits", "math.Float32frombits", "math.Float64bits", "math.Float64frombits"], apart := false, narrowed := true }
def FnExactPeakOfUptoSaid : Prop := fnExactPeakOfUptoRow.holds Try.pinned (OpenSpec.upto fnExactPeakOfSpec)

/-- 'laws.FnExactClipSamples', WHERE WHAT IT READS IS OF BULK AT MOST 1048576: true; the input reads as it did. -/
def fnExactClipSamplesUptoRow : OpenClaim := { program := "ytcjflleeffbhhaa", sum := "48a5ebb9945c7578fe7b089e89deb285a481ac0e517d9cc3cb31106966fe16dc", func := "loop.example/g01170/laws.FnExactClipSamples", spec := "fnExactClipSamples", inPlace := ["math.Float32bits", "math.Float64bits", "math.Float64frombits"], apart := false, narrowed := true }
def FnExactClipSamplesUptoSaid : Prop := fnExactClipSamplesUptoRow.holds Try.pinned (OpenSpec.upto fnExactClipSamplesSpec)

/-- 'laws.FnExactFadeSamples', WHERE WHAT IT READS IS OF BULK AT MOST 1048576: true; the input reads as it did. -/
def fnExactFadeSamplesUptoRow : OpenClaim := { program := "ytcjflleeffbhhaa", sum := "48a5ebb9945c7578fe7b089e89deb285a481ac0e517d9cc3cb31106966fe16dc", func := "loop.example/g01170/laws.FnExactFadeSamples", spec := "fnExactFadeSamples", apart := false, narrowed := true }
def FnExactFadeSamplesUptoSaid : Prop := fnExactFadeSamplesUptoRow.holds Try.pinned (OpenSpec.upto fnExactFadeSamplesSpec)

/-- 'laws.FnExactRunGate', WHERE WHAT IT READS IS OF BULK AT MOST 1048576: true; the input reads as it did. -/
def fnExactRunGateUptoRow : OpenClaim := { program := "ytcjflleeffbhhaa", sum := "48a5ebb9945c7578fe7b089e89deb285a481ac0e517d9cc3cb31106966fe16dc", func := "loop.example/g01170/laws.FnExactRunGate", spec := "fnExactRunGate", inPlace := ["math.Float32bits", "math.Float64bits", "math.Float64frombits"], apart := false, narrowed := true }
def FnExactRunGateUptoSaid : Prop := fnExactRunGateUptoRow.holds Try.pinned (OpenSpec.upto fnExactRunGateSpec)

/-- 'laws.FnExactRootMean', WHERE WHAT IT READS IS OF BULK AT MOST 1048576: true; the input reads as it did. -/
def fnExactRootMeanUptoRow : OpenClaim := { program := "ytcjflleeffbhhaa", sum := "48a5ebb9945c7578fe7b089e89deb285a481ac0e517d9cc3cb31106966fe16dc", func := "loop.example/g01170/laws.FnExactRootMean", spec := "fnExactRootMean", inPlace := ["math.sqrt"], apart := false, narrowed := true }
def FnExactRootMeanUptoSaid : Prop := fnExactRootMeanUptoRow.holds Try.pinned (OpenSpec.upto fnExactRootMeanSpec)

/-- 'laws.FnExactEmptyLine', WHERE WHAT IT READS IS OF BULK AT MOST 1048576: true; the input reads as it did. -/
def fnExactEmptyLineUptoRow : OpenClaim := { program := "ytcjflleeffbhhaa", sum := "48a5ebb9945c7578fe7b089e89deb285a481ac0e517d9cc3cb31106966fe16dc", func := "loop.example/g01170/laws.FnExactEmptyLine", spec := "fnExactEmptyLine", apart := false, narrowed := true }
def FnExactEmptyLineUptoSaid : Prop := fnExactEmptyLineUptoRow.holds Try.pinned (OpenSpec.upto fnExactEmptyLineSpec)

/-- 'laws.FnExactNewLimiter', WHERE WHAT IT READS IS OF BULK AT MOST 1048576: true; the input reads as it did. -/
def fnExactNewLimiterUptoRow : OpenClaim := { program := "ytcjflleeffbhhaa", sum := "48a5ebb9945c7578fe7b089e89deb285a481ac0e517d9cc3cb31106966fe16dc", func := "loop.example/g01170/laws.FnExactNewLimiter", spec := "fnExactNewLimiter", apart := false, narrowed := true }
def FnExactNewLimiterUptoSaid : Prop := fnExactNewLimiterUptoRow.holds Try.pinned (OpenSpec.upto fnExactNewLimiterSpec)

end Rows
end Go.Proofs.Ytcjflleeffbhhaa
