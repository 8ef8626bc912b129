/-
  No cell of these rows narrows 'for every input' (looked for: loops, veiled, ifaces, maps, wideKeys, modest, calm, conditions, laid).
  DERIVED. THE GIVEN ROWS OF THIS SEAT. 10 by the template 'for every input the law returns true; each argument reads behind the call as it read before'; 0 by the template 'total and deterministic' (their statements: YtbaokmapgdnhlaaTotals.lean).
  GIVEN WITH THE SEED: the statements are not yours to turn. If you find one false, say at which input.
  Laid BY PROGRAM, IN A SANDBOX (cutbox-rows.mjs): the forced cells as the released guide's own fill.sh prints them over the translation 50142681c6a1dc2f… (all of the seat's roots in one cut). By AI agents, Wed Nov 11 2026. No macro, syntax, notation, axiom, sorry.
-/
import Derived.Test.YtbaokmapgdnhlaaChecked
import GoSem.Claim
import GoSem.ClaimJoined
import GoSem.ClaimMapViews
import Derived.JoinedTies
import Derived.KernelRfl
namespace Go.Proofs.Ytbaokmapgdnhlaa
/- THE CELL 'sum', in the pinned program and in every row, IS THE sha256 OF THE DUMP (.gsa) THAT YtbaokmapgdnhlaaProg.lean LOADS. Nothing in Lean hashes anything: it is a label: what it is worth is what the hold of that sum in a sandbox is worth. -/
noncomputable def Try.pinned : Pinned := { name := "ytbaokmapgdnhlaa", sum := "50142681c6a1dc2f09c181a037097ee41ef024ec42b5d990f3e8971fbb09d055", checked := Try.checked }
namespace Rows
def none {H : Type} : Left H := { results := [], args := [] }

/-- 'laws.FnExactRunPass': WHATEVER THE INPUT: true; the input reads as it did. -/
def fnExactRunPassSpec : ChangeSpec := { name := "fnExactRunPass", fn := fun _ => fun
  | [d1, d2, d3] => { results := [.lit (.bool true)], args := [d1, d2, d3] }
  | _ => none }
def fnExactRunPassRow : OpenClaim := { program := "ytbaokmapgdnhlaa", sum := "50142681c6a1dc2f09c181a037097ee41ef024ec42b5d990f3e8971fbb09d055", func := "loop.example/g01170/laws.FnExactRunPass", spec := "fnExactRunPass", apart := false }
def FnExactRunPassSaid : Prop := fnExactRunPassRow.holds Try.pinned (OpenSpec.ofChange fnExactRunPassSpec)

/-- ITS FALSE NEIGHBOUR: 'it returns false'. Refute it at one input. -/
def fnExactRunPassWrong : ChangeSpec := { name := "fnExactRunPass", fn := fun _ => fun
  | [d1, d2, d3] => { results := [.lit (.bool false)], args := [d1, d2, d3] }
  | _ => none }
def FnExactRunPassWrongFalsely : Prop := fnExactRunPassRow.holds Try.pinned (OpenSpec.ofChange fnExactRunPassWrong)

/-- 'laws.FnExactRunDelay': WHATEVER THE INPUT: true; the input reads as it did. -/
def fnExactRunDelaySpec : ChangeSpec := { name := "fnExactRunDelay", fn := fun _ => fun
  | [d1, d2, d3] => { results := [.lit (.bool true)], args := [d1, d2, d3] }
  | _ => none }
def fnExactRunDelayRow : OpenClaim := { program := "ytbaokmapgdnhlaa", sum := "50142681c6a1dc2f09c181a037097ee41ef024ec42b5d990f3e8971fbb09d055", func := "loop.example/g01170/laws.FnExactRunDelay", spec := "fnExactRunDelay", inPlace := ["math.Float32bits", "math.Float32frombits", "math.Float64bits", "math.Float64frombits"], apart := false }
def FnExactRunDelaySaid : Prop := fnExactRunDelayRow.holds Try.pinned (OpenSpec.ofChange fnExactRunDelaySpec)

/-- ITS FALSE NEIGHBOUR: 'it returns false'. Refute it at one input. -/
def fnExactRunDelayWrong : ChangeSpec := { name := "fnExactRunDelay", fn := fun _ => fun
  | [d1, d2, d3] => { results := [.lit (.bool false)], args := [d1, d2, d3] }
  | _ => none }
def FnExactRunDelayWrongFalsely : Prop := fnExactRunDelayRow.holds Try.pinned (OpenSpec.ofChange fnExactRunDelayWrong)

/-- 'laws.FnExactSilentFrom': WHATEVER THE INPUT: true; the input reads as it did. -/
def fnExactSilentFromSpec : ChangeSpec := { name := "fnExactSilentFrom", fn := fun _ => fun
  | [d1, d2] => { results := [.lit (.bool true)], args := [d1, d2] }
  | _ => none }
def fnExactSilentFromRow : OpenClaim := { program := "ytbaokmapgdnhlaa", sum := "50142681c6a1dc2f09c181a037097ee41ef024ec42b5d990f3e8971fbb09d055", func := "loop.example/g01170/laws.FnExactSilentFrom", spec := "fnExactSilentFrom", inPlace := ["math.Float32bits", "math.Float32frombits", "math.Float64bits", "math.Float64frombits"], apart := false }
def FnExactSilentFromSaid : Prop := fnExactSilentFromRow.holds Try.pinned (OpenSpec.ofChange fnExactSilentFromSpec)

/-- ITS FALSE NEIGHBOUR: 'it returns false'. Refute it at one input. -/
def fnExactSilentFromWrong : ChangeSpec := { name := "fnExactSilentFrom", fn := fun _ => fun
  | [d1, d2] => { results := [.lit (.bool false)], args := [d1, d2] }
  | _ => none }
def FnExactSilentFromWrongFalsely : Prop := fnExactSilentFromRow.holds Try.pinned (OpenSpec.ofChange fnExactSilentFromWrong)

/-- 'laws.FnExactRunTaps': WHATEVER THE INPUT: true; the input reads as it did. -/
def fnExactRunTapsSpec : ChangeSpec := { name := "fnExactRunTaps", fn := fun _ => fun
  | [d1, d2, d3] => { results := [.lit (.bool true)], args := [d1, d2, d3] }
  | _ => none }
def fnExactRunTapsRow : OpenClaim := { program := "ytbaokmapgdnhlaa", sum := "50142681c6a1dc2f09c181a037097ee41ef024ec42b5d990f3e8971fbb09d055", func := "loop.example/g01170/laws.FnExactRunTaps", spec := "fnExactRunTaps", apart := false }
def FnExactRunTapsSaid : Prop := fnExactRunTapsRow.holds Try.pinned (OpenSpec.ofChange fnExactRunTapsSpec)

/-- ITS FALSE NEIGHBOUR: 'it returns false'. Refute it at one input. -/
def fnExactRunTapsWrong : ChangeSpec := { name := "fnExactRunTaps", fn := fun _ => fun
  | [d1, d2, d3] => { results := [.lit (.bool false)], args := [d1, d2, d3] }
  | _ => none }
def FnExactRunTapsWrongFalsely : Prop := fnExactRunTapsRow.holds Try.pinned (OpenSpec.ofChange fnExactRunTapsWrong)

/-- 'laws.FnExactRunChorus': WHATEVER THE INPUT: true; the input reads as it did. -/
def fnExactRunChorusSpec : ChangeSpec := { name := "fnExactRunChorus", fn := fun _ => fun
  | [d1, d2, d3, d4, d5] => { results := [.lit (.bool true)], args := [d1, d2, d3, d4, d5] }
  | _ => none }
def fnExactRunChorusRow : OpenClaim := { program := "ytbaokmapgdnhlaa", sum := "50142681c6a1dc2f09c181a037097ee41ef024ec42b5d990f3e8971fbb09d055", func := "loop.example/g01170/laws.FnExactRunChorus", spec := "fnExactRunChorus", apart := false }
def FnExactRunChorusSaid : Prop := fnExactRunChorusRow.holds Try.pinned (OpenSpec.ofChange fnExactRunChorusSpec)

/-- ITS FALSE NEIGHBOUR: 'it returns false'. Refute it at one input. -/
def fnExactRunChorusWrong : ChangeSpec := { name := "fnExactRunChorus", fn := fun _ => fun
  | [d1, d2, d3, d4, d5] => { results := [.lit (.bool false)], args := [d1, d2, d3, d4, d5] }
  | _ => none }
def FnExactRunChorusWrongFalsely : Prop := fnExactRunChorusRow.holds Try.pinned (OpenSpec.ofChange fnExactRunChorusWrong)

/-- 'laws.FnExactFollowLevel': WHATEVER THE INPUT: true; the input reads as it did. -/
def fnExactFollowLevelSpec : ChangeSpec := { name := "fnExactFollowLevel", fn := fun _ => fun
  | [d1, d2] => { results := [.lit (.bool true)], args := [d1, d2] }
  | _ => none }
def fnExactFollowLevelRow : OpenClaim := { program := "ytbaokmapgdnhlaa", sum := "50142681c6a1dc2f09c181a037097ee41ef024ec42b5d990f3e8971fbb09d055", func := "loop.example/g01170/laws.FnExactFollowLevel", spec := "fnExactFollowLevel", inPlace := ["math.Float32bits", "math.Float32frombits", "math.Float64bits", "math.Float64frombits"], apart := false }
def FnExactFollowLevelSaid : Prop := fnExactFollowLevelRow.holds Try.pinned (OpenSpec.ofChange fnExactFollowLevelSpec)

/-- ITS FALSE NEIGHBOUR: 'it returns false'. Refute it at one input. -/
def fnExactFollowLevelWrong : ChangeSpec := { name := "fnExactFollowLevel", fn := fun _ => fun
  | [d1, d2] => { results := [.lit (.bool false)], args := [d1, d2] }
  | _ => none }
def FnExactFollowLevelWrongFalsely : Prop := fnExactFollowLevelRow.holds Try.pinned (OpenSpec.ofChange fnExactFollowLevelWrong)

/-- 'laws.FnExactRunSqueeze': WHATEVER THE INPUT: true; the input reads as it did. -/
def fnExactRunSqueezeSpec : ChangeSpec := { name := "fnExactRunSqueeze", fn := fun _ => fun
  | [d1, d2] => { results := [.lit (.bool true)], args := [d1, d2] }
  | _ => none }
def fnExactRunSqueezeRow : OpenClaim := { program := "ytbaokmapgdnhlaa", sum := "50142681c6a1dc2f09c181a037097ee41ef024ec42b5d990f3e8971fbb09d055", func := "loop.example/g01170/laws.FnExactRunSqueeze", spec := "fnExactRunSqueeze", inPlace := ["math.Float32bits", "math.Float32frombits", "math.Float64bits", "math.Float64frombits"], apart := false }
def FnExactRunSqueezeSaid : Prop := fnExactRunSqueezeRow.holds Try.pinned (OpenSpec.ofChange fnExactRunSqueezeSpec)

/-- ITS FALSE NEIGHBOUR: 'it returns false'. Refute it at one input. -/
def fnExactRunSqueezeWrong : ChangeSpec := { name := "fnExactRunSqueeze", fn := fun _ => fun
  | [d1, d2] => { results := [.lit (.bool false)], args := [d1, d2] }
  | _ => none }
def FnExactRunSqueezeWrongFalsely : Prop := fnExactRunSqueezeRow.holds Try.pinned (OpenSpec.ofChange fnExactRunSqueezeWrong)

/-- 'laws.FnExactDuckSamples': WHATEVER THE INPUT: true; the input reads as it did. -/
def fnExactDuckSamplesSpec : ChangeSpec := { name := "fnExactDuckSamples", fn := fun _ => fun
  | [d1, d2, d3] => { results := [.lit (.bool true)], args := [d1, d2, d3] }
  | _ => none }
def fnExactDuckSamplesRow : OpenClaim := { program := "ytbaokmapgdnhlaa", sum := "50142681c6a1dc2f09c181a037097ee41ef024ec42b5d990f3e8971fbb09d055", func := "loop.example/g01170/laws.FnExactDuckSamples", spec := "fnExactDuckSamples", inPlace := ["math.Float32bits", "math.Float32frombits", "math.Float64bits", "math.Float64frombits"], apart := false }
def FnExactDuckSamplesSaid : Prop := fnExactDuckSamplesRow.holds Try.pinned (OpenSpec.ofChange fnExactDuckSamplesSpec)

/-- ITS FALSE NEIGHBOUR: 'it returns false'. Refute it at one input. -/
def fnExactDuckSamplesWrong : ChangeSpec := { name := "fnExactDuckSamples", fn := fun _ => fun
  | [d1, d2, d3] => { results := [.lit (.bool false)], args := [d1, d2, d3] }
  | _ => none }
def FnExactDuckSamplesWrongFalsely : Prop := fnExactDuckSamplesRow.holds Try.pinned (OpenSpec.ofChange fnExactDuckSamplesWrong)

/-- 'laws.FnExactRunLimiter': WHATEVER THE INPUT: true; the input reads as it did. -/
def fnExactRunLimiterSpec : ChangeSpec := { name := "fnExactRunLimiter", fn := fun _ => fun
  | [d1, d2] => { results := [.lit (.bool true)], args := [d1, d2] }
  | _ => none }
def fnExactRunLimiterRow : OpenClaim := { program := "ytbaokmapgdnhlaa", sum := "50142681c6a1dc2f09c181a037097ee41ef024ec42b5d990f3e8971fbb09d055", func := "loop.example/g01170/laws.FnExactRunLimiter", spec := "fnExactRunLimiter", inPlace := ["math.Float32bits", "math.Float64bits", "math.Float64frombits"], apart := false }
def FnExactRunLimiterSaid : Prop := fnExactRunLimiterRow.holds Try.pinned (OpenSpec.ofChange fnExactRunLimiterSpec)

/-- ITS FALSE NEIGHBOUR: 'it returns false'. Refute it at one input. -/
def fnExactRunLimiterWrong : ChangeSpec := { name := "fnExactRunLimiter", fn := fun _ => fun
  | [d1, d2] => { results := [.lit (.bool false)], args := [d1, d2] }
  | _ => none }
def FnExactRunLimiterWrongFalsely : Prop := fnExactRunLimiterRow.holds Try.pinned (OpenSpec.ofChange fnExactRunLimiterWrong)

/-- 'laws.FnExactPlayRecording': WHATEVER THE INPUT: true; the input reads as it did. -/
def fnExactPlayRecordingSpec : ChangeSpec := { name := "fnExactPlayRecording", fn := fun _ => fun
  | [d1, d2, d3, d4] => { results := [.lit (.bool true)], args := [d1, d2, d3, d4] }
  | _ => none }
def fnExactPlayRecordingRow : OpenClaim := { program := "ytbaokmapgdnhlaa", sum := "50142681c6a1dc2f09c181a037097ee41ef024ec42b5d990f3e8971fbb09d055", func := "loop.example/g01170/laws.FnExactPlayRecording", spec := "fnExactPlayRecording", unfollowed := true, recurses := true, apart := false }
def FnExactPlayRecordingSaid : Prop := fnExactPlayRecordingRow.holds Try.pinned (OpenSpec.ofChange fnExactPlayRecordingSpec)

/-- ITS FALSE NEIGHBOUR: 'it returns false'. Refute it at one input. -/
def fnExactPlayRecordingWrong : ChangeSpec := { name := "fnExactPlayRecording", fn := fun _ => fun
  | [d1, d2, d3, d4] => { results := [.lit (.bool false)], args := [d1, d2, d3, d4] }
  | _ => none }
def FnExactPlayRecordingWrongFalsely : Prop := fnExactPlayRecordingRow.holds Try.pinned (OpenSpec.ofChange fnExactPlayRecordingWrong)

/- THE SECOND FORM. 'bulk': how many values and letters a reading holds, each counted each time it is reached (what is shared counts as often as it is met; a slice's spare places count too). A statement '..UptoSaid' is the law's where the arguments, and the package variables that the reading takes, are together of bulk at most 1048576: NARROWER than '..Said'. Prove '..Said' where nothing that the law and all that it calls make is longer than what came in: it says more and counts as full. Else prove '..UptoSaid'. A law counts once. -/
mutual
def uptoBulk {H : Type} : DataW H → Nat
  | .lit (.string bytes) => bytes.length + 1
  | .lit _ => 1
  | .nil => 1
  | .ptr d => uptoBulk d + 1
  | .slice elems spare => uptoBulkAll elems + uptoBulkAll spare + 1
  | .agg parts => uptoBulkAll parts + 1
  | .iface _ d => uptoBulk d + 1
  | .map entries => uptoBulkEntries entries + 1
  | .held _ => 1
def uptoBulkAll {H : Type} : List (DataW H) → Nat
  | [] => 0
  | d :: r => uptoBulk d + uptoBulkAll r
def uptoBulkEntries {H : Type} : List (Lit × DataW H) → Nat
  | [] => 0
  | x :: r => uptoBulkEntry x + uptoBulkEntries r
def uptoBulkEntry {H : Type} : Lit × DataW H → Nat
  | (.string bytes, d) => bytes.length + uptoBulk d + 1
  | (_, d) => uptoBulk d + 1
 end
def uptoSmall : (H : Type) → List (DataW H) → Bool := fun _ ds => decide (uptoBulkAll ds ≤ 1048576)
def OpenSpec.upto (s : _root_.Go.ChangeSpec) : _root_.Go.OpenSpec := { _root_.Go.OpenSpec.ofChange s with cond := some uptoSmall }

/-- 'laws.FnExactRunPass', WHERE WHAT IT READS IS OF BULK AT MOST 1048576: true; the input reads as it did. -/
def fnExactRunPassUptoRow : OpenClaim := { program := "ytbaokmapgdnhlaa", sum := "50142681c6a1dc2f09c181a037097ee41ef024ec42b5d990f3e8971fbb09d055", func := "loop.example/g01170/laws.FnExactRunPass", spec := "fnExactRunPass", apart := false, narrowed := true }
def FnExactRunPassUptoSaid : Prop := fnExactRunPassUptoRow.holds Try.pinned (OpenSpec.upto fnExactRunPassSpec)

/-- 'laws.FnExactRunDelay', WHERE WHAT IT READS IS OF BULK AT MOST 1048576: true; the input reads as it did. -/
def fnExactRunDelayUptoRow : OpenClaim := { program := "ytbaokmapgdnhlaa", sum := "50142681c6a1dc2f09c181a037097ee41ef024ec42b5d990f3e8971fbb09d055", func := "loop.example/g01170/laws.FnExactRunDelay", spec := "fnExactRunDelay", inPlace := ["math.Float32bits", "math.Float32frombits", "math.Float64bits", "math.Float64frombits"], apart := false, narrowed := true }
def FnExactRunDelayUptoSaid : Prop := fnExactRunDelayUptoRow.holds Try.pinned (OpenSpec.upto fnExactRunDelaySpec)

/-- 'laws.FnExactSilentFrom', WHERE WHAT IT READS IS OF BULK AT MOST 1048576: true; the input reads as it did. -/
def fnExactSilentFromUptoRow : OpenClaim := { program := "ytbaokmapgdnhlaa", sum := "50142681c6a1dc2f09c181a037097ee41ef024ec42b5d990f3e8971fbb09d055", func := "loop.example/g01170/laws.FnExactSilentFrom", spec := "fnExactSilentFrom", inPlace := ["math.Float32bits", "math.Float32frombits", "math.Float64bits", "math.Float64frombits"], apart := false, narrowed := true }
def FnExactSilentFromUptoSaid : Prop := fnExactSilentFromUptoRow.holds Try.pinned (OpenSpec.upto fnExactSilentFromSpec)

/-- 'laws.FnExactRunTaps', WHERE WHAT IT READS IS OF BULK AT MOST 1048576: true; the input reads as it did. -/
def fnExactRunTapsUptoRow : OpenClaim := { program := "ytbaokmapgdnhlaa", sum := "50142681c6a1dc2f09c181a037097ee41ef024ec42b5d990f3e8971fbb09d055", func := "loop.example/g01170/laws.FnExactRunTaps", spec := "fnExactRunTaps", apart := false, narrowed := true }
def FnExactRunTapsUptoSaid : Prop := fnExactRunTapsUptoRow.holds Try.pinned (OpenSpec.upto fnExactRunTapsSpec)

/-- 'laws.FnExactRunChorus', WHERE WHAT IT READS IS OF BULK AT MOST 1048576: true; the input reads as it did. -/
def fnExactRunChorusUptoRow : OpenClaim := { program := "ytbaokmapgdnhlaa", sum := "50142681c6a1dc2f09c181a037097ee41ef024ec42b5d990f3e8971fbb09d055", func := "loop.example/g01170/laws.FnExactRunChorus", spec := "fnExactRunChorus", apart := false, narrowed := true }
def FnExactRunChorusUptoSaid : Prop := fnExactRunChorusUptoRow.holds Try.pinned (OpenSpec.upto fnExactRunChorusSpec)

/-- 'laws.FnExactFollowLevel', WHERE WHAT IT READS IS OF BULK AT MOST 1048576: true; the input reads as it did. -/
def fnExactFollowLevelUptoRow : OpenClaim := { program := "ytbaokmapgdnhlaa", sum := "50142681c6a1dc2f09c181a037097ee41ef024ec42b5d990f3e8971fbb09d055", func := "loop.example/g01170/laws.FnExactFollowLevel", spec := "fnExactFollowLevel", inPlace := ["math.Float32bits", "math.Float32frombits", "math.Float64bits", "math.Float64frombits"], apart := false, narrowed := true }
def FnExactFollowLevelUptoSaid : Prop := fnExactFollowLevelUptoRow.holds Try.pinned (OpenSpec.upto fnExactFollowLevelSpec)

/-- 'laws.FnExactRunSqueeze', WHERE WHAT IT READS IS OF BULK AT MOST 1048576: true; the input reads as it did. -/
def fnExactRunSqueezeUptoRow : OpenClaim := { program := "ytbaokmapgdnhlaa", sum := "50142681c6a1dc2f09c181a037097ee41ef024ec42b5d990f3e8971fbb09d055", func := "loop.example/g01170/laws.FnExactRunSqueeze", spec := "fnExactRunSqueeze", inPlace := ["math.Float32bits", "math.Float32frombits", "math.Float64bits", "math.Float64frombits"], apart := false, narrowed := true }
def FnExactRunSqueezeUptoSaid : Prop := fnExactRunSqueezeUptoRow.holds Try.pinned (OpenSpec.upto fnExactRunSqueezeSpec)

/-- 'laws.FnExactDuckSamples', WHERE WHAT IT READS IS OF BULK AT MOST 1048576: true; the input reads as it did. -/
def fnExactDuckSamplesUptoRow : OpenClaim := { program := "ytbaokmapgdnhlaa", sum := "50142681c6a1dc2f09c181a037097ee41ef024ec42b5d990f3e8971fbb09d055", func := "loop.example/g01170/laws.FnExactDuckSamples", spec := "fnExactDuckSamples", inPlace := ["math.Float32bits", "math.Float32frombits", "math.Float64bits", "math.Float64frombits"], apart := false, narrowed := true }
def FnExactDuckSamplesUptoSaid : Prop := fnExactDuckSamplesUptoRow.holds Try.pinned (OpenSpec.upto fnExactDuckSamplesSpec)

/-- 'laws.FnExactRunLimiter', WHERE WHAT IT READS IS OF BULK AT MOST 1048576: true; the input reads as it did. -/
def fnExactRunLimiterUptoRow : OpenClaim := { program := "ytbaokmapgdnhlaa", sum := "50142681c6a1dc2f09c181a037097ee41ef024ec42b5d990f3e8971fbb09d055", func := "loop.example/g01170/laws.FnExactRunLimiter", spec := "fnExactRunLimiter", inPlace := ["math.Float32bits", "math.Float64bits", "math.Float64frombits"], apart := false, narrowed := true }
def FnExactRunLimiterUptoSaid : Prop := fnExactRunLimiterUptoRow.holds Try.pinned (OpenSpec.upto fnExactRunLimiterSpec)

/-- 'laws.FnExactPlayRecording', WHERE WHAT IT READS IS OF BULK AT MOST 1048576: true; the input reads as it did. -/
def fnExactPlayRecordingUptoRow : OpenClaim := { program := "ytbaokmapgdnhlaa", sum := "50142681c6a1dc2f09c181a037097ee41ef024ec42b5d990f3e8971fbb09d055", func := "loop.example/g01170/laws.FnExactPlayRecording", spec := "fnExactPlayRecording", unfollowed := true, recurses := true, apart := false, narrowed := true }
def FnExactPlayRecordingUptoSaid : Prop := fnExactPlayRecordingUptoRow.holds Try.pinned (OpenSpec.upto fnExactPlayRecordingSpec)

end Rows
end Go.Proofs.Ytbaokmapgdnhlaa
