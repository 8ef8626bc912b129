/-
  No cell of these rows narrows 'for every input' (looked for: loops, veiled, ifaces, maps, wideKeys, modest, calm, conditions, laid).
  DERIVED. THE GIVEN ROWS OF THIS SEAT. 5 by the template 'for every input the law returns true; each argument reads behind the call as it read before'; 0 by the template 'total and deterministic' (their statements: YtjodoohmlkdlfabTotals.lean).
  GIVEN WITH THE SEED: the statements are not yours to turn. If you find one false, say at which input.
  Laid BY PROGRAM, IN A SANDBOX (cutbox-rows.mjs): the forced cells as the released guide's own fill.sh prints them over the translation 185e960dfc8023e3… (all of the seat's roots in one cut). By AI agents, Wed Nov 11 2026. No macro, syntax, notation, axiom, sorry.
-/
import Derived.Test.YtjodoohmlkdlfabChecked
import GoSem.Claim
import GoSem.ClaimJoined
import GoSem.ClaimMapViews
import Derived.JoinedTies
import Derived.KernelRfl
namespace Go.Proofs.Ytjodoohmlkdlfab
/- THE CELL 'sum', in the pinned program and in every row, IS THE sha256 OF THE DUMP (.gsa) THAT YtjodoohmlkdlfabProg.lean LOADS. Nothing in Lean hashes anything: it is a label: what it is worth is what the hold of that sum in a sandbox is worth. -/
noncomputable def Try.pinned : Pinned := { name := "ytjodoohmlkdlfab", sum := "185e960dfc8023e3d84e0ff2bcd9fecb39a7d4f3df44c5da09a2b0283e8bb42f", checked := Try.checked }
namespace Rows
def none {H : Type} : Left H := { results := [], args := [] }

/-- 'laws.FnExactValidDelay': WHATEVER THE INPUT: true; the input reads as it did. -/
def fnExactValidDelaySpec : ChangeSpec := { name := "fnExactValidDelay", fn := fun _ => fun
  | [d] => { results := [.lit (.bool true)], args := [d] }
  | _ => none }
def fnExactValidDelayRow : OpenClaim := { program := "ytjodoohmlkdlfab", sum := "185e960dfc8023e3d84e0ff2bcd9fecb39a7d4f3df44c5da09a2b0283e8bb42f", func := "loop.example/g01170/laws.FnExactValidDelay", spec := "fnExactValidDelay", apart := false }
def FnExactValidDelaySaid : Prop := fnExactValidDelayRow.holds Try.pinned (OpenSpec.ofChange fnExactValidDelaySpec)

/-- ITS FALSE NEIGHBOUR: 'it returns false'. Refute it at one input. -/
def fnExactValidDelayWrong : ChangeSpec := { name := "fnExactValidDelay", fn := fun _ => fun
  | [d] => { results := [.lit (.bool false)], args := [d] }
  | _ => none }
def FnExactValidDelayWrongFalsely : Prop := fnExactValidDelayRow.holds Try.pinned (OpenSpec.ofChange fnExactValidDelayWrong)

/-- 'laws.FnExactValidEnvelope': WHATEVER THE INPUT: true; the input reads as it did. -/
def fnExactValidEnvelopeSpec : ChangeSpec := { name := "fnExactValidEnvelope", fn := fun _ => fun
  | [d] => { results := [.lit (.bool true)], args := [d] }
  | _ => none }
def fnExactValidEnvelopeRow : OpenClaim := { program := "ytjodoohmlkdlfab", sum := "185e960dfc8023e3d84e0ff2bcd9fecb39a7d4f3df44c5da09a2b0283e8bb42f", func := "loop.example/g01170/laws.FnExactValidEnvelope", spec := "fnExactValidEnvelope", apart := false }
def FnExactValidEnvelopeSaid : Prop := fnExactValidEnvelopeRow.holds Try.pinned (OpenSpec.ofChange fnExactValidEnvelopeSpec)

/-- ITS FALSE NEIGHBOUR: 'it returns false'. Refute it at one input. -/
def fnExactValidEnvelopeWrong : ChangeSpec := { name := "fnExactValidEnvelope", fn := fun _ => fun
  | [d] => { results := [.lit (.bool false)], args := [d] }
  | _ => none }
def FnExactValidEnvelopeWrongFalsely : Prop := fnExactValidEnvelopeRow.holds Try.pinned (OpenSpec.ofChange fnExactValidEnvelopeWrong)

/-- 'laws.FnExactValidOscillator': WHATEVER THE INPUT: true; the input reads as it did. -/
def fnExactValidOscillatorSpec : ChangeSpec := { name := "fnExactValidOscillator", fn := fun _ => fun
  | [d] => { results := [.lit (.bool true)], args := [d] }
  | _ => none }
def fnExactValidOscillatorRow : OpenClaim := { program := "ytjodoohmlkdlfab", sum := "185e960dfc8023e3d84e0ff2bcd9fecb39a7d4f3df44c5da09a2b0283e8bb42f", func := "loop.example/g01170/laws.FnExactValidOscillator", spec := "fnExactValidOscillator", apart := false }
def FnExactValidOscillatorSaid : Prop := fnExactValidOscillatorRow.holds Try.pinned (OpenSpec.ofChange fnExactValidOscillatorSpec)

/-- ITS FALSE NEIGHBOUR: 'it returns false'. Refute it at one input. -/
def fnExactValidOscillatorWrong : ChangeSpec := { name := "fnExactValidOscillator", fn := fun _ => fun
  | [d] => { results := [.lit (.bool false)], args := [d] }
  | _ => none }
def FnExactValidOscillatorWrongFalsely : Prop := fnExactValidOscillatorRow.holds Try.pinned (OpenSpec.ofChange fnExactValidOscillatorWrong)

/-- 'laws.FnExactIsName': WHATEVER THE INPUT: true; the input reads as it did. -/
def fnExactIsNameSpec : ChangeSpec := { name := "fnExactIsName", fn := fun _ => fun
  | [d] => { results := [.lit (.bool true)], args := [d] }
  | _ => none }
def fnExactIsNameRow : OpenClaim := { program := "ytjodoohmlkdlfab", sum := "185e960dfc8023e3d84e0ff2bcd9fecb39a7d4f3df44c5da09a2b0283e8bb42f", func := "loop.example/g01170/laws.FnExactIsName", spec := "fnExactIsName", apart := false }
def FnExactIsNameSaid : Prop := fnExactIsNameRow.holds Try.pinned (OpenSpec.ofChange fnExactIsNameSpec)

/-- ITS FALSE NEIGHBOUR: 'it returns false'. Refute it at one input. -/
def fnExactIsNameWrong : ChangeSpec := { name := "fnExactIsName", fn := fun _ => fun
  | [d] => { results := [.lit (.bool false)], args := [d] }
  | _ => none }
def FnExactIsNameWrongFalsely : Prop := fnExactIsNameRow.holds Try.pinned (OpenSpec.ofChange fnExactIsNameWrong)

/-- 'laws.FnExactGainFor': WHATEVER THE INPUT: true; the input reads as it did. -/
def fnExactGainForSpec : ChangeSpec := { name := "fnExactGainFor", fn := fun _ => fun
  | [d1, d2, d3] => { results := [.lit (.bool true)], args := [d1, d2, d3] }
  | _ => none }
def fnExactGainForRow : OpenClaim := { program := "ytjodoohmlkdlfab", sum := "185e960dfc8023e3d84e0ff2bcd9fecb39a7d4f3df44c5da09a2b0283e8bb42f", func := "loop.example/g01170/laws.FnExactGainFor", spec := "fnExactGainFor", apart := false }
def FnExactGainForSaid : Prop := fnExactGainForRow.holds Try.pinned (OpenSpec.ofChange fnExactGainForSpec)

/-- ITS FALSE NEIGHBOUR: 'it returns false'. Refute it at one input. -/
def fnExactGainForWrong : ChangeSpec := { name := "fnExactGainFor", fn := fun _ => fun
  | [d1, d2, d3] => { results := [.lit (.bool false)], args := [d1, d2, d3] }
  | _ => none }
def FnExactGainForWrongFalsely : Prop := fnExactGainForRow.holds Try.pinned (OpenSpec.ofChange fnExactGainForWrong)

/- THE SECOND FORM. 'bulk': how many values and letters a reading holds, each counted each time it is reached (what is shared counts as often as it is met; a slice's spare places count too). A statement '..UptoSaid' is the law's where the arguments, and the package variables that the reading takes, are together of bulk at most 1048576: NARROWER than '..Said'. Prove '..Said' where nothing that the law and all that it calls make is longer than what came in: it says more and counts as full. Else prove '..UptoSaid'. A law counts once. -/
mutual
def uptoBulk {H : Type} : DataW H → Nat
  | .lit (.string bytes) => bytes.length + 1
  | .lit _ => 1
  | .nil => 1
  | .ptr d => uptoBulk d + 1
  | .slice elems spare => uptoBulkAll elems + uptoBulkAll spare + 1
  | .agg parts => uptoBulkAll parts + 1
  | .iface _ d => uptoBulk d + 1
  | .map entries => uptoBulkEntries entries + 1
  | .held _ => 1
def uptoBulkAll {H : Type} : List (DataW H) → Nat
  | [] => 0
  | d :: r => uptoBulk d + uptoBulkAll r
def uptoBulkEntries {H : Type} : List (Lit × DataW H) → Nat
  | [] => 0
  | x :: r => uptoBulkEntry x + uptoBulkEntries r
def uptoBulkEntry {H : Type} : Lit × DataW H → Nat
  | (.string bytes, d) => bytes.length + uptoBulk d + 1
  | (_, d) => uptoBulk d + 1
 end
def uptoSmall : (H : Type) → List (DataW H) → Bool := fun _ ds => decide (uptoBulkAll ds ≤ 1048576)
def OpenSpec.upto (s : _root_.Go.ChangeSpec) : _root_.Go.OpenSpec := { _root_.Go.OpenSpec.ofChange s with cond := some uptoSmall }

/-- 'laws.FnExactValidDelay', WHERE WHAT IT READS IS OF BULK AT MOST 1048576: true; the input reads as it did. -/
def fnExactValidDelayUptoRow : OpenClaim := { program := "ytjodoohmlkdlfab", sum := "185e960dfc8023e3d84e0ff2bcd9fecb39a7d4f3df44c5da09a2b0283e8bb42f", func := "loop.example/g01170/laws.FnExactValidDelay", spec := "fnExactValidDelay", apart := false, narrowed := true }
def FnExactValidDelayUptoSaid : Prop := fnExactValidDelayUptoRow.holds Try.pinned (OpenSpec.upto fnExactValidDelaySpec)

/-- 'laws.FnExactValidEnvelope', WHERE WHAT IT READS IS OF BULK AT MOST 1048576: true; the input reads as it did. -/
def fnExactValidEnvelopeUptoRow : OpenClaim := { program := "ytjodoohmlkdlfab", sum := "185e960dfc8023e3d84e0ff2bcd9fecb39a7d4f3df44c5da09a2b0283e8bb42f", func := "loop.example/g01170/laws.FnExactValidEnvelope", spec := "fnExactValidEnvelope", apart := false, narrowed := true }
def FnExactValidEnvelopeUptoSaid : Prop := fnExactValidEnvelopeUptoRow.holds Try.pinned (OpenSpec.upto fnExactValidEnvelopeSpec)

/-- 'laws.FnExactValidOscillator', WHERE WHAT IT READS IS OF BULK AT MOST 1048576: true; the input reads as it did. -/
def fnExactValidOscillatorUptoRow : OpenClaim := { program := "ytjodoohmlkdlfab", sum := "185e960dfc8023e3d84e0ff2bcd9fecb39a7d4f3df44c5da09a2b0283e8bb42f", func := "loop.example/g01170/laws.FnExactValidOscillator", spec := "fnExactValidOscillator", apart := false, narrowed := true }
def FnExactValidOscillatorUptoSaid : Prop := fnExactValidOscillatorUptoRow.holds Try.pinned (OpenSpec.upto fnExactValidOscillatorSpec)

/-- 'laws.FnExactIsName', WHERE WHAT IT READS IS OF BULK AT MOST 1048576: true; the input reads as it did. -/
def fnExactIsNameUptoRow : OpenClaim := { program := "ytjodoohmlkdlfab", sum := "185e960dfc8023e3d84e0ff2bcd9fecb39a7d4f3df44c5da09a2b0283e8bb42f", func := "loop.example/g01170/laws.FnExactIsName", spec := "fnExactIsName", apart := false, narrowed := true }
def FnExactIsNameUptoSaid : Prop := fnExactIsNameUptoRow.holds Try.pinned (OpenSpec.upto fnExactIsNameSpec)

/-- 'laws.FnExactGainFor', WHERE WHAT IT READS IS OF BULK AT MOST 1048576: true; the input reads as it did. -/
def fnExactGainForUptoRow : OpenClaim := { program := "ytjodoohmlkdlfab", sum := "185e960dfc8023e3d84e0ff2bcd9fecb39a7d4f3df44c5da09a2b0283e8bb42f", func := "loop.example/g01170/laws.FnExactGainFor", spec := "fnExactGainFor", apart := false, narrowed := true }
def FnExactGainForUptoSaid : Prop := fnExactGainForUptoRow.holds Try.pinned (OpenSpec.upto fnExactGainForSpec)

end Rows
end Go.Proofs.Ytjodoohmlkdlfab
