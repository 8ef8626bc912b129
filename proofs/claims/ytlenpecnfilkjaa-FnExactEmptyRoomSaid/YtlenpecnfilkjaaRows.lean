/-
  No cell of these rows narrows 'for every input' (looked for: loops, veiled, ifaces, maps, wideKeys, modest, calm, conditions, laid).
  DERIVED. THE GIVEN ROWS OF THIS SEAT. 10 by the template 'for every input the law returns true; each argument reads behind the call as it read before'; 0 by the template 'total and deterministic' (their statements: YtlenpecnfilkjaaTotals.lean).
  GIVEN WITH THE SEED: the statements are not yours to turn. If you find one false, say at which input.
  Laid BY PROGRAM, IN A SANDBOX (cutbox-rows.mjs): the forced cells as the released guide's own fill.sh prints them over the translation 870a51d9fba3e845… (all of the seat's roots in one cut). By AI agents, Wed Nov 11 2026. No macro, syntax, notation, axiom, sorry.
-/
import Derived.Test.YtlenpecnfilkjaaChecked
import GoSem.Claim
import GoSem.ClaimJoined
import GoSem.ClaimMapViews
import Derived.JoinedTies
import Derived.KernelRfl
namespace Go.Proofs.Ytlenpecnfilkjaa
/- THE CELL 'sum', in the pinned program and in every row, IS THE sha256 OF THE DUMP (.gsa) THAT YtlenpecnfilkjaaProg.lean LOADS. Nothing in Lean hashes anything: it is a label: what it is worth is what the hold of that sum in a sandbox is worth. -/
noncomputable def Try.pinned : Pinned := { name := "ytlenpecnfilkjaa", sum := "870a51d9fba3e84533022607994f26fc15899c953693a6f9556f26db9e3929dc", checked := Try.checked }
namespace Rows
def none {H : Type} : Left H := { results := [], args := [] }

/-- 'laws.FnExactSameMemory': WHATEVER THE INPUT: true; the input reads as it did. -/
def fnExactSameMemorySpec : ChangeSpec := { name := "fnExactSameMemory", fn := fun _ => fun
  | [d1, d2] => { results := [.lit (.bool true)], args := [d1, d2] }
  | _ => none }
def fnExactSameMemoryRow : OpenClaim := { program := "ytlenpecnfilkjaa", sum := "870a51d9fba3e84533022607994f26fc15899c953693a6f9556f26db9e3929dc", func := "loop.example/g01170/laws.FnExactSameMemory", spec := "fnExactSameMemory", inPlace := ["math.Float32bits"], apart := false }
def FnExactSameMemorySaid : Prop := fnExactSameMemoryRow.holds Try.pinned (OpenSpec.ofChange fnExactSameMemorySpec)

/-- ITS FALSE NEIGHBOUR: 'it returns false'. Refute it at one input. -/
def fnExactSameMemoryWrong : ChangeSpec := { name := "fnExactSameMemory", fn := fun _ => fun
  | [d1, d2] => { results := [.lit (.bool false)], args := [d1, d2] }
  | _ => none }
def FnExactSameMemoryWrongFalsely : Prop := fnExactSameMemoryRow.holds Try.pinned (OpenSpec.ofChange fnExactSameMemoryWrong)

/-- 'laws.FnExactSmoothFilter': WHATEVER THE INPUT: true; the input reads as it did. -/
def fnExactSmoothFilterSpec : ChangeSpec := { name := "fnExactSmoothFilter", fn := fun _ => fun
  | [d] => { results := [.lit (.bool true)], args := [d] }
  | _ => none }
def fnExactSmoothFilterRow : OpenClaim := { program := "ytlenpecnfilkjaa", sum := "870a51d9fba3e84533022607994f26fc15899c953693a6f9556f26db9e3929dc", func := "loop.example/g01170/laws.FnExactSmoothFilter", spec := "fnExactSmoothFilter", apart := false }
def FnExactSmoothFilterSaid : Prop := fnExactSmoothFilterRow.holds Try.pinned (OpenSpec.ofChange fnExactSmoothFilterSpec)

/-- ITS FALSE NEIGHBOUR: 'it returns false'. Refute it at one input. -/
def fnExactSmoothFilterWrong : ChangeSpec := { name := "fnExactSmoothFilter", fn := fun _ => fun
  | [d] => { results := [.lit (.bool false)], args := [d] }
  | _ => none }
def FnExactSmoothFilterWrongFalsely : Prop := fnExactSmoothFilterRow.holds Try.pinned (OpenSpec.ofChange fnExactSmoothFilterWrong)

/-- 'laws.FnExactScaleFilter': WHATEVER THE INPUT: true; the input reads as it did. -/
def fnExactScaleFilterSpec : ChangeSpec := { name := "fnExactScaleFilter", fn := fun _ => fun
  | [d1, d2] => { results := [.lit (.bool true)], args := [d1, d2] }
  | _ => none }
def fnExactScaleFilterRow : OpenClaim := { program := "ytlenpecnfilkjaa", sum := "870a51d9fba3e84533022607994f26fc15899c953693a6f9556f26db9e3929dc", func := "loop.example/g01170/laws.FnExactScaleFilter", spec := "fnExactScaleFilter", apart := false }
def FnExactScaleFilterSaid : Prop := fnExactScaleFilterRow.holds Try.pinned (OpenSpec.ofChange fnExactScaleFilterSpec)

/-- ITS FALSE NEIGHBOUR: 'it returns false'. Refute it at one input. -/
def fnExactScaleFilterWrong : ChangeSpec := { name := "fnExactScaleFilter", fn := fun _ => fun
  | [d1, d2] => { results := [.lit (.bool false)], args := [d1, d2] }
  | _ => none }
def FnExactScaleFilterWrongFalsely : Prop := fnExactScaleFilterRow.holds Try.pinned (OpenSpec.ofChange fnExactScaleFilterWrong)

/-- 'laws.FnExactFilterStep': WHATEVER THE INPUT: true; the input reads as it did. -/
def fnExactFilterStepSpec : ChangeSpec := { name := "fnExactFilterStep", fn := fun _ => fun
  | [d1, d2, d3, d4, d5] => { results := [.lit (.bool true)], args := [d1, d2, d3, d4, d5] }
  | _ => none }
def fnExactFilterStepRow : OpenClaim := { program := "ytlenpecnfilkjaa", sum := "870a51d9fba3e84533022607994f26fc15899c953693a6f9556f26db9e3929dc", func := "loop.example/g01170/laws.FnExactFilterStep", spec := "fnExactFilterStep", inPlace := ["math.Float32bits", "math.Float32frombits", "math.Float64bits", "math.Float64frombits"], apart := false }
def FnExactFilterStepSaid : Prop := fnExactFilterStepRow.holds Try.pinned (OpenSpec.ofChange fnExactFilterStepSpec)

/-- ITS FALSE NEIGHBOUR: 'it returns false'. Refute it at one input. -/
def fnExactFilterStepWrong : ChangeSpec := { name := "fnExactFilterStep", fn := fun _ => fun
  | [d1, d2, d3, d4, d5] => { results := [.lit (.bool false)], args := [d1, d2, d3, d4, d5] }
  | _ => none }
def FnExactFilterStepWrongFalsely : Prop := fnExactFilterStepRow.holds Try.pinned (OpenSpec.ofChange fnExactFilterStepWrong)

/-- 'laws.FnExactRestAfter': WHATEVER THE INPUT: true; the input reads as it did. -/
def fnExactRestAfterSpec : ChangeSpec := { name := "fnExactRestAfter", fn := fun _ => fun
  | [d1, d2, d3, d4] => { results := [.lit (.bool true)], args := [d1, d2, d3, d4] }
  | _ => none }
def fnExactRestAfterRow : OpenClaim := { program := "ytlenpecnfilkjaa", sum := "870a51d9fba3e84533022607994f26fc15899c953693a6f9556f26db9e3929dc", func := "loop.example/g01170/laws.FnExactRestAfter", spec := "fnExactRestAfter", inPlace := ["math.Float32bits", "math.Float32frombits", "math.Float64bits", "math.Float64frombits"], apart := false }
def FnExactRestAfterSaid : Prop := fnExactRestAfterRow.holds Try.pinned (OpenSpec.ofChange fnExactRestAfterSpec)

/-- ITS FALSE NEIGHBOUR: 'it returns false'. Refute it at one input. -/
def fnExactRestAfterWrong : ChangeSpec := { name := "fnExactRestAfter", fn := fun _ => fun
  | [d1, d2, d3, d4] => { results := [.lit (.bool false)], args := [d1, d2, d3, d4] }
  | _ => none }
def FnExactRestAfterWrongFalsely : Prop := fnExactRestAfterRow.holds Try.pinned (OpenSpec.ofChange fnExactRestAfterWrong)

/-- 'laws.FnExactAreNotes': WHATEVER THE INPUT: true; the input reads as it did. -/
def fnExactAreNotesSpec : ChangeSpec := { name := "fnExactAreNotes", fn := fun _ => fun
  | [d] => { results := [.lit (.bool true)], args := [d] }
  | _ => none }
def fnExactAreNotesRow : OpenClaim := { program := "ytlenpecnfilkjaa", sum := "870a51d9fba3e84533022607994f26fc15899c953693a6f9556f26db9e3929dc", func := "loop.example/g01170/laws.FnExactAreNotes", spec := "fnExactAreNotes", apart := false }
def FnExactAreNotesSaid : Prop := fnExactAreNotesRow.holds Try.pinned (OpenSpec.ofChange fnExactAreNotesSpec)

/-- ITS FALSE NEIGHBOUR: 'it returns false'. Refute it at one input. -/
def fnExactAreNotesWrong : ChangeSpec := { name := "fnExactAreNotes", fn := fun _ => fun
  | [d] => { results := [.lit (.bool false)], args := [d] }
  | _ => none }
def FnExactAreNotesWrongFalsely : Prop := fnExactAreNotesRow.holds Try.pinned (OpenSpec.ofChange fnExactAreNotesWrong)

/-- 'laws.FnExactLevelAt': WHATEVER THE INPUT: true; the input reads as it did. -/
def fnExactLevelAtSpec : ChangeSpec := { name := "fnExactLevelAt", fn := fun _ => fun
  | [d1, d2, d3] => { results := [.lit (.bool true)], args := [d1, d2, d3] }
  | _ => none }
def fnExactLevelAtRow : OpenClaim := { program := "ytlenpecnfilkjaa", sum := "870a51d9fba3e84533022607994f26fc15899c953693a6f9556f26db9e3929dc", func := "loop.example/g01170/laws.FnExactLevelAt", spec := "fnExactLevelAt", apart := false }
def FnExactLevelAtSaid : Prop := fnExactLevelAtRow.holds Try.pinned (OpenSpec.ofChange fnExactLevelAtSpec)

/-- ITS FALSE NEIGHBOUR: 'it returns false'. Refute it at one input. -/
def fnExactLevelAtWrong : ChangeSpec := { name := "fnExactLevelAt", fn := fun _ => fun
  | [d1, d2, d3] => { results := [.lit (.bool false)], args := [d1, d2, d3] }
  | _ => none }
def FnExactLevelAtWrongFalsely : Prop := fnExactLevelAtRow.holds Try.pinned (OpenSpec.ofChange fnExactLevelAtWrong)

/-- 'laws.FnExactValidTaps': WHATEVER THE INPUT: true; the input reads as it did. -/
def fnExactValidTapsSpec : ChangeSpec := { name := "fnExactValidTaps", fn := fun _ => fun
  | [d] => { results := [.lit (.bool true)], args := [d] }
  | _ => none }
def fnExactValidTapsRow : OpenClaim := { program := "ytlenpecnfilkjaa", sum := "870a51d9fba3e84533022607994f26fc15899c953693a6f9556f26db9e3929dc", func := "loop.example/g01170/laws.FnExactValidTaps", spec := "fnExactValidTaps", apart := false }
def FnExactValidTapsSaid : Prop := fnExactValidTapsRow.holds Try.pinned (OpenSpec.ofChange fnExactValidTapsSpec)

/-- ITS FALSE NEIGHBOUR: 'it returns false'. Refute it at one input. -/
def fnExactValidTapsWrong : ChangeSpec := { name := "fnExactValidTaps", fn := fun _ => fun
  | [d] => { results := [.lit (.bool false)], args := [d] }
  | _ => none }
def FnExactValidTapsWrongFalsely : Prop := fnExactValidTapsRow.holds Try.pinned (OpenSpec.ofChange fnExactValidTapsWrong)

/-- 'laws.FnExactValidRoom': WHATEVER THE INPUT: true; the input reads as it did. -/
def fnExactValidRoomSpec : ChangeSpec := { name := "fnExactValidRoom", fn := fun _ => fun
  | [d] => { results := [.lit (.bool true)], args := [d] }
  | _ => none }
def fnExactValidRoomRow : OpenClaim := { program := "ytlenpecnfilkjaa", sum := "870a51d9fba3e84533022607994f26fc15899c953693a6f9556f26db9e3929dc", func := "loop.example/g01170/laws.FnExactValidRoom", spec := "fnExactValidRoom", apart := false }
def FnExactValidRoomSaid : Prop := fnExactValidRoomRow.holds Try.pinned (OpenSpec.ofChange fnExactValidRoomSpec)

/-- ITS FALSE NEIGHBOUR: 'it returns false'. Refute it at one input. -/
def fnExactValidRoomWrong : ChangeSpec := { name := "fnExactValidRoom", fn := fun _ => fun
  | [d] => { results := [.lit (.bool false)], args := [d] }
  | _ => none }
def FnExactValidRoomWrongFalsely : Prop := fnExactValidRoomRow.holds Try.pinned (OpenSpec.ofChange fnExactValidRoomWrong)

/-- 'laws.FnExactEmptyRoom': WHATEVER THE INPUT: true; the input reads as it did. -/
def fnExactEmptyRoomSpec : ChangeSpec := { name := "fnExactEmptyRoom", fn := fun _ => fun
  | [d] => { results := [.lit (.bool true)], args := [d] }
  | _ => none }
def fnExactEmptyRoomRow : OpenClaim := { program := "ytlenpecnfilkjaa", sum := "870a51d9fba3e84533022607994f26fc15899c953693a6f9556f26db9e3929dc", func := "loop.example/g01170/laws.FnExactEmptyRoom", spec := "fnExactEmptyRoom", apart := false }
def FnExactEmptyRoomSaid : Prop := fnExactEmptyRoomRow.holds Try.pinned (OpenSpec.ofChange fnExactEmptyRoomSpec)

/-- ITS FALSE NEIGHBOUR: 'it returns false'. Refute it at one input. -/
def fnExactEmptyRoomWrong : ChangeSpec := { name := "fnExactEmptyRoom", fn := fun _ => fun
  | [d] => { results := [.lit (.bool false)], args := [d] }
  | _ => none }
def FnExactEmptyRoomWrongFalsely : Prop := fnExactEmptyRoomRow.holds Try.pinned (OpenSpec.ofChange fnExactEmptyRoomWrong)

/- THE SECOND FORM. 'bulk': how many values and letters a reading holds, each counted each time it is reached (what is shared counts as often as it is met; a slice's spare places count too). A statement '..UptoSaid' is the law's where the arguments, and the package variables that the reading takes, are together of bulk at most 1048576: NARROWER than '..Said'. Prove '..Said' where nothing that the law and all that it calls make is longer than what came in: it says more and counts as full. Else prove '..UptoSaid'. A law counts once. -/
mutual
def uptoBulk {H : Type} : DataW H → Nat
  | .lit (.string bytes) => bytes.length + 1
  | .lit _ => 1
  | .nil => 1
  | .ptr d => uptoBulk d + 1
  | .slice elems spare => uptoBulkAll elems + uptoBulkAll spare + 1
  | .agg parts => uptoBulkAll parts + 1
  | .iface _ d => uptoBulk d + 1
  | .map entries => uptoBulkEntries entries + 1
  | .held _ => 1
def uptoBulkAll {H : Type} : List (DataW H) → Nat
  | [] => 0
  | d :: r => uptoBulk d + uptoBulkAll r
def uptoBulkEntries {H : Type} : List (Lit × DataW H) → Nat
  | [] => 0
  | x :: r => uptoBulkEntry x + uptoBulkEntries r
def uptoBulkEntry {H : Type} : Lit × DataW H → Nat
  | (.string bytes, d) => bytes.length + uptoBulk d + 1
  | (_, d) => uptoBulk d + 1
 end
def uptoSmall : (H : Type) → List (DataW H) → Bool := fun _ ds => decide (uptoBulkAll ds ≤ 1048576)
def OpenSpec.upto (s : _root_.Go.ChangeSpec) : _root_.Go.OpenSpec := { _root_.Go.OpenSpec.ofChange s with cond := some uptoSmall }

/-- 'laws.FnExactSameMemory', WHERE WHAT IT READS IS OF BULK AT MOST 1048576: true; the input reads as it did. -/
def fnExactSameMemoryUptoRow : OpenClaim := { program := "ytlenpecnfilkjaa", sum := "870a51d9fba3e84533022607994f26fc15899c953693a6f9556f26db9e3929dc", func := "loop.example/g01170/laws.FnExactSameMemory", spec := "fnExactSameMemory", inPlace := ["math.Float32bits"], apart := false, narrowed := true }
def FnExactSameMemoryUptoSaid : Prop := fnExactSameMemoryUptoRow.holds Try.pinned (OpenSpec.upto fnExactSameMemorySpec)

/-- 'laws.FnExactSmoothFilter', WHERE WHAT IT READS IS OF BULK AT MOST 1048576: true; the input reads as it did. -/
def fnExactSmoothFilterUptoRow : OpenClaim := { program := "ytlenpecnfilkjaa", sum := "870a51d9fba3e84533022607994f26fc15899c953693a6f9556f26db9e3929dc", func := "loop.example/g01170/laws.FnExactSmoothFilter", spec := "fnExactSmoothFilter", apart := false, narrowed := true }
def FnExactSmoothFilterUptoSaid : Prop := fnExactSmoothFilterUptoRow.holds Try.pinned (OpenSpec.upto fnExactSmoothFilterSpec)

/-- 'laws.FnExactScaleFilter', WHERE WHAT IT READS IS OF BULK AT MOST 1048576: true; the input reads as it did. -/
def fnExactScaleFilterUptoRow : OpenClaim := { program := "ytlenpecnfilkjaa", sum := "870a51d9fba3e84533022607994f26fc15899c953693a6f9556f26db9e3929dc", func := "loop.example/g01170/laws.FnExactScaleFilter", spec := "fnExactScaleFilter", apart := false, narrowed := true }
def FnExactScaleFilterUptoSaid : Prop := fnExactScaleFilterUptoRow.holds Try.pinned (OpenSpec.upto fnExactScaleFilterSpec)

/-- 'laws.FnExactFilterStep', WHERE WHAT IT READS IS OF BULK AT MOST 1048576: true; the input reads as it did. -/
def fnExactFilterStepUptoRow : OpenClaim := { program := "ytlenpecnfilkjaa", sum := "870a51d9fba3e84533022607994f26fc15899c953693a6f9556f26db9e3929dc", func := "loop.example/g01170/laws.FnExactFilterStep", spec := "fnExactFilterStep", inPlace := ["math.Float32bits", "math.Float32frombits", "math.Float64bits", "math.Float64frombits"], apart := false, narrowed := true }
def FnExactFilterStepUptoSaid : Prop := fnExactFilterStepUptoRow.holds Try.pinned (OpenSpec.upto fnExactFilterStepSpec)

/-- 'laws.FnExactRestAfter', WHERE WHAT IT READS IS OF BULK AT MOST 1048576: true; the input reads as it did. -/
def fnExactRestAfterUptoRow : OpenClaim := { program := "ytlenpecnfilkjaa", sum := "870a51d9fba3e84533022607994f26fc15899c953693a6f9556f26db9e3929dc", func := "loop.example/g01170/laws.FnExactRestAfter", spec := "fnExactRestAfter", inPlace := ["math.Float32bits", "math.Float32frombits", "math.Float64bits", "math.Float64frombits"], apart := false, narrowed := true }
def FnExactRestAfterUptoSaid : Prop := fnExactRestAfterUptoRow.holds Try.pinned (OpenSpec.upto fnExactRestAfterSpec)

/-- 'laws.FnExactAreNotes', WHERE WHAT IT READS IS OF BULK AT MOST 1048576: true; the input reads as it did. -/
def fnExactAreNotesUptoRow : OpenClaim := { program := "ytlenpecnfilkjaa", sum := "870a51d9fba3e84533022607994f26fc15899c953693a6f9556f26db9e3929dc", func := "loop.example/g01170/laws.FnExactAreNotes", spec := "fnExactAreNotes", apart := false, narrowed := true }
def FnExactAreNotesUptoSaid : Prop := fnExactAreNotesUptoRow.holds Try.pinned (OpenSpec.upto fnExactAreNotesSpec)

/-- 'laws.FnExactLevelAt', WHERE WHAT IT READS IS OF BULK AT MOST 1048576: true; the input reads as it did. -/
def fnExactLevelAtUptoRow : OpenClaim := { program := "ytlenpecnfilkjaa", sum := "870a51d9fba3e84533022607994f26fc15899c953693a6f9556f26db9e3929dc", func := "loop.example/g01170/laws.FnExactLevelAt", spec := "fnExactLevelAt", apart := false, narrowed := true }
def FnExactLevelAtUptoSaid : Prop := fnExactLevelAtUptoRow.holds Try.pinned (OpenSpec.upto fnExactLevelAtSpec)

/-- 'laws.FnExactValidTaps', WHERE WHAT IT READS IS OF BULK AT MOST 1048576: true; the input reads as it did. -/
def fnExactValidTapsUptoRow : OpenClaim := { program := "ytlenpecnfilkjaa", sum := "870a51d9fba3e84533022607994f26fc15899c953693a6f9556f26db9e3929dc", func := "loop.example/g01170/laws.FnExactValidTaps", spec := "fnExactValidTaps", apart := false, narrowed := true }
def FnExactValidTapsUptoSaid : Prop := fnExactValidTapsUptoRow.holds Try.pinned (OpenSpec.upto fnExactValidTapsSpec)

/-- 'laws.FnExactValidRoom', WHERE WHAT IT READS IS OF BULK AT MOST 1048576: true; the input reads as it did. -/
def fnExactValidRoomUptoRow : OpenClaim := { program := "ytlenpecnfilkjaa", sum := "870a51d9fba3e84533022607994f26fc15899c953693a6f9556f26db9e3929dc", func := "loop.example/g01170/laws.FnExactValidRoom", spec := "fnExactValidRoom", apart := false, narrowed := true }
def FnExactValidRoomUptoSaid : Prop := fnExactValidRoomUptoRow.holds Try.pinned (OpenSpec.upto fnExactValidRoomSpec)

/-- 'laws.FnExactEmptyRoom', WHERE WHAT IT READS IS OF BULK AT MOST 1048576: true; the input reads as it did. -/
def fnExactEmptyRoomUptoRow : OpenClaim := { program := "ytlenpecnfilkjaa", sum := "870a51d9fba3e84533022607994f26fc15899c953693a6f9556f26db9e3929dc", func := "loop.example/g01170/laws.FnExactEmptyRoom", spec := "fnExactEmptyRoom", apart := false, narrowed := true }
def FnExactEmptyRoomUptoSaid : Prop := fnExactEmptyRoomUptoRow.holds Try.pinned (OpenSpec.upto fnExactEmptyRoomSpec)

end Rows
end Go.Proofs.Ytlenpecnfilkjaa
