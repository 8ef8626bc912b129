/- ReadDecimal's law under the listed variables. Conditions: none beside the given statement's own. -/
import Derived.Test.YtajnncidkmafgaaDoorRb
set_option linter.unusedVariables false
set_option linter.unusedSimpArgs false
namespace Go.Proofs.YtajnncidkmafgaaDoor
open Go.RowKit
theorem gSynT : (Tryd.prog.globals[1]?).map (·.type) = some 44 := by kernel_rfl
theorem gRngT : (Tryd.prog.globals[2]?).map (·.type) = some 44 := by kernel_rfl
theorem starES : "*" ++ "errors.errorString" = "*errors.errorString" := by decide
/-- The one row of that name. -/
theorem rowES (u : TypeId) (h : Tryd.prog.typeName? 3 u = some "*errors.errorString") : u = 107 :=
  typeName_ptr_named (nm := "errors.errorString") (by rw [starES]; kernel_rfl) (by kernel_rfl) (by decide) u (by rw [starES]; exact h)
theorem env_of {rest : List (String × DataW Unit)} {W : World} (h : laidMet Tryd.prog (("internal/strconv.uint64pow10", Rows.laid_internal_strconv_uint64pow10) :: rest) W)
    {r1 r2 : List (String × DataW Unit)} (h1 : laidMet Tryd.prog (("strconv.ErrRange", Rows.laid_strconv_ErrRange) :: r1) W) (h2 : laidMet Tryd.prog (("strconv.ErrSyntax", Rows.laid_strconv_ErrSyntax) :: r2) W) : Env W := by
  have cells1 : Tryd.prog.cellsOf 109 = 1 := by kernel_rfl
  have cells2 : Tryd.prog.cellsOf 9 = 1 := by kernel_rfl
  obtain ⟨a1, s1, hv1, -, -, -⟩ := laid_sentinel h1 gRng gRngT Tryd.underlying44 rowES Tryd.underlying107 Tryd.underlying109 rfl rfl Tryd.underlying9 cells1 cells2
  obtain ⟨a2, s2, hv2, -, -, -⟩ := laid_sentinel h2 gSyn gSynT Tryd.underlying44 rowES Tryd.underlying107 Tryd.underlying109 rfl rfl Tryd.underlying9 cells1 cells2
  exact ⟨pow_of h, ⟨_, _, hv2⟩, ⟨_, _, hv1⟩⟩
theorem readDecimal_law (s : ByteArray) (W : World) (hs : s.size ≤ 140737488351232) (hL : laidMetH Tryd.prog Rows.fnExactReadDecimalRow.laid W) (hsh : W.ShapedOpen Tryd.prog) :
    Calls Tryd.prog 5 #[.string s] W fun e w' => e = .returned (.bool true) ∧ Below W.heap.size W w' := by
  rw [MakeChecks.laidMetH_plain _ _ _ (by kernel_rfl)] at hL
  have he := env_of hL.tail.tail hL.tail.tail.tail hL.tail.tail.tail.tail
  have hsz : s.data.toList.length ≤ 9223372036854775807 := by
    have : s.data.toList.length = s.size := by simp
    omega
  have := readDecimal_walk s.data.toList W he hsz
  rwa [show tx s.data.toList = .string s from congrArg Value.string (bytes_eta s).symm] at this
end Go.Proofs.YtajnncidkmafgaaDoor
