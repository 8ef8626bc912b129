/- The walks over slices of samples, third part: sums of two lists, products of two lists. Conditions: none beside the contracts' own. -/
import Derived.Test.YtbaokmapgdnhlaaL1
set_option linter.unusedVariables false
set_option linter.unusedSimpArgs false
namespace Go.Proofs.Ytbaokmapgdnhlaa
open Go.RowKit

def dotC (l m : List (Option Nat)) : Option Nat := (l.zip m).foldl (fun s p => fadd s (fmul p.1 p.2)) (some 0)
theorem zip_snoc {xs ys : List Nat} {k : Nat} {X Y : Option Nat} (h : (clss xs)[k]? = some X) (h' : (clss ys)[k]? = some Y) : ((clss xs).zip (clss ys)).take (k + 1) = ((clss xs).zip (clss ys)).take k ++ [(X, Y)] := by
  have hz : ((clss xs).zip (clss ys))[k]? = some (X, Y) := by rw [List.getElem?_zip_eq_some]; exact ⟨h, h'⟩
  obtain ⟨hk, he⟩ := List.getElem?_eq_some_iff.1 hz
  rw [take_snoc _ _ hk, he]
theorem zip_all {xs ys : List Nat} {n k : Nat} (hl : xs.length = n) (hl' : ys.length = n) (h1 : k ≤ n) (h2 : ¬ k < n) : ((clss xs).zip (clss ys)).take k = (clss xs).zip (clss ys) :=
  List.take_of_length_le (by rw [List.length_zip, clss_length, clss_length]; omega)
def dotT (l : List (Option Nat × Option Nat)) : Option Nat := l.foldl (fun s p => fadd s (fmul p.1 p.2)) (some 0)
theorem dotT_snoc (l : List (Option Nat × Option Nat)) (X Y : Option Nat) : dotT (l ++ [(X, Y)]) = fadd (dotT l) (fmul X Y) := by simp [dotT]
def fewTwo (n m : Nat) : Bool := few n && decide (n = m)
def dotNC (n m : Nat) (X Y : List (Option Nat)) : Option Nat := if fewTwo n m = true then dotC X Y else some 0
theorem few_two {n m : Nat} (h : fewTwo n m = true) : few n = true ∧ n = m := by simpa [fewTwo] using h
theorem few_not {n m : Nat} (h : fewTwo n m = false) : few n = false ∨ (few n = true ∧ ((n : Int) != (m : Int)) = true) := by
  cases hf : few n
  · exact .inl rfl
  · refine .inr ⟨rfl, ?_⟩
    simp only [fewTwo, hf, Bool.true_and, decide_eq_false_iff_not] at h
    rw [bne_iff_ne]; omega
/-! ### Mixed -/
def mixT (l : List (Option Nat × Option Nat)) : List (Option Nat) := l.map fun p => fadd p.1 p.2
theorem mixT_snoc (l : List (Option Nat × Option Nat)) (X Y : Option Nat) : mixT (l ++ [(X, Y)]) = mixT l ++ [fadd X Y] := by simp [mixT]
def mixNC (n m : Nat) (X Y : List (Option Nat)) : List (Option Nat) := if fewTwo n m = true then mixT (X.zip Y) else []
end Go.Proofs.Ytbaokmapgdnhlaa
