/- The walk of the law on sums of halves. Conditions: none. -/
import Derived.Test.YtbaokmapgdnhlaaL2
import Derived.Deep.RegionWith
set_option linter.unusedVariables false
set_option linter.unusedSimpArgs false
namespace Go.Proofs.Ytbaokmapgdnhlaa
open Go.RowKit

theorem addr_add_add (a : Addr) (h j : Nat) : (a.add h).add j = a.add (h + j) := by
  unfold Addr.add
  by_cases h1 : h = 0
  · subst h1; simp
  · by_cases h2 : j = 0
    · subst h2; simp [h1]
    · simp [h1, h2, Nat.add_assoc]
theorem Rd.head {w : World} {A : Option Addr} {n : Nat} {xs : List Nat} (h : Rd w A n xs) (k : Nat) (hk : k ≤ n) : Rd w A k (xs.take k) :=
  ⟨by rw [List.length_take, h.len]; omega, by have := h.most; omega, fun x hx => h.wf x (List.mem_of_mem_take hx), fun j x hx => by
    refine h.cell j x ?_
    rw [List.getElem?_take] at hx
    split at hx
    · exact hx
    · cases hx⟩
theorem Rd.tail {w : World} {ad : Addr} {n : Nat} {xs : List Nat} (h : Rd w (some ad) n xs) (k : Nat) (hk : k ≤ n) : Rd w (some (ad.add k)) (n - k) (xs.drop k) :=
  ⟨by rw [List.length_drop, h.len], by have := h.most; omega, fun x hx => h.wf x (List.mem_of_mem_drop hx), fun j x hx => by
    rw [List.getElem?_drop] at hx
    obtain ⟨ad', e, hc⟩ := h.cell _ x hx
    obtain rfl := Option.some.inj e
    exact ⟨_, rfl, by rw [addr_add_add]; exact hc⟩⟩
theorem Ow.cap {e : TypeId} {w : World} {B : Nat} {A : Option Addr} {n c : Nat} {xs : List Nat} (h : Ow e w B (.slice A n c) xs) : xs.length ≤ c := by
  rcases h.own.2 with ⟨h1, h2⟩ | ⟨g, cap, cur, h1, _, _, h2, _⟩
  · omega
  · injection h1 with _ _ h3
    subst h3; exact h2
theorem Ow.cap_n {e : TypeId} {w : World} {B : Nat} {A : Option Addr} {n c : Nat} {xs : List Nat} (h : Ow e w B (.slice A n c) xs) (hl : xs.length = n) : n ≤ c := by
  have := h.cap; omega
theorem Rd.same {w w' : World} {A : Option Addr} {n : Nat} {xs : List Nat} (h : Rd w A n xs) (e : w'.heap = w.heap) : Rd w' A n xs :=
  ⟨h.len, h.most, h.wf, fun j x hx => by
    obtain ⟨ad, e1, e2⟩ := h.cell j x hx
    exact ⟨ad, e1, by rw [← e2]; simp [World.cell?, e]⟩⟩
/-- The sum of halves, with so much fuel. -/
def pairF : Nat → List (Option Nat) → Option Nat
  | 0, _ => some 0
  | f + 1, l => if l.length = 0 then some 0 else if l.length = 1 then (l[0]?).getD none else fadd (pairF f (l.take ((l.length + 1) / 2))) (pairF f (l.drop ((l.length + 1) / 2)))
theorem clss_take (xs : List Nat) (k : Nat) : clss (xs.take k) = (clss xs).take k := by simp [clss]
theorem clss_drop (xs : List Nat) (k : Nat) : clss (xs.drop k) = (clss xs).drop k := by simp [clss]
def pairNC (n : Nat) (X : List (Option Nat)) : Option Nat := if few n = true then pairF (n + 1) X else some 0
end Go.Proofs.Ytbaokmapgdnhlaa
