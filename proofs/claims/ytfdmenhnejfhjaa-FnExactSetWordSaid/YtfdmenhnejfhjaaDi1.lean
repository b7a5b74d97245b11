/-
  Contracts: two cases with the same codes; the differences of their counts.
-/
import Derived.Test.YtfdmenhnejfhjaaCa4
import Derived.Deep.RegionHeld3
import Derived.Deep.AppendLies
namespace Go.Proofs.Ytfdmenhnejfhjaa
open Go.RowKit
theorem goodF_mem {ms : List Bx} : ∀ (f k : Nat), goodF ms f k = true → ∀ (j : Nat) (b : Bx), k ≤ j → j < k + f → ms[j]? = some b → boxB b = true
  | 0, k, _, j, b, h1, h2, _ => by omega
  | f + 1, k, h, j, b, h1, h2, hb => by
    rw [goodF, Bool.and_eq_true] at h
    by_cases e : j = k
    · subst e
      have h3 := h.1
      rw [hb, goodK, Bool.and_eq_true] at h3
      exact h3.1
    · exact goodF_mem f (k + 1) h.2 j b (by omega) (by omega) hb
theorem caseB_true {ms : List Bx} (h : caseB ms = true) : (1 ≤ ms.length ∧ ms.length ≤ 32) ∧ ∀ b ∈ ms, boxB b = true := by
  rw [caseB, Bool.and_eq_true] at h
  refine ⟨by have := inB_true.1 h.2; omega, fun b hb => ?_⟩
  obtain ⟨j, hj⟩ := List.getElem?_of_mem hb
  exact goodF_mem _ 0 h.1 j b (by omega) (by have := (List.getElem?_eq_some_iff.1 hj).1; omega) hj
theorem boxB_true {b : Bx} (h : boxB b = true) : letB b.code 1 3 = true ∧ (0 ≤ b.line ∧ b.line ≤ 9) ∧ (0 ≤ b.column ∧ b.column ≤ 9) ∧ (0 ≤ b.count ∧ b.count ≤ 9999) := by
  simp only [boxB, Bool.and_eq_true, inB_true] at h
  exact ⟨h.1, h.2.1, h.2.2.1, h.2.2.2⟩
def alikeL : List Bx → List Bx → Bool
  | a :: r, b :: s => eqS a.code b.code && alikeL r s
  | _, _ => true
def alikeB (a b : List Bx) : Bool := decide (a.length = b.length) && alikeL a b
def twoB (a b : List Bx) : Bool := caseB a && (caseB b && alikeB a b)
theorem alikeL_end {a b : List Bx} (h : a = []) : alikeL a b = true := by subst h; cases b <;> rfl
theorem eqS_t {a b : ByteArray} (h : eqS a b = true) : (a.toList == b.toList) = true ∧ (a.toList != b.toList) = false ∧ (b.toList == a.toList) = true ∧ (b.toList != a.toList) = false := by
  have h1 : a.toList = b.toList := by simpa [eqS] using h
  simp [h1]
theorem eqS_f {a b : ByteArray} (h : eqS a b = false) : (a.toList == b.toList) = false ∧ (a.toList != b.toList) = true ∧ (b.toList == a.toList) = false ∧ (b.toList != a.toList) = true := by
  have h1 : ¬ a.toList = b.toList := by simpa [eqS] using h
  simp [h1, Ne.symm h1]
end Go.Proofs.Ytfdmenhnejfhjaa
