/-
  Contracts: SheetsNeeded, JobMinutes, PaperFor.
-/
import Derived.Test.YtfjkmocjlmcjdaaPr4
namespace Go.Proofs.Ytfjkmocjlmcjdaa
open Go.RowKit
def snG (a b c : Int) (xs : List Int) (i s d : Int) : Bool := prB a b c xs && jobB ⟨i, s, d⟩
def snV (a b c : Int) (xs : List Int) (i s d : Int) : Int := if snG a b c xs i s d then need c s else 0
def jmV (a b c : Int) (xs : List Int) (i s d : Int) : Int := if snG a b c xs i s d then mins a b c s else 0
def sumN (c : Int) : List PJob → Int
  | [] => 0
  | m :: r => need c m.sheets + sumN c r
theorem allJ_mem {ms : List PJob} (h : allJ ms = true) : ∀ m ∈ ms, jobB m = true := by
  induction ms with
  | nil => simp
  | cons y r ih =>
    simp only [allJ, Bool.and_eq_true] at h
    intro x hx
    rcases List.mem_cons.1 hx with rfl | hx
    · exact h.1
    · exact ih h.2 x hx
theorem jobsB_true {ms : List PJob} (h : jobsB ms = true) : ms.length ≤ 7 ∧ ∀ m ∈ ms, (0 ≤ m.ink ∧ m.ink ≤ 4) ∧ (1 ≤ m.sheets ∧ m.sheets ≤ 20000) ∧ (0 ≤ m.due ∧ m.due ≤ 100000) := by
  simp only [jobsB, Bool.and_eq_true, decide_eq_true_eq] at h
  exact ⟨h.2, fun m hm => jobB_true (allJ_mem h.1 m hm)⟩
def pfG (a b c : Int) (xs : List Int) (ms : List PJob) : Bool := prB a b c xs && jobsB ms
def pfV (a b c : Int) (xs : List Int) (ms : List PJob) : Int := if pfG a b c xs ms then sumN c ms else 0
end Go.Proofs.Ytfjkmocjlmcjdaa
