/-
  Contracts: the number of types in a case; TypesOfSetting.
-/
import Derived.Test.YtfdmenhnejfhjaaSe1
namespace Go.Proofs.Ytfdmenhnejfhjaa
open Go.RowKit
def sumB : List Bx → Int
  | [] => 0
  | b :: r => b.count + sumB r
theorem count_bd {ms : List Bx} (h : caseB ms = true) : ∀ b ∈ ms, 0 ≤ b.count ∧ b.count ≤ 9999 := fun b hb => (boxB_true ((caseB_true h).2 b hb)).2.2.2
theorem sumB_bd : ∀ {ms : List Bx}, (∀ b ∈ ms, 0 ≤ b.count ∧ b.count ≤ 9999) → 0 ≤ sumB ms ∧ sumB ms ≤ 9999 * ms.length
  | [], _ => by simp [sumB]
  | b :: r, h => by
    have h1 := h b (by simp)
    have h2 := sumB_bd (ms := r) fun x hx => h x (List.mem_cons_of_mem _ hx)
    rw [sumB, List.length_cons]
    omega
def tosV (bs : List Bx) (ss : List ByteArray) : Int := if askB bs ss then sumB bs + ss.length else 0
end Go.Proofs.Ytfdmenhnejfhjaa
