/-
  How slices of ints inside a struct are opened.
-/
import Derived.Test.YtfemacefkaehjaaFrame
namespace Go.Proofs.Ytfemacefkaehjaa
set_option maxRecDepth 100000
open Go.ChangeShapes Go.WideShapes Go.ChangeAt Go.RowKit
section
variable {H : Type} {enc : TypeId × Value → H} {w : World}
theorem open_rints_cell {t : TypeId} {v : Value} {m : Nat} {y : DataW H × List MemPlace} (ht : Try.prog.underlying t = some (.slice 3)) (hf : DataW.trod enc Try.prog w 0 (fun _ => true) true m t [v] = some y) :
    ∃ A n c xs, v = .slice A n c ∧ RInts w w.heap.size A n xs ∧ n ≤ maxLen ∧ (∀ x ∈ xs, (Lit.int .i64 x).wf = true) := by
  rcases open_ints ht Try.underlying3 (by kernel_rfl) hf with ⟨hcs, _⟩ | ⟨a, len', cap', zs, hcs, _, hl, hm, hz, _, hcell, hwf⟩
  · injection hcs with hcs
    subst hcs
    exact ⟨none, 0, 0, [], rfl, Reads.none_, by simp, by simp⟩
  · injection hcs with hcs
    subst hcs
    simp at hz
    refine ⟨some a, len', cap', zs.take len', rfl, ⟨by simp; omega, fun hn => ?_⟩, by omega, fun x hx => hwf x (List.mem_of_mem_take hx)⟩
    have h0 := hcell 0 (by omega)
    refine ⟨a, rfl, ?_, fun j u hu => ?_⟩
    · have := World.block_lt_of_cell? w _ h0
      rwa [block_of_add] at this
    · have hj : j < len' := by
        have := (List.getElem?_eq_some_iff.1 hu).1
        simp at this
        omega
      rw [hcell j (by omega)]
      rw [← hu]
      simp [hj, show j < zs.length by omega]
end
end Go.Proofs.Ytfemacefkaehjaa
