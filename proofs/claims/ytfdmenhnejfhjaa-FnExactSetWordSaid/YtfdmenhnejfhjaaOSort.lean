/-
  How an argument that is a slice of Sort is opened. Printed by program.
-/
import Derived.Test.YtfdmenhnejfhjaaFrame
import Derived.Test.YtfdmenhnejfhjaaSSort
namespace Go.Proofs.Ytfdmenhnejfhjaa
set_option maxRecDepth 100000
open Go.ChangeShapes Go.WideShapes Go.ChangeAt Go.RowKit
theorem open_sorts {H : Type} {enc : TypeId × Value → H} {w : World} {d : DataW H} {p : List MemPlace} {base : Nat} {v : Value}
    (hv : Value.okWide Try.prog w .any base 22 v) (h : DataW.Trod enc Try.prog w 0 (fun _ => true) true 22 v d p) :
    ∃ A n c ms, v = .slice A n c ∧ RSrts w w.heap.size A n ms ∧ n ≤ maxLen ∧ ∀ m ∈ ms, m.code.size ≤ maxLen := by
  obtain ⟨A, n, c, rows, rfl, hr, hn, hrows⟩ := open_rows (size := 2) Try.underlying22 (by kernel_rfl) (by omega) hv h
  obtain ⟨ms, rfl, hms⟩ : ∃ ms, rows = List.map Srt.row ms ∧ ∀ m ∈ ms, m.code.size ≤ maxLen := rows_ofP fun r hr' => by
    have hl := hr.2.1 r hr'
    obtain ⟨m, y, hy⟩ := hrows r hr'
    obtain ⟨a0, ha0, hb0⟩ := row_string Try.underlying44 (by kernel_rfl) hl hy 0 _ rfl rfl
    obtain ⟨a1, ha1, hb1⟩ := row_int Try.underlying44 (by kernel_rfl) hl hy 1 _ rfl rfl
    match r, hl with
    | [c0, c1], _ =>
      simp at ha0 ha1
      exact ⟨⟨a0, a1⟩, by rw [ha0, ha1]; rfl, hb0⟩
  exact ⟨A, n, c, ms, rfl, hr, hn, hms⟩
end Go.Proofs.Ytfdmenhnejfhjaa
