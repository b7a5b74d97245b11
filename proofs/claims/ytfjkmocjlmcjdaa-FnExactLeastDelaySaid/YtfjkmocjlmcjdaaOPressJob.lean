/-
  How an argument that is a slice of PressJob is opened. Printed by program.
-/
import Derived.Test.YtfjkmocjlmcjdaaFrame
import Derived.Test.YtfjkmocjlmcjdaaSPressJob
namespace Go.Proofs.Ytfjkmocjlmcjdaa
set_option maxRecDepth 100000
open Go.ChangeShapes Go.WideShapes Go.ChangeAt Go.RowKit
theorem open_pressjobs {H : Type} {enc : TypeId × Value → H} {w : World} {d : DataW H} {p : List MemPlace} {base : Nat} {v : Value}
    (hv : Value.okWide Try.prog w .any base 25 v) (h : DataW.Trod enc Try.prog w 0 (fun _ => true) true 25 v d p) :
    ∃ A n c ms, v = .slice A n c ∧ RPJobs w w.heap.size A n ms ∧ n ≤ maxLen := by
  obtain ⟨A, n, c, rows, rfl, hr, hn, hrows⟩ := open_rows (size := 3) Try.underlying25 (by kernel_rfl) (by omega) hv h
  obtain ⟨ms, rfl, hms⟩ : ∃ ms, rows = List.map PJob.row ms ∧ ∀ m ∈ ms, True := rows_ofP fun r hr' => by
    have hl := hr.2.1 r hr'
    obtain ⟨m, y, hy⟩ := hrows r hr'
    obtain ⟨a0, ha0, hb0⟩ := row_int Try.underlying48 (by kernel_rfl) hl hy 0 _ rfl rfl
    obtain ⟨a1, ha1, hb1⟩ := row_int Try.underlying48 (by kernel_rfl) hl hy 1 _ rfl rfl
    obtain ⟨a2, ha2, hb2⟩ := row_int Try.underlying48 (by kernel_rfl) hl hy 2 _ rfl rfl
    match r, hl with
    | [c0, c1, c2], _ =>
      simp at ha0 ha1 ha2
      exact ⟨⟨a0, a1, a2⟩, by rw [ha0, ha1, ha2]; rfl, trivial⟩
  exact ⟨A, n, c, ms, rfl, hr, hn⟩
end Go.Proofs.Ytfjkmocjlmcjdaa
