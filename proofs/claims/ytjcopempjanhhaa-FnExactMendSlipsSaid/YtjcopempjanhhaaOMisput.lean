/-
  How an argument that is a slice of Misput is opened. Printed by program.
-/
import Derived.Test.YtjcopempjanhhaaFrame
import Derived.Test.YtjcopempjanhhaaSMisput
namespace Go.Proofs.Ytjcopempjanhhaa
set_option maxRecDepth 100000
open Go.ChangeShapes Go.WideShapes Go.ChangeAt Go.RowKit
theorem open_misputs {H : Type} {enc : TypeId × Value → H} {w : World} {d : DataW H} {p : List MemPlace} {base : Nat} {v : Value}
    (hv : Value.okWide Try.prog w .any base 61 v) (h : DataW.Trod enc Try.prog w 0 (fun _ => true) true 61 v d p) :
    ∃ A n c ms, v = .slice A n c ∧ RMsps w w.heap.size A n ms ∧ n ≤ maxLen ∧ ∀ m ∈ ms, m.code.size ≤ maxLen ∧ m.into.size ≤ maxLen := by
  obtain ⟨A, n, c, rows, rfl, hr, hn, hrows⟩ := open_rows (size := 3) Try.underlying61 (by kernel_rfl) (by omega) hv h
  obtain ⟨ms, rfl, hms⟩ : ∃ ms, rows = List.map Msp.row ms ∧ ∀ m ∈ ms, m.code.size ≤ maxLen ∧ m.into.size ≤ maxLen := rows_ofP fun r hr' => by
    have hl := hr.2.1 r hr'
    obtain ⟨m, y, hy⟩ := hrows r hr'
    obtain ⟨a0, ha0, hb0⟩ := row_string Try.underlying110 (by kernel_rfl) hl hy 0 _ rfl rfl
    obtain ⟨a1, ha1, hb1⟩ := row_string Try.underlying110 (by kernel_rfl) hl hy 1 _ rfl rfl
    obtain ⟨a2, ha2, hb2⟩ := row_int Try.underlying110 (by kernel_rfl) hl hy 2 _ rfl rfl
    match r, hl with
    | [c0, c1, c2], _ =>
      simp at ha0 ha1 ha2
      exact ⟨⟨a0, a1, a2⟩, by rw [ha0, ha1, ha2]; rfl, ⟨hb0, hb1⟩⟩
  exact ⟨A, n, c, ms, rfl, hr, hn, hms⟩
end Go.Proofs.Ytjcopempjanhhaa
