/-
  How the argument of JoinMelts is opened.
-/
import Derived.Test.YtggdpmipfhfegaaFrame
import Derived.Test.YtggdpmipfhfegaaMet4
namespace Go.Proofs.Ytggdpmipfhfegaa
open Go.ChangeShapes Go.WideShapes Go.ChangeAt Go.RowKit
theorem open_melts {H : Type} {enc : TypeId × Value → H} {w : World} {d : DataW H} {p : List MemPlace} {base : Nat} {v : Value}
    (hv : Value.okWide Try.prog w .any base 54 v) (h : DataW.Trod enc Try.prog w 0 (fun _ => true) true 54 v d p) :
    ∃ A n c ms, v = .slice A n c ∧ RMels w w.heap.size A n ms ∧ n ≤ maxLen := by
  obtain ⟨A, n, c, rows, rfl, hr, hn, hrows⟩ := open_rows (size := 3) Try.underlying54 (by kernel_rfl) (by omega) hv h
  obtain ⟨ms, rfl⟩ : ∃ ms, rows = List.map Mel.row ms := rows_of fun r hr' => by
    have hl := hr.2.1 r hr'
    obtain ⟨m, y, hy⟩ := hrows r hr'
    obtain ⟨a, ha, _⟩ := row_int Try.underlying45 (by kernel_rfl) hl hy 0 _ rfl rfl
    obtain ⟨b, hb, _⟩ := row_int Try.underlying45 (by kernel_rfl) hl hy 1 _ rfl rfl
    obtain ⟨c, hc, _⟩ := row_int Try.underlying45 (by kernel_rfl) hl hy 2 _ rfl rfl
    match r, hl with
    | [c0, c1, c2], _ =>
      simp at ha hb hc
      exact ⟨⟨a, b, c⟩, by rw [ha, hb, hc]; rfl⟩
  exact ⟨A, n, c, ms, rfl, hr, hn⟩
end Go.Proofs.Ytggdpmipfhfegaa
