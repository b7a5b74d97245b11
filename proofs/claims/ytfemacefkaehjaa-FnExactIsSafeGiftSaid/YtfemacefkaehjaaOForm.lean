/-
  How an argument that is a slice of forms is opened.
-/
import Derived.Test.YtfemacefkaehjaaOpen
import Derived.Test.YtfemacefkaehjaaFm
namespace Go.Proofs.Ytfemacefkaehjaa
set_option maxRecDepth 100000
open Go.ChangeShapes Go.WideShapes Go.ChangeAt Go.RowKit
theorem rows_ofQ {α : Type _} {f : α → List Value} {Q : α → Prop} {rows : List (List Value)} (h : ∀ r ∈ rows, ∃ x, r = f x ∧ Q x) : ∃ xs, rows = List.map f xs ∧ ∀ x ∈ xs, Q x := rows_ofP h
theorem open_forms {H : Type} {enc : TypeId × Value → H} {w : World} {d : DataW H} {p : List MemPlace} {base : Nat} {v : Value}
    (hv : Value.okWide Try.prog w .any base 23 v) (h : DataW.Trod enc Try.prog w 0 (fun _ => true) true 23 v d p) :
    ∃ A n c ys, v = .slice A n c ∧ RForms w w.heap.size A n ys ∧ n ≤ maxLen ∧ ∀ y ∈ ys, y.f.held.length ≤ maxLen ∧ y.f.wanted.length ≤ maxLen := by
  obtain ⟨A, n, c, rows, rfl, hr, hn, hrows⟩ := open_rows (size := 2) Try.underlying23 (by kernel_rfl) (by omega) hv h
  obtain ⟨ys, rfl, hys⟩ : ∃ ys, rows = List.map FV.row ys ∧ ∀ y ∈ ys, y.In w w.heap.size ∧ y.f.held.length ≤ maxLen ∧ y.f.wanted.length ≤ maxLen := rows_ofQ fun r hr' => by
    have hl := hr.2.1 r hr'
    obtain ⟨m, y, hy⟩ := hrows r hr'
    obtain ⟨u0, y0, m0, h0, t0⟩ := row_fields Try.underlying39 (by kernel_rfl) hl hy 0 _ rfl
    obtain ⟨u1, y1, m1, h1, t1⟩ := row_fields Try.underlying39 (by kernel_rfl) hl hy 1 _ rfl
    obtain ⟨A0, n0, c0, xs0, rfl, r0, l0, _⟩ := open_rints_cell Try.underlying22 t0
    obtain ⟨A1, n1, c1, xs1, rfl, r1, l1, _⟩ := open_rints_cell Try.underlying22 t1
    have e0 := r0.len
    have e1 := r1.len
    subst e0 e1
    match r, hl with
    | [a0, a1], _ =>
      simp at h0 h1
      exact ⟨⟨A0, c0, A1, c1, ⟨xs0, xs1⟩⟩, by rw [h0, h1]; rfl, ⟨r0, r1⟩, l0, l1⟩
  exact ⟨A, n, c, ys, rfl, ⟨hr, fun y hy => (hys y hy).1⟩, hn, fun y hy => (hys y hy).2⟩
end Go.Proofs.Ytfemacefkaehjaa
