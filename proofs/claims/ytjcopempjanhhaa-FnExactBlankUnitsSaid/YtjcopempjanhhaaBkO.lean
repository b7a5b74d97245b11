/-
  How arguments that are inked lines are opened.
-/
import Derived.Test.YtjcopempjanhhaaFrame
import Derived.Test.YtjcopempjanhhaaBk0
namespace Go.Proofs.Ytjcopempjanhhaa
open Go.ChangeShapes Go.WideShapes Go.ChangeAt Go.RowKit
set_option maxRecDepth 100000 in
open Go.Joins in
theorem open_inked {H : Type} {enc : TypeId × Value → H} {w : World} {d : DataW H} {p : List MemPlace} {base : Nat} {v : Value}
    (hv : Value.okWide Try.prog w .any base 79 v) (h : DataW.Trod enc Try.prog w 0 (fun _ => true) true 79 v d p) :
    ∃ t i, v = .agg #[.string t, .string i] ∧ t.size ≤ maxLen ∧ i.size ≤ maxLen := by
  obtain ⟨v0, v1, y0, y1, n, rfl, _, _, h0, h1⟩ := open_agg2 Try.underlying79 (by kernel_rfl) (by kernel_rfl) hv h
  obtain ⟨t, k0, _, ht⟩ := DataW.trod_string Try.underlying9 h0
  obtain ⟨i, k1, _, hi⟩ := DataW.trod_string Try.underlying9 h1
  simp only [List.cons.injEq, and_true] at k0 k1
  subst k0 k1
  exact ⟨t, i, rfl, ht, hi⟩
end Go.Proofs.Ytjcopempjanhhaa
