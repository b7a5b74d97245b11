/-
  How an argument that is a setting (a list of boxes, a list of codes) or a list of strings is opened.
-/
import Derived.Test.YtfdmenhnejfhjaaFrame
import Derived.Test.YtfdmenhnejfhjaaSBox
import Derived.Test.YtfdmenhnejfhjaaStrs
import Derived.Lib.SmallJoins
namespace Go.Proofs.Ytfdmenhnejfhjaa
set_option maxRecDepth 100000
open Go.ChangeShapes Go.WideShapes Go.ChangeAt Go.RowKit
section
variable {H : Type} {enc : TypeId × Value → H} {w : World}
open Go.Deep in
theorem open_rows_cell {t e : TypeId} {size m0 : Nat} {v : Value} {y0 : DataW H × List MemPlace} (ht : Try.prog.underlying t = some (.slice e)) (hC : Try.prog.cellsOf e = size) (hpos : 0 < size)
    (hf : DataW.trod enc Try.prog w 0 (fun _ => true) true m0 t [v] = some y0) :
    ∃ A n c rows, v = .slice A n c ∧ RRow w w.heap.size size A n rows ∧ n ≤ maxLen ∧ ∀ r ∈ rows, ∃ m y, DataW.trod enc Try.prog w 0 (fun _ => true) true m e r = some y := by
  rcases open_slice ht hf with ⟨hcs, _⟩ | ⟨a, len, cap', m, n, D, Pl, hcs, hb, hl, hm, hmm, hx, hi⟩
  · injection hcs with hcs
    subst hcs
    exact ⟨none, 0, 0, [], rfl, ⟨rfl, by simp, Reads.none_⟩, by simp, by simp⟩
  · injection hcs with hcs
    subst hcs
    simp at hmm
    subst hmm
    rw [hC] at hi
    obtain ⟨R, hR⟩ := choose_lt (α := List Value) (p := fun i r => w.cells? 0 (a.add (i * size)) size = some r ∧ DataW.trod enc Try.prog w 0 (fun _ => true) true n e r = some (D i, Pl i)) hi
    have hlen : ∀ r ∈ (List.range len).map R, r.length = size := by
      intro r hr
      obtain ⟨i, hi', rfl⟩ := List.mem_map.1 hr
      have := List.mem_range.1 hi'
      exact (World.cells?_some (hR i (by omega)).1).2.1
    have hflat := flatten_len hlen
    rw [List.length_map, List.length_range] at hflat
    refine ⟨some a, len, _, (List.range len).map R, rfl, ⟨by simp, hlen, hflat, fun hn => ⟨a, rfl, ?_, fun j u hu => ?_⟩⟩, by omega, fun r hr => ?_⟩
    · have h0 := (hR 0 (by omega)).1
      obtain ⟨_, hl0, hc0⟩ := World.cells?_some h0
      have := hc0 0 hpos
      rw [List.getElem?_eq_getElem (by omega)] at this
      have := World.block_lt_of_cell? w _ this
      rwa [block_of_add, block_of_add] at this
    · have hj : j < len * size := by
        have := (List.getElem?_eq_some_iff.1 hu).1
        rwa [hflat] at this
      have hq : j / size < len := Nat.div_lt_of_lt_mul (by rw [Nat.mul_comm]; exact hj)
      have hr : j % size < size := Nat.mod_lt _ hpos
      have e1 : j = j / size * size + j % size := by rw [Nat.mul_comm]; exact (Nat.div_add_mod j size).symm
      have h1 := flatten_at (rows := (List.range len).map R) (k := j / size) hlen (by rw [List.getElem?_map, List.getElem?_range hq]; rfl) (j % size) hr
      rw [← e1, hu] at h1
      obtain ⟨_, hl0, hc0⟩ := World.cells?_some (hR (j / size) (by omega)).1
      have h2 := hc0 (j % size) hr
      rw [add_of_add, ← e1] at h2
      rw [h2, ← h1]
    · obtain ⟨i, hi', rfl⟩ := List.mem_map.1 hr
      have := List.mem_range.1 hi'
      exact ⟨n, _, (hR i (by omega)).2⟩
theorem flat_strs : ∀ xs : List ByteArray, (xs.map fun s : ByteArray => [Value.string s]).flatten = xs.map Value.string
  | [] => rfl
  | s :: r => by rw [List.map_cons, List.flatten_cons, flat_strs r]; rfl
theorem strs_of_rows {A : Option Addr} {n : Nat} {rows : List (List Value)} (hr : RRow w w.heap.size 1 A n rows) (h : ∀ r ∈ rows, ∃ m y, DataW.trod enc Try.prog w 0 (fun _ => true) true m 9 r = some y) :
    ∃ xs, RStrs w w.heap.size A n xs ∧ ∀ s ∈ xs, s.size ≤ maxLen := by
  obtain ⟨xs, rfl, hx⟩ : ∃ xs, rows = List.map (fun s : ByteArray => [Value.string s]) xs ∧ ∀ s ∈ xs, s.size ≤ maxLen := rows_ofP fun r hr' => by
    obtain ⟨m, y, hy⟩ := h r hr'
    obtain ⟨x, k0, _, wx⟩ := DataW.trod_string Try.underlying9 hy
    exact ⟨x, k0, wx⟩
  refine ⟨xs, ?_, hx⟩
  have h3 := hr.2.2
  rw [flat_strs] at h3
  exact h3
theorem open_strs_any {d : DataW H} {p : List MemPlace} {base : Nat} {v : Value} (hv : Value.okWide Try.prog w .any base 24 v) (h : DataW.Trod enc Try.prog w 0 (fun _ => true) true 24 v d p) :
    ∃ A n c xs, v = .slice A n c ∧ RStrs w w.heap.size A n xs ∧ n ≤ maxLen ∧ ∀ s ∈ xs, s.size ≤ maxLen := by
  obtain ⟨A, n, c, rows, rfl, hr, hn, hrows⟩ := open_rows (size := 1) Try.underlying24 (by kernel_rfl) (by omega) hv h
  obtain ⟨xs, h1, h2⟩ := strs_of_rows hr hrows
  exact ⟨A, n, c, xs, rfl, h1, hn, h2⟩
open Go.Joins Go.Deep in
theorem open_setting {d : DataW H} {p : List MemPlace} {base : Nat} {v : Value} (hv : Value.okWide Try.prog w .any base 26 v) (h : DataW.Trod enc Try.prog w 0 (fun _ => true) true 26 v d p) :
    ∃ A n c B m e bs ss, v = .agg #[.slice A n c, .slice B m e] ∧ RBxs w w.heap.size A n bs ∧ n ≤ maxLen ∧ (∀ b ∈ bs, b.code.size ≤ maxLen) ∧ RStrs w w.heap.size B m ss ∧ m ≤ maxLen ∧ ∀ s ∈ ss, s.size ≤ maxLen := by
  obtain ⟨v0, v1, y0, y1, k, rfl, _, _, h0, h1⟩ := open_agg2 Try.underlying26 (by kernel_rfl) (by kernel_rfl) hv h
  obtain ⟨A, n, c, rows, rfl, hr, hn, hrows⟩ := open_rows_cell (size := 4) Try.underlying23 (by kernel_rfl) (by omega) h0
  obtain ⟨bs, rfl, hbs⟩ : ∃ ms, rows = List.map Bx.row ms ∧ ∀ m ∈ ms, m.code.size ≤ maxLen := rows_ofP fun r hr' => by
    have hl := hr.2.1 r hr'
    obtain ⟨m, y, hy⟩ := hrows r hr'
    obtain ⟨a0, ha0, hb0⟩ := row_string Try.underlying61 (by kernel_rfl) hl hy 0 _ rfl rfl
    obtain ⟨a1, ha1, hb1⟩ := row_int Try.underlying61 (by kernel_rfl) hl hy 1 _ rfl rfl
    obtain ⟨a2, ha2, hb2⟩ := row_int Try.underlying61 (by kernel_rfl) hl hy 2 _ rfl rfl
    obtain ⟨a3, ha3, hb3⟩ := row_int Try.underlying61 (by kernel_rfl) hl hy 3 _ rfl rfl
    match r, hl with
    | [c0, c1, c2, c3], _ =>
      simp at ha0 ha1 ha2 ha3
      exact ⟨⟨a0, a1, a2, a3⟩, by rw [ha0, ha1, ha2, ha3]; rfl, hb0⟩
  obtain ⟨B, m, e, rows2, rfl, hr2, hn2, hrows2⟩ := open_rows_cell (size := 1) Try.underlying24 (by kernel_rfl) (by omega) h1
  obtain ⟨ss, hs, hss⟩ := strs_of_rows hr2 hrows2
  exact ⟨A, n, c, B, m, e, bs, ss, rfl, hr, hn, hbs, hs, hn2, hss⟩
end
end Go.Proofs.Ytfdmenhnejfhjaa
