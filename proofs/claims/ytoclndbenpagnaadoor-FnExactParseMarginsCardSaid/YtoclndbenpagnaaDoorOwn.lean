/-
  Slices of ints that a call owns, and the laws' own marks on them.
-/
import Derived.Test.YtoclndbenpagnaaDoorFrame
import Derived.Test.YtoclndbenpagnaaDoorInts
namespace Go.Proofs.YtoclndbenpagnaaDoor
open Go.RowKit
/-- The numbers k, k + 1, .. -/
def seqI (k : Int) (n : Nat) : List Int := (List.range n).map fun j : Nat => k + (j : Int)
theorem seqI_len (k : Int) (n : Nat) : (seqI k n).length = n := by simp [seqI]
theorem seqI_get (k : Int) {n j : Nat} (h : j < n) : (seqI k n)[j]? = some (k + (j : Int)) := by simp [seqI, h]
/-- An own slice of ints. -/
def Own (w : World) (B : Nat) (v : Value) (n : Nat) (xs : List Int) : Prop := w.ownsRow B 3 1 v n (xs.map (Value.int .i64))
section
variable {w w' : World} {B g n : Nat} {v : Value} {xs : List Int}
theorem own_len (h : Own w B v n xs) : xs.length = n := by have := h.1; simpa using this
theorem own_slice {e : TypeId} {size : Nat} {cs : List Value} (h : w.ownsRow B e size v n cs) : ∃ A c, v = .slice A n c := by
  rcases h.2 with ⟨rfl, rfl⟩ | ⟨g, cap, cur, rfl, _⟩
  · exact ⟨_, _, rfl⟩
  · exact ⟨_, _, rfl⟩
theorem row_below {e : TypeId} {size B0 : Nat} {cs : List Value} (h : w.ownsRow B e size v n cs) (hb : Below B0 w w') (hlt : ∀ k, v.ownBlock = some k → k < B0) : w'.ownsRow B e size v n cs := by
  refine ⟨h.1, ?_⟩
  rcases h.2 with hn | ⟨g, cap, cur, rfl, hB, hg, rest⟩
  · exact .inl hn
  · exact .inr ⟨g, cap, cur, rfl, hB, (hb.block g (hlt g rfl)).trans hg, rest⟩
theorem row_step {e : TypeId} {size : Nat} {cs : List Value} (h : w.ownsRow B e size v n cs) (hb : Below w.heap.size w w') : w'.ownsRow B e size v n cs := row_below h hb fun k hk => (h.lt k hk).2
theorem row_grew {e : TypeId} {size : Nat} {cs : List Value} (h : w.ownsRow B e size v n cs) (hg : w.grownBy w' (some g)) (hne : ∀ k, v.ownBlock = some k → k ≠ g) : w'.ownsRow B e size v n cs := by
  refine h.kept hg ?_
  cases hv : v.ownBlock with
  | none => exact .inl rfl
  | some k => right; intro e; injection e with e; exact hne k hv e
theorem row_alloc {e : TypeId} {size : Nat} {cs : List Value} (h : w.ownsRow B e size v n cs) (o : Obj) : (w.alloc o).ownsRow B e size v n cs := h.alloc o
theorem Blk.grew {t : TypeId} {cs : List Value} {row : Option Nat} (h : Blk w g t cs) (hg : w.grownBy w' row) (hne : row ≠ some g) : Blk w' g t cs := (hg.block g h.lt (fun e => hne e.symm)).trans h
theorem Blk.row {t : TypeId} {size : Nat} {cs : List Value} (h : Blk w g t cs) (hl : cs.length = n * size) (hn : n ≤ maxLen) (hB : B ≤ g) : w.ownsRow B t size (.slice (some ⟨g, 0, none⟩) n n) n cs :=
  ⟨hl, .inr ⟨g, n, cs.toArray, rfl, hB, h, Nat.le_refl _, hn, by simpa using hl, by rw [← hl]; simp⟩⟩
theorem own_rints {A : Option Addr} {c : Nat} (h : Own w B (.slice A n c) n xs) : RInts w w.heap.size A n xs := Reads.of_own h
theorem grown_below {row : Option Nat} {B0 : Nat} (hg : w.grownBy w' row) (hB : B0 ≤ w.heap.size) (hr : ∀ k, row = some k → B0 ≤ k) : Below B0 w w' := (Below.refl _ _).grown hg hB hr
end
theorem grown_refl (w : World) (row : Option Nat) : w.grownBy w row := ⟨rfl, rfl, rfl, Nat.le_refl _, fun _ _ _ => rfl⟩
theorem grown_trans {a b c : World} {row : Option Nat} (h : a.grownBy b row) (k : b.grownBy c row) : a.grownBy c row :=
  ⟨k.os.trans h.os, k.tape.trans h.tape, k.output.trans h.output, Nat.le_trans h.size k.size, fun i hi hne => (k.block i (Nat.lt_of_lt_of_le hi h.size) hne).trans (h.block i hi hne)⟩

/-- Blocks from lo to hi alone may have changed. -/
structure KeptI (lo hi : Nat) (w w' : World) : Prop where
  os : w'.os = w.os
  tape : w'.tape = w.tape
  output : w'.output = w.output
  size : w.heap.size ≤ w'.heap.size
  block : ∀ k, k < w.heap.size → k < lo ∨ hi ≤ k → w'.heap[k]? = w.heap[k]?
section
variable {w w' : World} {lo hi B n : Nat} {v : Value} {g : Nat}
theorem KeptI.refl : KeptI lo hi w w := ⟨rfl, rfl, rfl, Nat.le_refl _, fun _ _ _ => rfl⟩
theorem KeptI.trans {a b c : World} (h : KeptI lo hi a b) (k : KeptI lo hi b c) : KeptI lo hi a c :=
  ⟨k.os.trans h.os, k.tape.trans h.tape, k.output.trans h.output, Nat.le_trans h.size k.size, fun i hi' hne => (k.block i (Nat.lt_of_lt_of_le hi' h.size) hne).trans (h.block i hi' hne)⟩
theorem KeptI.mono {lo' hi' : Nat} (h : KeptI lo hi w w') (h1 : lo' ≤ lo) (h2 : hi ≤ hi') : KeptI lo' hi' w w' := ⟨h.os, h.tape, h.output, h.size, fun k hk hne => h.block k hk (by omega)⟩
theorem KeptI.of_grown (h : w.grownBy w' v.ownBlock) (hv : ∀ k, v.ownBlock = some k → lo ≤ k ∧ k < hi) : KeptI lo hi w w' :=
  ⟨h.os, h.tape, h.output, h.size, fun k hk hne => h.block k hk (fun e => by have := hv k e.symm; omega)⟩
theorem KeptI.below (h : KeptI lo hi w w') (hB : B ≤ lo) (hs : B ≤ w.heap.size) : Below B w w' := ⟨h.os, h.tape, h.output, h.size, fun k hk => h.block k (by omega) (by omega)⟩
theorem KeptI.of_below (h : Below w.heap.size w w') : KeptI lo hi w w' := ⟨h.os, h.tape, h.output, h.size, fun k hk _ => h.block k hk⟩
theorem Blk.keptI {t : TypeId} {cs : List Value} (h : Blk w g t cs) (hq : KeptI lo hi w w') (hne : g < lo ∨ hi ≤ g) : Blk w' g t cs := (hq.block g h.lt hne).trans h
theorem row_keptI {e : TypeId} {size : Nat} {cs : List Value} (h : w.ownsRow B e size v n cs) (hq : KeptI lo hi w w') (hne : ∀ k, v.ownBlock = some k → k < lo ∨ hi ≤ k) : w'.ownsRow B e size v n cs := by
  refine ⟨h.1, ?_⟩
  rcases h.2 with hn | ⟨g, cap, cur, rfl, hB, hg, rest⟩
  · exact .inl hn
  · exact .inr ⟨g, cap, cur, rfl, hB, (hq.block g (Array.getElem?_eq_some_iff.1 hg).1 (hne g rfl)).trans hg, rest⟩
end

end Go.Proofs.YtoclndbenpagnaaDoor
