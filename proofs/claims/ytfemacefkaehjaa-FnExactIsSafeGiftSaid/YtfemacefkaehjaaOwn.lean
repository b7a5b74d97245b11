/-
  Slices of ints that a call owns, and the laws' own marks on them.
-/
import Derived.Test.YtfemacefkaehjaaFrame
import Derived.Test.YtfemacefkaehjaaInts
namespace Go.Proofs.Ytfemacefkaehjaa
open Go.RowKit
/-- The numbers k, k + 1, .. -/
def seqI (k : Int) (n : Nat) : List Int := (List.range n).map fun j : Nat => k + (j : Int)
theorem seqI_len (k : Int) (n : Nat) : (seqI k n).length = n := by simp [seqI]
theorem seqI_get (k : Int) {n j : Nat} (h : j < n) : (seqI k n)[j]? = some (k + (j : Int)) := by simp [seqI, h]
/-- An own slice of ints. -/
def Own (w : World) (B : Nat) (v : Value) (n : Nat) (xs : List Int) : Prop := w.ownsRow B 3 1 v n (xs.map (Value.int .i64))
section
variable {w w' : World} {B g n : Nat} {v : Value} {xs : List Int}
theorem own_len (h : Own w B v n xs) : xs.length = n := by have := h.1; simpa using this
theorem own_slice {e : TypeId} {size : Nat} {cs : List Value} (h : w.ownsRow B e size v n cs) : ∃ A c, v = .slice A n c := by
  rcases h.2 with ⟨rfl, rfl⟩ | ⟨g, cap, cur, rfl, _⟩
  · exact ⟨_, _, rfl⟩
  · exact ⟨_, _, rfl⟩
theorem row_below {e : TypeId} {size B0 : Nat} {cs : List Value} (h : w.ownsRow B e size v n cs) (hb : Below B0 w w') (hlt : ∀ k, v.ownBlock = some k → k < B0) : w'.ownsRow B e size v n cs := by
  refine ⟨h.1, ?_⟩
  rcases h.2 with hn | ⟨g, cap, cur, rfl, hB, hg, rest⟩
  · exact .inl hn
  · exact .inr ⟨g, cap, cur, rfl, hB, (hb.block g (hlt g rfl)).trans hg, rest⟩
theorem row_step {e : TypeId} {size : Nat} {cs : List Value} (h : w.ownsRow B e size v n cs) (hb : Below w.heap.size w w') : w'.ownsRow B e size v n cs := row_below h hb fun k hk => (h.lt k hk).2
theorem row_grew {e : TypeId} {size : Nat} {cs : List Value} (h : w.ownsRow B e size v n cs) (hg : w.grownBy w' (some g)) (hne : ∀ k, v.ownBlock = some k → k ≠ g) : w'.ownsRow B e size v n cs := by
  refine h.kept hg ?_
  cases hv : v.ownBlock with
  | none => exact .inl rfl
  | some k => right; intro e; injection e with e; exact hne k hv e
theorem row_alloc {e : TypeId} {size : Nat} {cs : List Value} (h : w.ownsRow B e size v n cs) (o : Obj) : (w.alloc o).ownsRow B e size v n cs := h.alloc o
theorem Blk.grew {t : TypeId} {cs : List Value} {row : Option Nat} (h : Blk w g t cs) (hg : w.grownBy w' row) (hne : row ≠ some g) : Blk w' g t cs := (hg.block g h.lt (fun e => hne e.symm)).trans h
theorem Blk.row {t : TypeId} {size : Nat} {cs : List Value} (h : Blk w g t cs) (hl : cs.length = n * size) (hn : n ≤ maxLen) (hB : B ≤ g) : w.ownsRow B t size (.slice (some ⟨g, 0, none⟩) n n) n cs :=
  ⟨hl, .inr ⟨g, n, cs.toArray, rfl, hB, h, Nat.le_refl _, hn, by simpa using hl, by rw [← hl]; simp⟩⟩
theorem own_rints {A : Option Addr} {c : Nat} (h : Own w B (.slice A n c) n xs) : RInts w w.heap.size A n xs := Reads.of_own h
theorem grown_below {row : Option Nat} {B0 : Nat} (hg : w.grownBy w' row) (hB : B0 ≤ w.heap.size) (hr : ∀ k, row = some k → B0 ≤ k) : Below B0 w w' := (Below.refl _ _).grown hg hB hr
end
theorem grown_refl (w : World) (row : Option Nat) : w.grownBy w row := ⟨rfl, rfl, rfl, Nat.le_refl _, fun _ _ _ => rfl⟩
theorem grown_trans {a b c : World} {row : Option Nat} (h : a.grownBy b row) (k : b.grownBy c row) : a.grownBy c row :=
  ⟨k.os.trans h.os, k.tape.trans h.tape, k.output.trans h.output, Nat.le_trans h.size k.size, fun i hi hne => (k.block i (Nat.lt_of_lt_of_le hi h.size) hne).trans (h.block i hi hne)⟩

/-- Blocks from lo to hi alone may have changed. -/
structure KeptI (lo hi : Nat) (w w' : World) : Prop where
  os : w'.os = w.os
  tape : w'.tape = w.tape
  output : w'.output = w.output
  size : w.heap.size ≤ w'.heap.size
  block : ∀ k, k < w.heap.size → k < lo ∨ hi ≤ k → w'.heap[k]? = w.heap[k]?
section
variable {w w' : World} {lo hi B n : Nat} {v : Value} {g : Nat}
theorem KeptI.refl : KeptI lo hi w w := ⟨rfl, rfl, rfl, Nat.le_refl _, fun _ _ _ => rfl⟩
theorem KeptI.trans {a b c : World} (h : KeptI lo hi a b) (k : KeptI lo hi b c) : KeptI lo hi a c :=
  ⟨k.os.trans h.os, k.tape.trans h.tape, k.output.trans h.output, Nat.le_trans h.size k.size, fun i hi' hne => (k.block i (Nat.lt_of_lt_of_le hi' h.size) hne).trans (h.block i hi' hne)⟩
theorem KeptI.mono {lo' hi' : Nat} (h : KeptI lo hi w w') (h1 : lo' ≤ lo) (h2 : hi ≤ hi') : KeptI lo' hi' w w' := ⟨h.os, h.tape, h.output, h.size, fun k hk hne => h.block k hk (by omega)⟩
theorem KeptI.of_grown (h : w.grownBy w' v.ownBlock) (hv : ∀ k, v.ownBlock = some k → lo ≤ k ∧ k < hi) : KeptI lo hi w w' :=
  ⟨h.os, h.tape, h.output, h.size, fun k hk hne => h.block k hk (fun e => by have := hv k e.symm; omega)⟩
theorem KeptI.below (h : KeptI lo hi w w') (hB : B ≤ lo) (hs : B ≤ w.heap.size) : Below B w w' := ⟨h.os, h.tape, h.output, h.size, fun k hk => h.block k (by omega) (by omega)⟩
theorem KeptI.of_below (h : Below w.heap.size w w') : KeptI lo hi w w' := ⟨h.os, h.tape, h.output, h.size, fun k hk _ => h.block k hk⟩
theorem Blk.keptI {t : TypeId} {cs : List Value} (h : Blk w g t cs) (hq : KeptI lo hi w w') (hne : g < lo ∨ hi ≤ g) : Blk w' g t cs := (hq.block g h.lt hne).trans h
theorem row_keptI {e : TypeId} {size : Nat} {cs : List Value} (h : w.ownsRow B e size v n cs) (hq : KeptI lo hi w w') (hne : ∀ k, v.ownBlock = some k → k < lo ∨ hi ≤ k) : w'.ownsRow B e size v n cs := by
  refine ⟨h.1, ?_⟩
  rcases h.2 with hn | ⟨g, cap, cur, rfl, hB, hg, rest⟩
  · exact .inl hn
  · exact .inr ⟨g, cap, cur, rfl, hB, (hq.block g (Array.getElem?_eq_some_iff.1 hg).1 (hne g rfl)).trans hg, rest⟩
end
theorem markIntS_any (v : Value) (n B : Nat) (xs : List Int) (k : Int) (w : World) (h : Own w B v n xs) (hn : n ≤ 1048576) (hk : 0 ≤ k ∧ k ≤ 1000000000000) :
    Calls Try.prog 12 #[v, .int .i64 k] w fun e w' => e = .returned (.int .i64 (k + n)) ∧ Own w' B v n (seqI k n) ∧ w.grownBy w' v.ownBlock := by
  have hl := own_len h
  obtain ⟨hlen, hform⟩ := h
  rcases hform with ⟨rfl, rfl⟩ | ⟨g, cap, cur, rfl, hB, hg, rest⟩
  · go_enter Try.func12, Try.ntmps12
    go_wp2
    go_loop [1, 5] (fun q i => i = .int .i64 0 ∧ q = .int .i64 k) (fun _ _ => 0)
    case atStart => exact ⟨rfl, rfl⟩
    case round =>
      obtain ⟨rfl, rfl⟩ := hrel
      go_wp2
      go_ret
      exact ⟨ret_int (by simp), World.ownsRow_nil _ _ _ _, grown_refl _ _⟩
  · have h : Own w B (.slice (some ⟨g, 0, none⟩) n cap) n xs := ⟨hlen, .inr ⟨g, cap, cur, rfl, hB, hg, rest⟩⟩
    clear hlen hg rest
    have HL := Lib.hid hl; clear hl
    go_enter Try.func12, Try.ntmps12
    go_wp2
    go_loopw [1, 5] (fun q i wr => ∃ (j : Nat) (ys : List Int), j ≤ n ∧ i = .int .i64 j ∧ q = .int .i64 (k + j) ∧ Own wr B (.slice (some ⟨g, 0, none⟩) n cap) n ys ∧ ys.take j = (seqI k n).take j ∧ w.grownBy wr (some g)) (fun _ i _ => n - (intOf i).toNat)
    case atStart => exact ⟨0, xs, Nat.zero_le _, rfl, by simp, h, by simp, grown_refl _ _⟩
    case round =>
      obtain ⟨j, ys, hj, rfl, rfl, hown, htk, hgr⟩ := hrel
      have HT := Lib.hid htk; clear htk
      have HY := Lib.hid (own_len hown)
      by_cases hlt : j < n
      · obtain ⟨z, hd⟩ : ∃ z, wr.cell? ⟨g, j, none⟩ = some z := ⟨_, (hown.cellAt j (by omega)).trans (List.getElem?_eq_getElem (by rw [List.length_map, HY.out]; exact hlt))⟩
        have hz := hown.frozenAt j
        go_wp2
        go_roundw
        case rel =>
          obtain ⟨s1, s2⟩ := hown.stored j (.int .i64 (k + j))
          refine ⟨j + 1, ys.set j (k + j), by omega, by go_num, by go_num, ?_, ?_, grown_trans hgr s2⟩
          · rw [← List.map_set] at s1
            exact s1
          · rw [List.take_add_one, List.take_add_one, seqI_get k hlt, List.take_set_of_le (Nat.le_refl j), HT.out, List.getElem?_set_self (by rw [HY.out]; exact hlt)]
        case measure => simp [intOf]; omega
      · go_wp2
        go_ret
        have hjn : j = n := by omega
        subst hjn
        have h1 := HT.out
        rw [List.take_of_length_le (by rw [HY.out]; omega), List.take_of_length_le (by rw [seqI_len]; omega)] at h1
        rw [← h1]
        exact ⟨rfl, hown, hgr⟩

theorem heldIntS_any (A : Option Addr) (n c B : Nat) (k : Int) (w : World) (h : RInts w B A n (seqI k n)) (hn : n ≤ 1048576) (hk : 0 ≤ k ∧ k ≤ 1000000000000) :
    Calls Try.prog 14 #[.slice A n c, .int .i64 k] w fun e w' => e = .returned (.int .i64 (k + n)) ∧ w = w' := by
  go_enter Try.func14, Try.ntmps14
  go_wp2
  go_loop [1, 5] (fun q i => ∃ j : Nat, j ≤ n ∧ i = .int .i64 j ∧ q = .int .i64 (k + j)) (fun _ i => n - (intOf i).toNat)
  case atStart => exact ⟨0, Nat.zero_le _, rfl, by simp⟩
  case round =>
    obtain ⟨j, hj, rfl, rfl⟩ := hrel
    by_cases hlt : j < n
    · obtain ⟨ad, y, rfl, _, _, hy, hc⟩ := RInts.at_ h hlt
      have hy' : k + (j : Int) = y := by rw [seqI_get k hlt] at hy; injection hy
      subst hy'
      clear hy
      have e1 : (k + (j : Int) != k + (j : Int)) = false := by simp
      go_wp2
      go_round
      case rel => exact ⟨j + 1, by omega, by go_num, by go_num⟩
      case measure => simp [intOf]; omega
    · have hjn : j = n := by omega
      subst hjn
      go_wp2
      go_ret
      exact ⟨rfl, rfl⟩
theorem eqIntS_same {A B' : Option Addr} {n c m d B C : Nat} {xs : List Int} {w : World} (hr : RInts w B A n xs) (hs : RInts w C B' m xs) (_ : B ≤ w.heap.size) (_ : C ≤ w.heap.size) (hn : n ≤ 1048576) :
    Calls Try.prog 10 #[.slice A n c, .slice B' m d] w fun e w' => e = .returned (.bool true) ∧ Below w.heap.size w w' := by
  have hm : n = m := by rw [← hr.len, ← hs.len]
  refine (eqIntS_any A B' n c m d B C xs xs w hr hs hn (by omega)).mono ?_
  rintro e w' ⟨rfl, hb⟩
  exact ⟨by simp [eqI], hb⟩
end Go.Proofs.Ytfemacefkaehjaa
