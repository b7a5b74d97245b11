/-
  Contracts of the laws' own helpers on a press.
-/
import Derived.Test.YtfjkmocjlmcjdaaPr
namespace Go.Proofs.Ytfjkmocjlmcjdaa
open Go.RowKit
theorem toPress_any (a b c : Int) (A : Option Addr) (n cp B : Nat) (xs : List Int) (w : World) (hr : RInts w B A n xs) (hB : B ≤ w.heap.size) (hn0 : n ≤ 1048576) :
    Calls Try.prog 8 #[.agg #[.int .i64 a, .int .i64 b, .int .i64 c, .slice A n cp]] w fun e w' => ∃ g, e = .returned (.agg #[.int .i64 a, .int .i64 b, .int .i64 c, .slice (some ⟨g, 0, none⟩) n n]) ∧ w.heap.size ≤ g ∧ Blk w' g 3 (xs.map (Value.int .i64)) ∧ Below w.heap.size w w' := by
  have hr3 := (((hr.more hB).alloc (Nat.le_refl _) (.cells #[.int .i64 a, .int .i64 b, .int .i64 c, .slice A n cp] 24)).alloc (by simp) (.cells #[.int .i64 0, .int .i64 0, .int .i64 0, .slice none 0 0] 30)).alloc (by simp <;> omega) (.cells #[.int .i64 a, .int .i64 b, .int .i64 c, .slice none 0 0] 30)
  go_enter Try.func8, Try.ntmps8
  go_wp2_with fail
  refine (toIntS_any A n cp w.heap.size xs _ hr3 (by simp <;> omega) hn0).mono ?_
  rintro e1 w1 ⟨g, rfl, hg, hk, hn⟩
  simp only [World.size_alloc] at hg
  have hz2 : Blk w1 (w.heap.size + 1) 30 [.int .i64 0, .int .i64 0, .int .i64 0, .slice none 0 0] := by
    refine Blk.below ?_ hn (by simp <;> omega)
    exact Blk.alloc (by simpa using Blk.new' (w.alloc (.cells #[.int .i64 a, .int .i64 b, .int .i64 c, .slice A n cp] 24)) 30 #[.int .i64 0, .int .i64 0, .int .i64 0, .slice none 0 0]) _
  have hz3 : Blk w1 (w.heap.size + 2) 30 [.int .i64 a, .int .i64 b, .int .i64 c, .slice none 0 0] := by
    refine Blk.below ?_ hn (by simp)
    simpa using Blk.new' ((w.alloc (.cells #[.int .i64 a, .int .i64 b, .int .i64 c, .slice A n cp] 24)).alloc (.cells #[.int .i64 0, .int .i64 0, .int .i64 0, .slice none 0 0] 30)) 30 #[.int .i64 a, .int .i64 b, .int .i64 c, .slice none 0 0]
  have hb : Below w.heap.size w w1 := Below.trans (((Below.refl _ _).alloc (Nat.le_refl _) _).alloc (by simp) _ |>.alloc (by simp <;> omega) _) (hn.mono (by simp <;> omega))
  clear hn hr3
  have c0 : _ = some (Value.int .i64 a) := hz3.cell 0
  have c1 : _ = some (Value.int .i64 b) := hz3.cell 1
  have c2 : _ = some (Value.int .i64 c) := hz3.cell 2
  have c3 : _ = some (Value.slice none 0 0) := hz3.cell 3
  have f3 := hz3.frozen 3
  have d0 : _ = some (Value.int .i64 0) := hz2.cell 0
  have d1 : _ = some (Value.int .i64 0) := hz2.cell 1
  have d2 : _ = some (Value.int .i64 0) := hz2.cell 2
  have d3 : _ = some (Value.slice none 0 0) := hz2.cell 3
  have y0 := hz2.frozen 0
  have y1 := hz2.frozen 1
  have y2 := hz2.frozen 2
  have y3 := hz2.frozen 3
  go_wp2_with fail
  clear c0 c1 c2 c3 f3 d0 d1 d2 d3 y0 y1 y2 y3
  have hz4 := ((((hz2.far (p := ⟨w.heap.size + 2, 3, none⟩) (by simp) (.slice (some ⟨g, 0, none⟩) n n)).set_ 0 (.int .i64 a)).set_ 1 (.int .i64 b)).set_ 2 (.int .i64 c)).set_ 3 (.slice (some ⟨g, 0, none⟩) n n)
  have q0 : _ = some (Value.int .i64 a) := hz4.cell 0
  have q1 : _ = some (Value.int .i64 b) := hz4.cell 1
  have q2 : _ = some (Value.int .i64 c) := hz4.cell 2
  have q3 : _ = some (.slice (some ⟨g, 0, none⟩) n n : Value) := hz4.cell 3
  exact bodyPost_ret (v := .agg #[.int .i64 a, .int .i64 b, .int .i64 c, .slice (some ⟨g, 0, none⟩) n n]) (by simp [results, Try.results8, go_sem, q0, q1, q2, q3]) rfl ⟨g, rfl, by omega, ((((hk.far (by simp <;> omega) _).far (by simp <;> omega) _).far (by simp <;> omega) _).far (by simp <;> omega) _).far (by simp <;> omega) _, ((((hb.setCell (by simp <;> omega) _).setCell (by simp <;> omega) _).setCell (by simp <;> omega) _).setCell (by simp <;> omega) _).setCell (by simp <;> omega) _⟩
def szI1 (n : Nat) (l : Int) : Int := if l < n then -1 else l - n
theorem szIntS_any (A : Option Addr) (n cp : Nat) (l : Int) (w : World) (hn : n ≤ 9223372036854775807) (hl : 0 ≤ l ∧ l ≤ 1048576) :
    Calls Try.prog 20 #[.slice A n cp, .int .i64 l] w fun e w' => e = .returned (.int .i64 (szI1 n l)) ∧ w = w' := by
  by_cases h : l < n
  · go_enter Try.func20, Try.ntmps20
    go_wp2
    go_ret
    exact ⟨ret_int (by rw [szI1, if_pos h]), rfl⟩
  · go_enter Try.func20, Try.ntmps20
    go_wp2
    go_ret
    exact ⟨ret_int (by rw [szI1, if_neg (by omega)]), rfl⟩
theorem szI1_ok {n : Nat} {l : Int} (h : 0 ≤ szI1 n l) : n ≤ l ∧ szI1 n l ≤ l := by
  unfold szI1 at *
  split at h
  · omega
  · rw [if_neg (by omega)]; omega
theorem szPressJobS_any (A : Option Addr) (n cp : Nat) (l : Int) (w : World) (hn : n ≤ 9223372036854775807) (hl : 0 ≤ l ∧ l ≤ 1048576) :
    Calls Try.prog 6 #[.slice A n cp, .int .i64 l] w fun e w' => e = .returned (.int .i64 (szI1 n l)) ∧ w = w' := by
  by_cases h : l < n
  · go_enter Try.func6, Try.ntmps6
    go_wp2
    go_ret
    exact ⟨ret_int (by rw [szI1, if_pos h]), rfl⟩
  · go_enter Try.func6, Try.ntmps6
    go_wp2
    go_ret
    exact ⟨ret_int (by rw [szI1, if_neg (by omega)]), rfl⟩
theorem szPress_any (a b c : Int) (A : Option Addr) (n cp : Nat) (l : Int) (w : World) (hn : n ≤ 9223372036854775807) (hl : 0 ≤ l ∧ l ≤ 1048576) :
    Calls Try.prog 5 #[.agg #[.int .i64 a, .int .i64 b, .int .i64 c, .slice A n cp], .int .i64 l] w fun e w' => e = .returned (.int .i64 (szI1 n l)) ∧ Below w.heap.size w w' := by
  have hz : 0 ≤ szI1 n l ∨ szI1 n l < 0 := by omega
  rcases hz with hz | hz
  · have hz2 : szI1 n l ≤ l := (szI1_ok hz).2
    go_enter Try.func5, Try.ntmps5
    go_wp2_with (go_at_call 20; refine (szIntS_any _ _ _ _ _ hn hl).mono ?_; rintro e1 w1 ⟨rfl, rfl⟩)
    go_ret
    exact ⟨rfl, (by (repeat (first | exact Below.refl _ _ | exact hb | apply Below.drew | (refine Below.alloc ?_ (by first | (simp; done) | (simp; omega) | (have := hb.size; simp at this ⊢; omega)) _) | (refine Below.setCell ?_ (by simp) _))))⟩
  · have hm : szI1 n l = -1 := by unfold szI1 at *; split at hz <;> omega
    have HM := Lib.hid hm; clear hm
    go_enter Try.func5, Try.ntmps5
    go_wp2_with (go_at_call 20; refine (szIntS_any _ _ _ _ _ hn hl).mono ?_; rintro e1 w1 ⟨rfl, rfl⟩)
    go_ret
    exact ⟨ret_int (by rw [HM.out]), (by (repeat (first | exact Below.refl _ _ | exact hb | apply Below.drew | (refine Below.alloc ?_ (by first | (simp; done) | (simp; omega) | (have := hb.size; simp at this ⊢; omega)) _) | (refine Below.setCell ?_ (by simp) _))))⟩
theorem eqPress_any (a b c : Int) (A A' : Option Addr) (n cp cp' B C : Nat) (xs : List Int) (w : World) (hr : RInts w B A n xs) (hs : RInts w C A' n xs) (hB : B ≤ w.heap.size) (hC : C ≤ w.heap.size) (hn0 : n ≤ 1048576) :
    Calls Try.prog 12 #[.agg #[.int .i64 a, .int .i64 b, .int .i64 c, .slice A n cp], .agg #[.int .i64 a, .int .i64 b, .int .i64 c, .slice A' n cp']] w fun e w' => e = .returned (.bool true) ∧ Below w.heap.size w w' := by
  have na : (a != a) = false := by simp
  have nb : (b != b) = false := by simp
  have nc : (c != c) = false := by simp
  have he : eqI xs xs = true := by simp [eqI]
  have hr2 := ((hr.more hB).alloc (Nat.le_refl _) (.cells #[.int .i64 a, .int .i64 b, .int .i64 c, .slice A n cp] 30)).alloc (by simp) (.cells #[.int .i64 a, .int .i64 b, .int .i64 c, .slice A' n cp'] 30)
  have hs2 := ((hs.more hC).alloc (Nat.le_refl _) (.cells #[.int .i64 a, .int .i64 b, .int .i64 c, .slice A n cp] 30)).alloc (by simp) (.cells #[.int .i64 a, .int .i64 b, .int .i64 c, .slice A' n cp'] 30)
  go_enter Try.func12, Try.ntmps12
  go_wp2_with fail
  refine (eqIntS_any A A' n cp n cp' _ _ xs xs _ hr2 hs2 hn0 (by omega)).mono ?_
  rintro e1 w1 ⟨rfl, hn⟩
  have hb : Below w.heap.size w w1 := Below.trans (((Below.refl _ _).alloc (Nat.le_refl _) _).alloc (by simp) _) (hn.mono (by simp <;> omega))
  clear hr2 hs2 hn
  go_wp2_with fail
  go_ret
  exact ⟨rfl, hb⟩
theorem markPress_any (a b c : Int) (A : Option Addr) (n cp B : Nat) (xs : List Int) (k : Int) (w : World) (h : Own w B (.slice A n cp) n xs) (hn : n ≤ 1048576) (hk : 0 ≤ k ∧ k ≤ 1000000000) :
    Calls Try.prog 14 #[.agg #[.int .i64 a, .int .i64 b, .int .i64 c, .slice A n cp], .int .i64 k] w fun e w' => e = .returned (.int .i64 (k + n)) ∧ Own w' B (.slice A n cp) n (seqI k n) ∧ w.grownBy w' (Value.slice A n cp).ownBlock := by
  have h1 : Own (w.alloc (.cells #[.int .i64 a, .int .i64 b, .int .i64 c, .slice A n cp] 30)) B (.slice A n cp) n xs := World.ownsRow.alloc h _
  go_enter Try.func14, Try.ntmps14
  go_wp2_with fail
  refine (markIntS_any _ _ _ _ _ _ h1 hn (by omega)).mono ?_
  rintro e1 w1 ⟨rfl, h2, hg⟩
  go_wp2_with fail
  go_ret
  exact ⟨rfl, h2, grown_trans (World.grownBy_alloc _ _ _) hg⟩
end Go.Proofs.Ytfjkmocjlmcjdaa
