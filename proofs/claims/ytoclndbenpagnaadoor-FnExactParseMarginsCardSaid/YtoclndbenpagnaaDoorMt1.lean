/-
  Contracts: margins are valid; the laws' copy of margins.
-/
import Derived.Test.YtoclndbenpagnaaDoorIn
namespace Go.Proofs.YtoclndbenpagnaaDoor
open Go.RowKit
def mgB (a b c d : Int) : Bool := allB 0 300 [a, b, c, d]
theorem mgB_true {a b c d : Int} (h : mgB a b c d = true) : (0 ≤ a ∧ a ≤ 300) ∧ (0 ≤ b ∧ b ≤ 300) ∧ (0 ≤ c ∧ c ≤ 300) ∧ (0 ≤ d ∧ d ≤ 300) := by
  have h1 := allB_mem h
  exact ⟨h1 a (by simp), h1 b (by simp), h1 c (by simp), h1 d (by simp)⟩
theorem mgParts_any {a b c d : Int} {w : World} : Calls Tryd.prog 20 #[.agg #[.int .i64 a, .int .i64 b, .int .i64 c, .int .i64 d]] w fun e w' => ∃ V, e = .returned (.slice V 4 4) ∧ RInts w' w'.heap.size V 4 [a, b, c, d] ∧ Below w.heap.size w w' := by
  go_enter Tryd.func20, Tryd.ntmps20
  go_wp2_with fail
  go_ret
  refine ⟨_, rfl, ?_, (by (repeat (first | exact Below.refl _ _ | exact hb | apply Below.drew | (refine Below.alloc ?_ (by first | (simp; done) | (simp; omega) | (have := hb.size; simp at this ⊢; omega)) _) | (refine Below.setCell ?_ (by simp) _))))⟩
  have h := rints_new (w := w.alloc (.cells #[.int .i64 a, .int .i64 b, .int .i64 c, .int .i64 d] 23)) (e := 3) [a, b, c, d] #[.int .i64 a, .int .i64 b, .int .i64 c, .int .i64 d] rfl
  simpa using h
theorem mgGood_any {a b c d : Int} {w : World} : Calls Tryd.prog 13 #[.agg #[.int .i64 a, .int .i64 b, .int .i64 c, .int .i64 d]] w fun e w' => e = .returned (.bool (mgB a b c d)) ∧ Below w.heap.size w w' := by
  have hb : Below w.heap.size w (w.alloc (.cells #[.int .i64 a, .int .i64 b, .int .i64 c, .int .i64 d] 23)) := (by (repeat (first | exact Below.refl _ _ | exact hb | apply Below.drew | (refine Below.alloc ?_ (by first | (simp; done) | (simp; omega) | (have := hb.size; simp at this ⊢; omega)) _) | (refine Below.setCell ?_ (by simp) _))))
  go_enter Tryd.func13, Tryd.ntmps13
  go_wp2_with fail
  refine (mgParts_any).mono ?_
  rintro e1 w1 ⟨V, rfl, hV, hn⟩
  go_wp2_with fail
  refine (all_any _ _ _ _ _ _ _ _ hV (by omega)).mono ?_
  rintro e1 w2 ⟨rfl, rfl⟩
  go_wp2_with fail
  go_ret
  exact ⟨rfl, hb.trans (hn.mono hb.size)⟩
theorem areMargins_any {a b c d : Int} {w : World} : Calls Tryd.prog 15 #[.agg #[.int .i64 a, .int .i64 b, .int .i64 c, .int .i64 d]] w fun e w' => e = .returned (.bool (mgB a b c d)) ∧ Below w.heap.size w w' := by
  go_enter Tryd.func15, Tryd.ntmps15
  go_wp2_with (go_at_call 24; refine (within_any _ _ _ _).mono ?_; rintro e1 w1 ⟨rfl, rfl⟩)
  all_goals go_ret
  all_goals exact ⟨ret_bool (by simp_all [mgB, allB]), (by (repeat (first | exact Below.refl _ _ | exact hb | apply Below.drew | (refine Below.alloc ?_ (by first | (simp; done) | (simp; omega) | (have := hb.size; simp at this ⊢; omega)) _) | (refine Below.setCell ?_ (by simp) _))))⟩
theorem toMargins_any (a b c d : Int) (w : World) : Calls Tryd.prog 9 #[.agg #[.int .i64 a, .int .i64 b, .int .i64 c, .int .i64 d]] w fun e w' => e = .returned (.agg #[.int .i64 a, .int .i64 b, .int .i64 c, .int .i64 d]) ∧ Below w.heap.size w w' := by
  go_enter Tryd.func9, Tryd.ntmps9
  go_wp2
  exact bodyPost_ret (v := .agg #[.int .i64 a, .int .i64 b, .int .i64 c, .int .i64 d]) (by simp [results, Tryd.results9, go_sem]) rfl ⟨rfl, (by (repeat (first | exact Below.refl _ _ | exact hb | apply Below.drew | (refine Below.alloc ?_ (by first | (simp; done) | (simp; omega) | (have := hb.size; simp at this ⊢; omega)) _) | (refine Below.setCell ?_ (by simp) _))))⟩
end Go.Proofs.YtoclndbenpagnaaDoor
