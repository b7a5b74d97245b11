/-
  The size of a list of folds.
-/
import Derived.Test.YtaalfmijpbnpkaaSFold
namespace Go.Proofs.Ytaalfmijpbnpkaa
open Go.RowKit
def szI1 (n : Nat) (l : Int) : Int := if l < n then -1 else l - n
theorem szI1_ok {n : Nat} {l : Int} (h : 0 ≤ szI1 n l) : n ≤ l ∧ szI1 n l ≤ l := by
  unfold szI1 at *
  split at h
  · omega
  · rw [if_neg (by omega)]; omega
theorem szFoldS_any (A : Option Addr) (n cp : Nat) (l : Int) (w : World) (hn : n ≤ 9223372036854775807) (hl : 0 ≤ l ∧ l ≤ 1048576) :
    Calls Try.prog 7 #[.slice A n cp, .int .i64 l] w fun e w' => e = .returned (.int .i64 (szI1 n l)) ∧ w = w' := by
  by_cases h : l < n
  · go_enter Try.func7, Try.ntmps7
    go_wp2
    go_ret
    exact ⟨ret_int (by rw [szI1, if_pos h]), rfl⟩
  · go_enter Try.func7, Try.ntmps7
    go_wp2
    go_ret
    exact ⟨ret_int (by rw [szI1, if_neg (by omega)]), rfl⟩
end Go.Proofs.Ytaalfmijpbnpkaa
