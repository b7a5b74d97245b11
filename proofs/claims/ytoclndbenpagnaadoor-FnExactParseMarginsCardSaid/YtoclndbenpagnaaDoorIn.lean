/-
  Contracts of the small checks on ints that are used everywhere.
-/
import Derived.Test.YtoclndbenpagnaaDoorOwn
import Derived.Deep.QuietTactic
import Derived.BigQuiet
namespace Go.Proofs.YtoclndbenpagnaaDoor
open Go.RowKit
theorem in_any (n lo hi : Int) (w : World) : Calls Tryd.prog 18 #[.int .i64 n, .int .i64 lo, .int .i64 hi] w fun e w' => e = .returned (.bool (inB n lo hi)) ∧ w = w' := by
  go_enter Tryd.func18, Tryd.ntmps18
  go_wp2
  all_goals go_ret
  all_goals exact ⟨ret_bool (by simp [inB]; omega), rfl⟩
theorem within_any (n lo hi : Int) (w : World) : Calls Tryd.prog 24 #[.int .i64 n, .int .i64 lo, .int .i64 hi] w fun e w' => e = .returned (.bool (inB n lo hi)) ∧ w = w' := by
  go_enter Tryd.func24, Tryd.ntmps24
  go_wp2
  all_goals go_ret
  all_goals exact ⟨ret_bool (by simp [inB]; omega), rfl⟩
theorem allB_mem {lo hi : Int} {xs : List Int} (h : allB lo hi xs = true) : ∀ x ∈ xs, lo ≤ x ∧ x ≤ hi := by
  induction xs with
  | nil => simp
  | cons y r ih =>
    simp only [allB, Bool.and_eq_true] at h
    intro x hx
    rcases List.mem_cons.1 hx with rfl | hx
    · exact inB_true.1 h.1
    · exact ih h.2 x hx
theorem drop_end {α : Type _} {xs : List α} {n k : Nat} (hl : xs.length = n) (h : ¬ k < n) : xs.drop k = [] := List.drop_of_length_le (by omega)
theorem new_one (w : World) (g : Nat) (hg : g = w.heap.size) (v : Value) (t : TypeId) : ∀ (j : Nat) (u : Value), [v][j]? = some u → (w.alloc (.cells #[v] t)).cell? ((⟨g, 0, none⟩ : Addr).add j) = some u := by
  subst hg
  intro j u hj
  rw [Addr.add_lit, cell_of_row _ _ _ _ _ _ (heap_alloc_new w _)]
  simpa using hj
/-- What an append leaves: all below the row's own base. -/
theorem below_grown {w w1 : World} {base : Nat} {e : TypeId} {size : Nat} {v : Value} {n : Nat} {xs : List Value} (h : w.ownsRow base e size v n xs) (hB : base ≤ w.heap.size) (hg : w.grownBy w1 v.ownBlock) : Below base w w1 :=
  (Below.refl base w).grown hg hB (fun k hk => (h.lt k hk).1)
theorem own_app {w : World} {B n : Nat} {v : Value} {xs : List Int} {z : Int} (h : w.ownsRow B 3 1 v (n + 1) (xs.map (Value.int .i64) ++ [.int .i64 z])) : Own w B v (n + 1) (xs ++ [z]) := by
  unfold Own
  rw [List.map_append]
  exact h
theorem own_empty (w : World) (B : Nat) (hB : B ≤ w.heap.size) : Own (w.alloc (.cells #[] 3)) B (.slice (some ⟨w.heap.size, 0, none⟩) 0 0) 0 [] :=
  (Blk.new' w 3 #[]).row (size := 1) (by simp) (by simp) hB
theorem own_nil (w : World) (B : Nat) : Own w B (.slice none 0 0) 0 [] := World.ownsRow_nil _ _ _ _
theorem own_lower {w : World} {B B' n : Nat} {v : Value} {xs : List Int} (h : Own w B v n xs) (hB : B' ≤ B) : Own w B' v n xs := by
  refine ⟨h.1, ?_⟩
  rcases h.2 with hn | ⟨g, cap, cur, rfl, hb, rest⟩
  · exact .inl hn
  · exact .inr ⟨g, cap, cur, rfl, by omega, rest⟩
theorem all_any (A : Option Addr) (n c B : Nat) (xs : List Int) (lo hi : Int) (w : World) (hr : RInts w B A n xs) (hn : n ≤ 1048576) :
    Calls Tryd.prog 19 #[.slice A n c, .int .i64 lo, .int .i64 hi] w fun e w' => e = .returned (.bool (allB lo hi xs)) ∧ w = w' := by
  go_enter Tryd.func19, Tryd.ntmps19
  go_wp2
  have HL := Lib.hid hr.len
  go_loop [11] (fun i => ∃ k : Nat, k ≤ n ∧ i = .int .i64 k ∧ allB lo hi (xs.drop k) = allB lo hi xs) (fun i => n - (intOf i).toNat)
  case atStart => exact ⟨0, Nat.zero_le _, rfl, rfl⟩
  case round =>
    obtain ⟨k, hk, rfl, hR⟩ := hrel
    have HR := Lib.hid hR; clear hR
    by_cases hlt : k < n
    · obtain ⟨ad, y, rfl, _, hd, _, hc⟩ := hr.at_ hlt
      have HD := Lib.hid hd; clear hd
      go_wp2_with (go_at_call 18; refine (in_any _ _ _ _).mono ?_; rintro e1 w1 ⟨rfl, rfl⟩)
      · go_ret
        exact ⟨ret_bool (by rw [← HR.out, HD.out]; simp_all [allB]), rfl⟩
      · go_round
        case rel => exact ⟨k + 1, by omega, by go_num, by rw [← HR.out, HD.out]; simp_all [allB]⟩
        case measure => simp [intOf]; omega
    · go_wp2
      go_ret
      exact ⟨ret_bool (by rw [← HR.out, drop_end HL.out hlt]; rfl), rfl⟩
end Go.Proofs.YtoclndbenpagnaaDoor
