/-
  Contracts: DistributeAll.
-/
import Derived.Test.YtfdmenhnejfhjaaMv1
namespace Go.Proofs.Ytfdmenhnejfhjaa
open Go.RowKit
theorem row_lower {w : World} {B B' n size : Nat} {e : TypeId} {v : Value} {xs : List Value} (h : w.ownsRow B e size v n xs) (hB : B' ≤ B) : w.ownsRow B' e size v n xs := by
  refine ⟨h.1, ?_⟩
  rcases h.2 with hn | ⟨g, cap, cur, rfl, hb, rest⟩
  · exact .inl hn
  · exact .inr ⟨g, cap, cur, rfl, by omega, rest⟩
theorem keptI_set (w : World) (b i : Nat) (u : Value) : KeptI b (b + 1) w (w.setCell ⟨b, i, none⟩ u) := ⟨rfl, rfl, rfl, by simp, fun k _ hne => Below.heap_setCell w _ u k (by simp only []; omega)⟩
theorem row_set {w : World} {B n size b i : Nat} {e : TypeId} {v u : Value} {xs : List Value} (h : w.ownsRow B e size v n xs) (hb : b < B) : (w.setCell ⟨b, i, none⟩ u).ownsRow B e size v n xs :=
  row_keptI h (keptI_set w b i u) fun k hk => by have := (h.lt k hk).1; omega
theorem own_emptyT (w : World) (B : Nat) (hB : B ≤ w.heap.size) : OwnT (w.alloc (.cells #[] 9)) B (.slice (some ⟨w.heap.size, 0, none⟩) 0 0) 0 [] :=
  (Blk.new' w 9 #[]).row (size := 1) (by simp) (by simp) hB
set_option maxRecDepth 100000 in
theorem changed_no {A A' : Option Addr} {n cp m cd : Nat} {bs : List Bx} {ss : List ByteArray} {by_ : Int} {w : World} (hr : RBxs w w.heap.size A n bs) (hn0 : n ≤ 1048576) (hcp : n ≤ cp) (hL : ∀ b ∈ bs, b.code.size ≤ 1048576) (hs : RStrs w w.heap.size A' m ss) (hm0 : m ≤ 1048576) (hask : askB bs ss = false) :
    Calls Try.prog 61 #[.slice A n cp, .slice A' m cd, .int .i64 by_] w fun e w' => ∃ V C, e = .returned (.tuple #[.slice V 0 C, .bool false]) ∧ w'.ownsRow w.heap.size 71 4 (.slice V 0 C) 0 (([] : List Bx).map Bx.row).flatten ∧ Below w.heap.size w w' := by
  go_enter Try.func61, Try.ntmps61
  go_wp2_with fail
  refine (areCodes_any hr hn0 hcp hL hs hm0).mono ?_
  rintro e1 w1 ⟨rfl, hb1⟩
  rw [hask]
  clear hask
  go_wp2_with fail
  go_ret2
  exact ⟨some ⟨w1.heap.size, 0, none⟩, 0, rfl, own_emptyB w1 w.heap.size hb1.size, hb1.alloc hb1.size _⟩
def mvG (by_ : Int) (bs : List Bx) (ss : List ByteArray) : Bool := askB bs ss && caseB (movF by_ ss bs)
def mvV (by_ : Int) (bs : List Bx) (ss : List ByteArray) : List Bx := if mvG by_ bs ss then movF by_ ss bs else []
theorem changed_full {A A' : Option Addr} {n cp m cd : Nat} {bs : List Bx} {ss : List ByteArray} {by_ : Int} {w : World} (hr : RBxs w w.heap.size A n bs) (hn0 : n ≤ 1048576) (hcp : n ≤ cp) (hL : ∀ b ∈ bs, b.code.size ≤ 1048576) (hs : RStrs w w.heap.size A' m ss) (hm0 : m ≤ 1048576) (hby : by_ = 1 ∨ by_ = -1) :
    Calls Try.prog 61 #[.slice A n cp, .slice A' m cd, .int .i64 by_] w fun e w' => ∃ V N C, e = .returned (.tuple #[.slice V N C, .bool (mvG by_ bs ss)]) ∧ w'.ownsRow w.heap.size 71 4 (.slice V N C) N ((mvV by_ bs ss).map Bx.row).flatten ∧ N ≤ 32 ∧ Below w.heap.size w w' := by
  cases h : askB bs ss
  · refine (changed_no hr hn0 hcp hL hs hm0 h).mono ?_
    rintro e1 w1 ⟨V, C, rfl, ho, hb⟩
    have h1 : mvG by_ bs ss = false := by rw [mvG, h]; rfl
    exact ⟨V, 0, C, by rw [h1], by rw [mvV, h1]; exact ho, by omega, hb⟩
  · refine (changed_any hr hn0 hcp hL hs hm0 hby h).mono ?_
    rintro e1 w1 ⟨V, N, C, rfl, ho, hN, hb⟩
    have h1 : mvG by_ bs ss = caseB (movF by_ ss bs) := by rw [mvG, h]; rfl
    exact ⟨V, N, C, by rw [h1], by rw [mvV, h1]; exact ho, hN, hb⟩
end Go.Proofs.Ytfdmenhnejfhjaa
