/-
  Contracts: SafeOrder and StuckForms.
-/
import Derived.Test.YtfemacefkaehjaaSt7
namespace Go.Proofs.Ytfemacefkaehjaa
open Go.RowKit
theorem ordF_ok {fs : List Frm} : ∀ (f : Nat) (fr out : List Int), OutOk fs.length out → OutOk fs.length (ordF fs f fr out)
  | 0, _, _, h => h
  | f + 1, fr, out, h => by
    rw [ordF]
    cases hq : firstQ fs fr out fs.length 0 with
    | none => exact h
    | some j =>
      obtain ⟨h1, _, h3⟩ := firstQ_some hq
      exact ordF_ok f _ _ (h.snoc (by omega) (by simp [qual] at h1; exact h1.1))
theorem resF_ok (fs : List Frm) (fr : List Int) : OutOk fs.length (resF fs fr []) := ordF_ok _ _ _ ⟨by simp, by simp⟩
def soG (fr : List Int) (fs : List Frm) : Bool := stG fr fs && decide ((resF fs fr []).length = fs.length)
def soV (fr : List Int) (fs : List Frm) : List Int := if soG fr fs then resF fs fr [] else []
theorem isSafe_any {A B : Option Addr} {n c m d : Nat} {fr : List Int} {fs : List Frm} {w : World} (hr : RInts w w.heap.size A n fr) (hn0 : n ≤ 6) (hn1 : 1 ≤ n) (hs : AForms w B m fs) (hm0 : m ≤ 8) (hok : ∀ f ∈ fs, (f.held.length = n ∧ ∀ x ∈ f.held, 0 ≤ x ∧ x ≤ 1000) ∧ (f.wanted.length = n ∧ ∀ x ∈ f.wanted, 0 ≤ x ∧ x ≤ 1000)) (hfr : ∀ x ∈ fr, 0 ≤ x ∧ x ≤ 100000) :
    Calls Try.prog 27 #[.slice A n c, .slice B m d] w fun e w' => e = .returned (.bool (decide ((resF fs fr []).length = fs.length))) ∧ Below w.heap.size w w' := by
  have HM := Lib.hid hs.len
  have HOK := Lib.hid hok
  have HFB := Lib.hid hfr
  clear hok hfr
  go_enter Try.func27, Try.ntmps27
  go_wp2_with fail
  refine (finishing_any hr hn0 hn1 hs hm0 HOK.out HFB.out).mono ?_
  rintro e1 w2 ⟨V, N, C, rfl, ho, hN, hn⟩
  have HN := Lib.hid (own_len ho)
  clear ho
  by_cases h2 : N = m
  · have e1 : ((N : Int) == (m : Int)) = true := by simp [h2]
    have HG := Lib.hid (show decide ((resF fs fr []).length = fs.length) = true by simp; have := HN.out; have := HM.out; omega)
    clear h2
    go_wp2_with fail
    go_ret
    exact ⟨ret_bool HG.out.symm, hn⟩
  · have e1 : ((N : Int) == (m : Int)) = false := by rw [beq_eq_false_iff_ne]; omega
    have HG := Lib.hid (show decide ((resF fs fr []).length = fs.length) = false by simp; have := HN.out; have := HM.out; omega)
    clear h2
    go_wp2_with fail
    go_ret
    exact ⟨ret_bool HG.out.symm, hn⟩
def stuckL (out : List Int) : Nat → Nat → List Int
  | 0, _ => []
  | k + 1, i => if (i : Int) ∈ out then stuckL out k (i + 1) else (i : Int) :: stuckL out k (i + 1)
theorem stuckL_step {out zs R : List Int} {n i : Nat} (h : i < n) (hR : zs ++ stuckL out (n - i) i = R) : ((i : Int) ∈ out → zs ++ stuckL out (n - (i + 1)) (i + 1) = R) ∧ (¬ (i : Int) ∈ out → (zs ++ [(i : Int)]) ++ stuckL out (n - (i + 1)) (i + 1) = R) := by
  rw [show n - i = (n - (i + 1)) + 1 by omega, stuckL] at hR
  constructor
  · intro hm; rw [if_pos hm] at hR; exact hR
  · intro hm; rw [if_neg hm] at hR; rw [← hR, List.append_assoc]; rfl
def sfV (fr : List Int) (fs : List Frm) : List Int := if stG fr fs then stuckL (resF fs fr []) fs.length 0 else []
end Go.Proofs.Ytfemacefkaehjaa
