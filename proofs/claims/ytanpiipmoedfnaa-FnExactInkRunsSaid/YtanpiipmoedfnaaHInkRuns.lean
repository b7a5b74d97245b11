/-
  InkRuns: the program's answer is the reference's at all arguments. No condition.
-/
import Derived.Test.YtanpiipmoedfnaaFrame
import Derived.Test.YtanpiipmoedfnaaRows
import Derived.Test.YtanpiipmoedfnaaLInkRuns
import Derived.Test.YtanpiipmoedfnaaColO
namespace Go.Proofs.Ytanpiipmoedfnaa
open Go.ChangeShapes Go.WideShapes Go.ChangeAt Go.RowKit
open Go.ChangeMaps (open_string)

set_option maxRecDepth 100000 in
theorem liftExactInkRuns (os : Os) (started : os.Started) (H : Type) (enc : TypeId × Value → H) :
    ReturnsInHanded {} Try.checked os 10 .any (Rows.fnExactInkRunsSpec.pre6 enc Try.prog Try.f10 Rows.fnExactInkRunsRow.domain false) (Rows.fnExactInkRunsSpec.post enc Try.prog Try.f10 false true false false) :=
  law_lift started (s := Rows.fnExactInkRunsSpec) [23] rfl (by kernel_rfl) Try.func10 rfl rfl (fun ds h => by obtain ⟨a, rfl⟩ := list1 h; rfl) (by kernel_rfl)
    (ChangeSpec.witness6 (enc := enc) (C := Try.checked) false ⟨#[], #[.agg #[.string .empty, .string .empty]], []⟩ 8 (by kernel_rfl) (by kernel_rfl) (by kernel_rfl) (by kernel_rfl))
    (fun W base vs ds p hval hA => by
        obtain ⟨v0, vs0, d0, ds0, p0, q0, rfl, rfl, rfl, h0, r0⟩ := trodAll_cons hA
        obtain ⟨rfl, rfl, rfl⟩ := trodAll_nil r0
        obtain ⟨t0, i0, rfl, ht0, hi0⟩ := open_inked (hval 0 23 v0 rfl rfl) h0
        exact inkRunsLaw W t0 i0 ht0 hi0)

theorem holdsExactInkRuns : Rows.FnExactInkRunsSaid :=
  OpenClaim.holds_of_wide 10 Try.f10 rfl rfl rfl rfl rfl rfl rfl ⟨rfl, rfl, rfl, rfl, rfl⟩ rfl rfl rfl rfl rfl (by kernel_rfl) Try.func10 (by kernel_rfl) (of_decide_eq_true (by kernel_rfl)) (by unfold Func.isWrapper; first | (rw [if_pos (by decide +kernel)]; kernel_rfl) | (rw [if_neg (by decide +kernel)]; exact ⟨rfl, rfl⟩))
    (fun os started H enc _ => liftExactInkRuns os started H enc)
end Go.Proofs.Ytanpiipmoedfnaa
