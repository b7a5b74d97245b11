/-
  IsTariff: the program's answer is the reference's at all arguments. No condition.
-/
import Derived.Test.YtggdpmipfhfegaaFrame
import Derived.Test.YtggdpmipfhfegaaRows
import Derived.Test.YtggdpmipfhfegaaLaws
namespace Go.Proofs.Ytggdpmipfhfegaa
open Go.ChangeShapes Go.WideShapes Go.ChangeAt Go.RowKit
open Go.ChangeMaps (open_string)

set_option maxRecDepth 100000 in
theorem liftExactIsTariff (os : Os) (started : os.Started) (H : Type) (enc : TypeId × Value → H) :
    ReturnsInHanded {} Try.checked os 6 .any (Rows.fnExactIsTariffSpec.pre6 enc Try.prog Try.f6 Rows.fnExactIsTariffRow.domain false) (Rows.fnExactIsTariffSpec.post enc Try.prog Try.f6 false true false false) :=
  law_lift started (s := Rows.fnExactIsTariffSpec) [30] rfl (by kernel_rfl) Try.func6 rfl rfl (fun ds h => by obtain ⟨a, rfl⟩ := list1 h; rfl) (by kernel_rfl)
    (ChangeSpec.witness6 (enc := enc) (C := Try.checked) false ⟨#[], #[.agg #[.int .i64 0, .int .i64 0, .int .i64 0, .int .i64 0]], []⟩ 8 (by kernel_rfl) (by kernel_rfl) (by kernel_rfl) (by kernel_rfl))
    (fun W base vs ds p hval hA => by
        obtain ⟨v0, vs0, d0, ds0, p0, q0, rfl, rfl, rfl, h0, r0⟩ := trodAll_cons hA
        obtain ⟨rfl, rfl, rfl⟩ := trodAll_nil r0
        obtain ⟨x0a, x0b, x0c, x0d, rfl, wf0a, wf0b, wf0c, wf0d⟩ := open_i4 Try.underlying30 (by kernel_rfl) (by kernel_rfl) rfl rfl rfl rfl (hval 0 30 v0 rfl rfl) h0
        exact isTariffLaw W x0a x0b x0c x0d (i64_of_wf wf0a) (i64_of_wf wf0b) (i64_of_wf wf0c) (i64_of_wf wf0d))

theorem holdsExactIsTariff : Rows.FnExactIsTariffSaid :=
  OpenClaim.holds_of_wide 6 Try.f6 rfl rfl rfl rfl rfl rfl rfl ⟨rfl, rfl, rfl, rfl, rfl⟩ rfl rfl rfl rfl rfl (by kernel_rfl) Try.func6 (by kernel_rfl) (of_decide_eq_true (by kernel_rfl)) (by unfold Func.isWrapper; first | (rw [if_pos (by decide +kernel)]; kernel_rfl) | (rw [if_neg (by decide +kernel)]; exact ⟨rfl, rfl⟩))
    (fun os started H enc _ => liftExactIsTariff os started H enc)
end Go.Proofs.Ytggdpmipfhfegaa
