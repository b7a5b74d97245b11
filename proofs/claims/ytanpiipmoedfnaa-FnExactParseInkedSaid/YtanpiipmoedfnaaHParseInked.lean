/-
  ParseInked: the program's answer is the reference's at all arguments. No condition.
-/
import Derived.Test.YtanpiipmoedfnaaFrame
import Derived.Test.YtanpiipmoedfnaaRows
import Derived.Test.YtanpiipmoedfnaaCol6
namespace Go.Proofs.Ytanpiipmoedfnaa
open Go.ChangeShapes Go.WideShapes Go.ChangeAt Go.RowKit
open Go.ChangeMaps (open_string)

set_option maxRecDepth 100000 in
theorem liftExactParseInked (os : Os) (started : os.Started) (H : Type) (enc : TypeId × Value → H) :
    ReturnsInHanded {} Try.checked os 5 .any (Rows.fnExactParseInkedSpec.pre6 enc Try.prog Try.f5 Rows.fnExactParseInkedRow.domain false) (Rows.fnExactParseInkedSpec.post enc Try.prog Try.f5 false true false false) :=
  law_lift started (s := Rows.fnExactParseInkedSpec) [9] rfl (by kernel_rfl) Try.func5 rfl rfl (fun ds h => by obtain ⟨a, rfl⟩ := list1 h; rfl) (by kernel_rfl)
    (ChangeSpec.witness6 (enc := enc) (C := Try.checked) false ⟨#[], #[.string .empty], []⟩ 8 (by kernel_rfl) (by kernel_rfl) (by kernel_rfl) (by kernel_rfl))
    (fun W base vs ds p hval hA => by
        obtain ⟨v0, vs0, d0, ds0, p0, q0, rfl, rfl, rfl, h0, r0⟩ := trodAll_cons hA
        obtain ⟨rfl, rfl, rfl⟩ := trodAll_nil r0
        obtain ⟨x0, rfl, rfl, rfl, wf0⟩ := open_string Try.underlying9 (hval 0 9 v0 rfl rfl) h0
        exact parseLaw W x0 wf0)

theorem holdsExactParseInked : Rows.FnExactParseInkedSaid :=
  OpenClaim.holds_of_wide 5 Try.f5 rfl rfl rfl rfl rfl rfl rfl ⟨rfl, rfl, rfl, rfl, rfl⟩ rfl rfl rfl rfl rfl (by kernel_rfl) Try.func5 (by kernel_rfl) (of_decide_eq_true (by kernel_rfl)) (by unfold Func.isWrapper; first | (rw [if_pos (by decide +kernel)]; kernel_rfl) | (rw [if_neg (by decide +kernel)]; exact ⟨rfl, rfl⟩))
    (fun os started H enc _ => liftExactParseInked os started H enc)
end Go.Proofs.Ytanpiipmoedfnaa
