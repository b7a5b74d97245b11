/-
  LayFormes: the program's answer is the reference's at all arguments. No condition.
-/
import Derived.Test.YtanpiipmoedfnaaFrame
import Derived.Test.YtanpiipmoedfnaaRows
import Derived.Test.YtanpiipmoedfnaaCol7
namespace Go.Proofs.Ytanpiipmoedfnaa
open Go.ChangeShapes Go.WideShapes Go.ChangeAt Go.RowKit
open Go.ChangeMaps (open_string)

set_option maxRecDepth 100000 in
theorem liftExactLayFormes (os : Os) (started : os.Started) (H : Type) (enc : TypeId × Value → H) :
    ReturnsInHanded {} Try.checked os 4 .any (Rows.fnExactLayFormesSpec.pre6 enc Try.prog Try.f4 Rows.fnExactLayFormesRow.domain false) (Rows.fnExactLayFormesSpec.post enc Try.prog Try.f4 false true false false) :=
  law_lift started (s := Rows.fnExactLayFormesSpec) [9, 9] rfl (by kernel_rfl) Try.func4 rfl rfl (fun ds h => by obtain ⟨a, b, rfl⟩ := list2 h; rfl) (by kernel_rfl)
    (ChangeSpec.witness6 (enc := enc) (C := Try.checked) false ⟨#[], #[.string .empty, .string .empty], []⟩ 8 (by kernel_rfl) (by kernel_rfl) (by kernel_rfl) (by kernel_rfl))
    (fun W base vs ds p hval hA => by
        obtain ⟨v0, vs0, d0, ds0, p0, q0, rfl, rfl, rfl, h0, r0⟩ := trodAll_cons hA
        obtain ⟨v1, vs1, d1, ds1, p1, q1, rfl, rfl, rfl, h1, r1⟩ := trodAll_cons r0
        obtain ⟨rfl, rfl, rfl⟩ := trodAll_nil r1
        obtain ⟨x0, rfl, rfl, rfl, wf0⟩ := open_string Try.underlying9 (hval 0 9 v0 rfl rfl) h0
        obtain ⟨x1, rfl, rfl, rfl, wf1⟩ := open_string Try.underlying9 (hval 1 9 v1 rfl rfl) h1
        exact layLaw W x0 wf0 x1 wf1)

theorem holdsExactLayFormes : Rows.FnExactLayFormesSaid :=
  OpenClaim.holds_of_wide 4 Try.f4 rfl rfl rfl rfl rfl rfl rfl ⟨rfl, rfl, rfl, rfl, rfl⟩ rfl rfl rfl rfl rfl (by kernel_rfl) Try.func4 (by kernel_rfl) (of_decide_eq_true (by kernel_rfl)) (by unfold Func.isWrapper; first | (rw [if_pos (by decide +kernel)]; kernel_rfl) | (rw [if_neg (by decide +kernel)]; exact ⟨rfl, rfl⟩))
    (fun os started H enc _ => liftExactLayFormes os started H enc)
end Go.Proofs.Ytanpiipmoedfnaa
