/-
  LostTypes: the program's answer is the reference's at all arguments. No condition.
-/
import Derived.Test.YtjcopempjanhhaaFrame
import Derived.Test.YtjcopempjanhhaaRows
import Derived.Test.YtjcopempjanhhaaOpen
import Derived.Test.YtjcopempjanhhaaOBox
import Derived.Test.YtjcopempjanhhaaOSetg
import Derived.Test.YtjcopempjanhhaaLLostTypes
namespace Go.Proofs.Ytjcopempjanhhaa
open Go.ChangeShapes Go.WideShapes Go.ChangeAt Go.RowKit
open Go.ChangeMaps (open_string)

set_option maxRecDepth 100000 in
theorem liftExactLostTypes (os : Os) (started : os.Started) (H : Type) (enc : TypeId × Value → H) :
    ReturnsInHanded {} Try.checked os 11 .any (Rows.fnExactLostTypesSpec.pre6 enc Try.prog Try.f11 Rows.fnExactLostTypesRow.domain false) (Rows.fnExactLostTypesSpec.post enc Try.prog Try.f11 false true false false) :=
  law_lift started (s := Rows.fnExactLostTypesSpec) [23, 26] rfl (by kernel_rfl) Try.func11 rfl rfl (fun ds h => by obtain ⟨a, b, rfl⟩ := list2 h; rfl) (by kernel_rfl)
    (ChangeSpec.witness6 (enc := enc) (C := Try.checked) false ⟨#[], #[.slice none 0 0, .agg #[.slice none 0 0, .slice none 0 0]], []⟩ 8 (by kernel_rfl) (by kernel_rfl) (by kernel_rfl) (by kernel_rfl))
    (fun W base vs ds p hval hA => by
        obtain ⟨v0, vs0, d0, ds0, p0, q0, rfl, rfl, rfl, h0, r0⟩ := trodAll_cons hA
        obtain ⟨v1, vs1, d1, ds1, p1, q1, rfl, rfl, rfl, h1, r1⟩ := trodAll_cons r0
        obtain ⟨rfl, rfl, rfl⟩ := trodAll_nil r1
        obtain ⟨A0, n0, c0, xs0, rfl, hr0, hn0, hX0⟩ := open_boxs (hval 0 23 v0 rfl rfl) h0
        obtain ⟨A1, n1, c1, D1, m1, e1, bs1, ss1, rfl, hr1, hn1, hX1, hs1, hm1, hY1⟩ := open_setting (hval 1 26 v1 rfl rfl) h1
        exact lostTypesLaw W A0 n0 c0 xs0 hr0 hn0 hX0 A1 n1 c1 bs1 hr1 hn1 hX1 D1 m1 e1 ss1 hs1 hm1 hY1)

theorem holdsExactLostTypes : Rows.FnExactLostTypesSaid :=
  OpenClaim.holds_of_wide 11 Try.f11 rfl rfl rfl rfl rfl rfl rfl ⟨rfl, rfl, rfl, rfl, rfl⟩ rfl rfl rfl rfl rfl (by kernel_rfl) Try.func11 (by kernel_rfl) (of_decide_eq_true (by kernel_rfl)) (by unfold Func.isWrapper; first | (rw [if_pos (by decide +kernel)]; kernel_rfl) | (rw [if_neg (by decide +kernel)]; exact ⟨rfl, rfl⟩))
    (fun os started H enc _ => liftExactLostTypes os started H enc)
end Go.Proofs.Ytjcopempjanhhaa
