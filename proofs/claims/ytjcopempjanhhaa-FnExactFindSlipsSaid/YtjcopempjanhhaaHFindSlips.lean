/-
  FindSlips: the program's answer is the reference's at all arguments. No condition.
-/
import Derived.Test.YtjcopempjanhhaaFrame
import Derived.Test.YtjcopempjanhhaaRows
import Derived.Test.YtjcopempjanhhaaOpen
import Derived.Test.YtjcopempjanhhaaOBox
import Derived.Test.YtjcopempjanhhaaLFindSlips
namespace Go.Proofs.Ytjcopempjanhhaa
open Go.ChangeShapes Go.WideShapes Go.ChangeAt Go.RowKit
open Go.ChangeMaps (open_string)

set_option maxRecDepth 100000 in
theorem liftExactFindSlips (os : Os) (started : os.Started) (H : Type) (enc : TypeId × Value → H) :
    ReturnsInHanded {} Try.checked os 7 .any (Rows.fnExactFindSlipsSpec.pre6 enc Try.prog Try.f7 Rows.fnExactFindSlipsRow.domain false) (Rows.fnExactFindSlipsSpec.post enc Try.prog Try.f7 false true false false) :=
  law_lift started (s := Rows.fnExactFindSlipsSpec) [23, 23] rfl (by kernel_rfl) Try.func7 rfl rfl (fun ds h => by obtain ⟨a, b, rfl⟩ := list2 h; rfl) (by kernel_rfl)
    (ChangeSpec.witness6 (enc := enc) (C := Try.checked) false ⟨#[], #[.slice none 0 0, .slice none 0 0], []⟩ 8 (by kernel_rfl) (by kernel_rfl) (by kernel_rfl) (by kernel_rfl))
    (fun W base vs ds p hval hA => by
        obtain ⟨v0, vs0, d0, ds0, p0, q0, rfl, rfl, rfl, h0, r0⟩ := trodAll_cons hA
        obtain ⟨v1, vs1, d1, ds1, p1, q1, rfl, rfl, rfl, h1, r1⟩ := trodAll_cons r0
        obtain ⟨rfl, rfl, rfl⟩ := trodAll_nil r1
        obtain ⟨A0, n0, c0, xs0, rfl, hr0, hn0, hX0⟩ := open_boxs (hval 0 23 v0 rfl rfl) h0
        obtain ⟨A1, n1, c1, xs1, rfl, hr1, hn1, hX1⟩ := open_boxs (hval 1 23 v1 rfl rfl) h1
        exact findSlipsLaw W A0 n0 c0 xs0 hr0 hn0 hX0 A1 n1 c1 xs1 hr1 hn1 hX1)

theorem holdsExactFindSlips : Rows.FnExactFindSlipsSaid :=
  OpenClaim.holds_of_wide 7 Try.f7 rfl rfl rfl rfl rfl rfl rfl ⟨rfl, rfl, rfl, rfl, rfl⟩ rfl rfl rfl rfl rfl (by kernel_rfl) Try.func7 (by kernel_rfl) (of_decide_eq_true (by kernel_rfl)) (by unfold Func.isWrapper; first | (rw [if_pos (by decide +kernel)]; kernel_rfl) | (rw [if_neg (by decide +kernel)]; exact ⟨rfl, rfl⟩))
    (fun os started H enc _ => liftExactFindSlips os started H enc)
end Go.Proofs.Ytjcopempjanhhaa
