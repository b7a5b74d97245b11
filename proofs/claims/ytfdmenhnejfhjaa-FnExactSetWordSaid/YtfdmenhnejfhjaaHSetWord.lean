/-
  SetWord: the program's answer is the reference's at all arguments. No condition.
-/
import Derived.Test.YtfdmenhnejfhjaaFrame
import Derived.Test.YtfdmenhnejfhjaaRows
import Derived.Test.YtfdmenhnejfhjaaOpen
import Derived.Test.YtfdmenhnejfhjaaOSort
import Derived.Test.YtfdmenhnejfhjaaOSetg
import Derived.Test.YtfdmenhnejfhjaaLSetWord
namespace Go.Proofs.Ytfdmenhnejfhjaa
open Go.ChangeShapes Go.WideShapes Go.ChangeAt Go.RowKit
open Go.ChangeMaps (open_string)

set_option maxRecDepth 100000 in
theorem liftExactSetWord (os : Os) (started : os.Started) (H : Type) (enc : TypeId × Value → H) :
    ReturnsInHanded {} Try.checked os 3 .any (Rows.fnExactSetWordSpec.pre6 enc Try.prog Try.f3 Rows.fnExactSetWordRow.domain false) (Rows.fnExactSetWordSpec.post enc Try.prog Try.f3 false true false false) :=
  law_lift started (s := Rows.fnExactSetWordSpec) [22, 26, 9] rfl (by kernel_rfl) Try.func3 rfl rfl (fun ds h => by obtain ⟨a, b, c, rfl⟩ := list3 h; rfl) (by kernel_rfl)
    (ChangeSpec.witness6 (enc := enc) (C := Try.checked) false ⟨#[], #[.slice none 0 0, .agg #[.slice none 0 0, .slice none 0 0], .string .empty], []⟩ 8 (by kernel_rfl) (by kernel_rfl) (by kernel_rfl) (by kernel_rfl))
    (fun W base vs ds p hval hA => by
        obtain ⟨v0, vs0, d0, ds0, p0, q0, rfl, rfl, rfl, h0, r0⟩ := trodAll_cons hA
        obtain ⟨v1, vs1, d1, ds1, p1, q1, rfl, rfl, rfl, h1, r1⟩ := trodAll_cons r0
        obtain ⟨v2, vs2, d2, ds2, p2, q2, rfl, rfl, rfl, h2, r2⟩ := trodAll_cons r1
        obtain ⟨rfl, rfl, rfl⟩ := trodAll_nil r2
        obtain ⟨A0, n0, c0, xs0, rfl, hr0, hn0, hX0⟩ := open_sorts (hval 0 22 v0 rfl rfl) h0
        obtain ⟨A1, n1, c1, D1, m1, e1, bs1, ss1, rfl, hr1, hn1, hX1, hs1, hm1, hY1⟩ := open_setting (hval 1 26 v1 rfl rfl) h1
        obtain ⟨x2, rfl, rfl, rfl, wf2⟩ := open_string Try.underlying9 (hval 2 9 v2 rfl rfl) h2
        exact setWordLaw W A0 n0 c0 xs0 hr0 hn0 hX0 A1 n1 c1 bs1 hr1 hn1 hX1 D1 m1 e1 ss1 hs1 hm1 hY1 x2 wf2)

theorem holdsExactSetWord : Rows.FnExactSetWordSaid :=
  OpenClaim.holds_of_wide 3 Try.f3 rfl rfl rfl rfl rfl rfl rfl ⟨rfl, rfl, rfl, rfl, rfl⟩ rfl rfl rfl rfl rfl (by kernel_rfl) Try.func3 (by kernel_rfl) (of_decide_eq_true (by kernel_rfl)) (by unfold Func.isWrapper; first | (rw [if_pos (by decide +kernel)]; kernel_rfl) | (rw [if_neg (by decide +kernel)]; exact ⟨rfl, rfl⟩))
    (fun os started H enc _ => liftExactSetWord os started H enc)
end Go.Proofs.Ytfdmenhnejfhjaa
