/-
  IsSafeGift: the program's answer is the reference's at all arguments. No condition.
-/
import Derived.Test.YtfemacefkaehjaaFrame
import Derived.Test.YtfemacefkaehjaaRows
import Derived.Test.YtfemacefkaehjaaOpen
import Derived.Test.YtfemacefkaehjaaOForm
import Derived.Test.YtfemacefkaehjaaLIsSafeGift
namespace Go.Proofs.Ytfemacefkaehjaa
open Go.ChangeShapes Go.WideShapes Go.ChangeAt Go.RowKit
open Go.ChangeMaps (open_string)

set_option maxRecDepth 100000 in
theorem liftExactIsSafeGift (os : Os) (started : os.Started) (H : Type) (enc : TypeId × Value → H) :
    ReturnsInHanded {} Try.checked os 4 .any (Rows.fnExactIsSafeGiftSpec.pre6 enc Try.prog Try.f4 Rows.fnExactIsSafeGiftRow.domain false) (Rows.fnExactIsSafeGiftSpec.post enc Try.prog Try.f4 false true false false) :=
  law_lift started (s := Rows.fnExactIsSafeGiftSpec) [22, 23, 3, 22] rfl (by kernel_rfl) Try.func4 rfl rfl (fun ds h => by obtain ⟨a, b, c, d, rfl⟩ := list4 h; rfl) (by kernel_rfl)
    (ChangeSpec.witness6 (enc := enc) (C := Try.checked) false ⟨#[], #[.slice none 0 0, .slice none 0 0, .int .i64 0, .slice none 0 0], []⟩ 8 (by kernel_rfl) (by kernel_rfl) (by kernel_rfl) (by kernel_rfl))
    (fun W base vs ds p hval hA => by
        obtain ⟨v0, vs0, d0, ds0, p0, q0, rfl, rfl, rfl, h0, r0⟩ := trodAll_cons hA
        obtain ⟨v1, vs1, d1, ds1, p1, q1, rfl, rfl, rfl, h1, r1⟩ := trodAll_cons r0
        obtain ⟨v2, vs2, d2, ds2, p2, q2, rfl, rfl, rfl, h2, r2⟩ := trodAll_cons r1
        obtain ⟨v3, vs3, d3, ds3, p3, q3, rfl, rfl, rfl, h3, r3⟩ := trodAll_cons r2
        obtain ⟨rfl, rfl, rfl⟩ := trodAll_nil r3
        obtain ⟨A0, n0, c0, xs0, rfl, hr0, hn0, hw0⟩ := open_rints Try.underlying22 (hval 0 22 v0 rfl rfl) h0
        obtain ⟨A1, n1, c1, xs1, rfl, hr1, hn1, hX1⟩ := open_forms (hval 1 23 v1 rfl rfl) h1
        obtain ⟨x2, rfl, rfl, rfl, wf2⟩ := open_int Try.underlying3 (hval 2 3 v2 rfl rfl) h2
        obtain ⟨A3, n3, c3, xs3, rfl, hr3, hn3, hw3⟩ := open_rints Try.underlying22 (hval 3 22 v3 rfl rfl) h3
        exact isSafeGiftLaw W A0 n0 c0 xs0 hr0 hn0 hw0 A1 n1 c1 xs1 hr1 hn1 hX1 x2 (i64_of_wf wf2) A3 n3 c3 xs3 hr3 hn3 hw3)

theorem holdsExactIsSafeGift : Rows.FnExactIsSafeGiftSaid :=
  OpenClaim.holds_of_wide 4 Try.f4 rfl rfl rfl rfl rfl rfl rfl ⟨rfl, rfl, rfl, rfl, rfl⟩ rfl rfl rfl rfl rfl (by kernel_rfl) Try.func4 (by kernel_rfl) (of_decide_eq_true (by kernel_rfl)) (by unfold Func.isWrapper; first | (rw [if_pos (by decide +kernel)]; kernel_rfl) | (rw [if_neg (by decide +kernel)]; exact ⟨rfl, rfl⟩))
    (fun os started H enc _ => liftExactIsSafeGift os started H enc)
end Go.Proofs.Ytfemacefkaehjaa
