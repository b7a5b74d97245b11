/-
  PaperFor: the program's answer is the reference's at all arguments. No condition.
-/
import Derived.Test.YtfgnjokiadlieaaFrame
import Derived.Test.YtfgnjokiadlieaaRows
import Derived.Test.YtfgnjokiadlieaaOpen
import Derived.Test.YtfgnjokiadlieaaOPressJob
import Derived.Test.YtfgnjokiadlieaaLPaperFor
namespace Go.Proofs.Ytfgnjokiadlieaa
open Go.ChangeShapes Go.WideShapes Go.ChangeAt Go.RowKit
open Go.ChangeMaps (open_string)

set_option maxRecDepth 100000 in
theorem liftExactPaperFor (os : Os) (started : os.Started) (H : Type) (enc : TypeId × Value → H) :
    ReturnsInHanded {} Try.checked os 9 .any (Rows.fnExactPaperForSpec.pre6 enc Try.prog Try.f9 Rows.fnExactPaperForRow.domain false) (Rows.fnExactPaperForSpec.post enc Try.prog Try.f9 false true false false) :=
  law_lift started (s := Rows.fnExactPaperForSpec) [31, 22] rfl (by kernel_rfl) Try.func9 rfl rfl (fun ds h => by obtain ⟨a, b, rfl⟩ := list2 h; rfl) (by kernel_rfl)
    (ChangeSpec.witness6 (enc := enc) (C := Try.checked) false ⟨#[], #[.agg #[.int .i64 0, .int .i64 0, .int .i64 0, .slice none 0 0], .slice none 0 0], []⟩ 8 (by kernel_rfl) (by kernel_rfl) (by kernel_rfl) (by kernel_rfl))
    (fun W base vs ds p hval hA => by
        obtain ⟨v0, vs0, d0, ds0, p0, q0, rfl, rfl, rfl, h0, r0⟩ := trodAll_cons hA
        obtain ⟨v1, vs1, d1, ds1, p1, q1, rfl, rfl, rfl, h1, r1⟩ := trodAll_cons r0
        obtain ⟨rfl, rfl, rfl⟩ := trodAll_nil r1
        obtain ⟨a0, b0, c0, A0, n0, cp0, xs0, rfl, hr0, hn0⟩ := open_press (hval 0 31 v0 rfl rfl) h0
        obtain ⟨A1, n1, c1, xs1, rfl, hr1, hn1⟩ := open_pressjobs (hval 1 22 v1 rfl rfl) h1
        exact paperForLaw W a0 b0 c0 A0 n0 cp0 xs0 hr0 hn0 A1 n1 c1 xs1 hr1 hn1)

theorem holdsExactPaperFor : Rows.FnExactPaperForSaid :=
  OpenClaim.holds_of_wide 9 Try.f9 rfl rfl rfl rfl rfl rfl rfl ⟨rfl, rfl, rfl, rfl, rfl⟩ rfl rfl rfl rfl rfl (by kernel_rfl) Try.func9 (by kernel_rfl) (of_decide_eq_true (by kernel_rfl)) (by unfold Func.isWrapper; first | (rw [if_pos (by decide +kernel)]; kernel_rfl) | (rw [if_neg (by decide +kernel)]; exact ⟨rfl, rfl⟩))
    (fun os started H enc _ => liftExactPaperFor os started H enc)
end Go.Proofs.Ytfgnjokiadlieaa
