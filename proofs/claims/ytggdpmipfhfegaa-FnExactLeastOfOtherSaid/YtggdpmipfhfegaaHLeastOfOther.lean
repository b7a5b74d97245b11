/-
  LeastOfOther: the program's answer is the reference's at all arguments. No condition.
-/
import Derived.Test.YtggdpmipfhfegaaFrame
import Derived.Test.YtggdpmipfhfegaaRows
import Derived.Test.YtggdpmipfhfegaaMet2
namespace Go.Proofs.Ytggdpmipfhfegaa
open Go.ChangeShapes Go.WideShapes Go.ChangeAt Go.RowKit
open Go.ChangeMaps (open_string)

set_option maxRecDepth 100000 in
theorem liftExactLeastOfOther (os : Os) (started : os.Started) (H : Type) (enc : TypeId × Value → H) :
    ReturnsInHanded {} Try.checked os 11 .any (Rows.fnExactLeastOfOtherSpec.pre6 enc Try.prog Try.f11 Rows.fnExactLeastOfOtherRow.domain false) (Rows.fnExactLeastOfOtherSpec.post enc Try.prog Try.f11 false true false false) :=
  law_lift started (s := Rows.fnExactLeastOfOtherSpec) [45, 45, 47] rfl (by kernel_rfl) Try.func11 rfl rfl (fun ds h => by obtain ⟨a, b, c, rfl⟩ := list3 h; rfl) (by kernel_rfl)
    (ChangeSpec.witness6 (enc := enc) (C := Try.checked) false ⟨#[], #[.agg #[.int .i64 0, .int .i64 0, .int .i64 0], .agg #[.int .i64 0, .int .i64 0, .int .i64 0], .agg #[.int .i64 0, .int .i64 0, .int .i64 0, .int .i64 0]], []⟩ 8 (by kernel_rfl) (by kernel_rfl) (by kernel_rfl) (by kernel_rfl))
    (fun W base vs ds p hval hA => by
        obtain ⟨v0, vs0, d0, ds0, p0, q0, rfl, rfl, rfl, h0, r0⟩ := trodAll_cons hA
        obtain ⟨v1, vs1, d1, ds1, p1, q1, rfl, rfl, rfl, h1, r1⟩ := trodAll_cons r0
        obtain ⟨v2, vs2, d2, ds2, p2, q2, rfl, rfl, rfl, h2, r2⟩ := trodAll_cons r1
        obtain ⟨rfl, rfl, rfl⟩ := trodAll_nil r2
        obtain ⟨x0a, x0b, x0c, rfl, wf0a, wf0b, wf0c⟩ := open_i3 Try.underlying45 (by kernel_rfl) (by kernel_rfl) rfl rfl rfl (hval 0 45 v0 rfl rfl) h0
        obtain ⟨x1a, x1b, x1c, rfl, wf1a, wf1b, wf1c⟩ := open_i3 Try.underlying45 (by kernel_rfl) (by kernel_rfl) rfl rfl rfl (hval 1 45 v1 rfl rfl) h1
        obtain ⟨x2a, x2b, x2c, x2d, rfl, wf2a, wf2b, wf2c, wf2d⟩ := open_i4 Try.underlying47 (by kernel_rfl) (by kernel_rfl) rfl rfl rfl rfl (hval 2 47 v2 rfl rfl) h2
        exact looLaw W x0a x0b x0c (i64_of_wf wf0a) (i64_of_wf wf0b) (i64_of_wf wf0c) x1a x1b x1c (i64_of_wf wf1a) (i64_of_wf wf1b) (i64_of_wf wf1c) x2a x2b x2c x2d (i64_of_wf wf2a) (i64_of_wf wf2b) (i64_of_wf wf2c) (i64_of_wf wf2d))

theorem holdsExactLeastOfOther : Rows.FnExactLeastOfOtherSaid :=
  OpenClaim.holds_of_wide 11 Try.f11 rfl rfl rfl rfl rfl rfl rfl ⟨rfl, rfl, rfl, rfl, rfl⟩ rfl rfl rfl rfl rfl (by kernel_rfl) Try.func11 (by kernel_rfl) (of_decide_eq_true (by kernel_rfl)) (by unfold Func.isWrapper; first | (rw [if_pos (by decide +kernel)]; kernel_rfl) | (rw [if_neg (by decide +kernel)]; exact ⟨rfl, rfl⟩))
    (fun os started H enc _ => liftExactLeastOfOther os started H enc)
end Go.Proofs.Ytggdpmipfhfegaa
