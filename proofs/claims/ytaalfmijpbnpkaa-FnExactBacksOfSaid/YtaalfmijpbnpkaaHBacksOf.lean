/-
  BacksOf: the program's answer is the reference's at all arguments. No condition.
-/
import Derived.Test.YtaalfmijpbnpkaaFrame
import Derived.Test.YtaalfmijpbnpkaaRows
import Derived.Test.YtaalfmijpbnpkaaOpen
import Derived.Test.YtaalfmijpbnpkaaOFold
import Derived.Test.YtaalfmijpbnpkaaLBacksOf
namespace Go.Proofs.Ytaalfmijpbnpkaa
open Go.ChangeShapes Go.WideShapes Go.ChangeAt Go.RowKit
open Go.ChangeMaps (open_string)

set_option maxRecDepth 100000 in
theorem liftExactBacksOf (os : Os) (started : os.Started) (H : Type) (enc : TypeId × Value → H) :
    ReturnsInHanded {} Try.checked os 6 .any (Rows.fnExactBacksOfSpec.pre6 enc Try.prog Try.f6 Rows.fnExactBacksOfRow.domain false) (Rows.fnExactBacksOfSpec.post enc Try.prog Try.f6 false true false false) :=
  law_lift started (s := Rows.fnExactBacksOfSpec) [22, 33, 3] rfl (by kernel_rfl) Try.func6 rfl rfl (fun ds h => by obtain ⟨a, b, c, rfl⟩ := list3 h; rfl) (by kernel_rfl)
    (ChangeSpec.witness6 (enc := enc) (C := Try.checked) false ⟨#[], #[.slice none 0 0, .agg #[.int .i64 0, .int .i64 0, .int .i64 0, .int .i64 0], .int .i64 0], []⟩ 8 (by kernel_rfl) (by kernel_rfl) (by kernel_rfl) (by kernel_rfl))
    (fun W base vs ds p hval hA => by
        obtain ⟨v0, vs0, d0, ds0, p0, q0, rfl, rfl, rfl, h0, r0⟩ := trodAll_cons hA
        obtain ⟨v1, vs1, d1, ds1, p1, q1, rfl, rfl, rfl, h1, r1⟩ := trodAll_cons r0
        obtain ⟨v2, vs2, d2, ds2, p2, q2, rfl, rfl, rfl, h2, r2⟩ := trodAll_cons r1
        obtain ⟨rfl, rfl, rfl⟩ := trodAll_nil r2
        obtain ⟨A0, n0, c0, xs0, rfl, hr0, hn0⟩ := open_folds (hval 0 22 v0 rfl rfl) h0
        obtain ⟨x1a, x1b, x1c, x1d, rfl, wf1a, wf1b, wf1c, wf1d⟩ := open_i4 Try.underlying33 (by kernel_rfl) (by kernel_rfl) rfl rfl rfl rfl (hval 1 33 v1 rfl rfl) h1
        obtain ⟨x2, rfl, rfl, rfl, wf2⟩ := open_int Try.underlying3 (hval 2 3 v2 rfl rfl) h2
        exact backsOfLaw W A0 n0 c0 xs0 hr0 hn0 x1a x1b x1c x1d (i64_of_wf wf1a) (i64_of_wf wf1b) (i64_of_wf wf1c) (i64_of_wf wf1d) x2 (i64_of_wf wf2))

theorem holdsExactBacksOf : Rows.FnExactBacksOfSaid :=
  OpenClaim.holds_of_wide 6 Try.f6 rfl rfl rfl rfl rfl rfl rfl ⟨rfl, rfl, rfl, rfl, rfl⟩ rfl rfl rfl rfl rfl (by kernel_rfl) Try.func6 (by kernel_rfl) (of_decide_eq_true (by kernel_rfl)) (by unfold Func.isWrapper; first | (rw [if_pos (by decide +kernel)]; kernel_rfl) | (rw [if_neg (by decide +kernel)]; exact ⟨rfl, rfl⟩))
    (fun os started H enc _ => liftExactBacksOf os started H enc)
end Go.Proofs.Ytaalfmijpbnpkaa
