/-
  JobMinutes: the program's answer is the reference's at all arguments. No condition.
-/
import Derived.Test.YtfgnjokiadlieaaFrame
import Derived.Test.YtfgnjokiadlieaaRows
import Derived.Test.YtfgnjokiadlieaaOpen
import Derived.Test.YtfgnjokiadlieaaLJobMinutes
namespace Go.Proofs.Ytfgnjokiadlieaa
open Go.ChangeShapes Go.WideShapes Go.ChangeAt Go.RowKit
open Go.ChangeMaps (open_string)

set_option maxRecDepth 100000 in
theorem liftExactJobMinutes (os : Os) (started : os.Started) (H : Type) (enc : TypeId × Value → H) :
    ReturnsInHanded {} Try.checked os 8 .any (Rows.fnExactJobMinutesSpec.pre6 enc Try.prog Try.f8 Rows.fnExactJobMinutesRow.domain false) (Rows.fnExactJobMinutesSpec.post enc Try.prog Try.f8 false true false false) :=
  law_lift started (s := Rows.fnExactJobMinutesSpec) [31, 50] rfl (by kernel_rfl) Try.func8 rfl rfl (fun ds h => by obtain ⟨a, b, rfl⟩ := list2 h; rfl) (by kernel_rfl)
    (ChangeSpec.witness6 (enc := enc) (C := Try.checked) false ⟨#[], #[.agg #[.int .i64 0, .int .i64 0, .int .i64 0, .slice none 0 0], .agg #[.int .i64 0, .int .i64 0, .int .i64 0]], []⟩ 8 (by kernel_rfl) (by kernel_rfl) (by kernel_rfl) (by kernel_rfl))
    (fun W base vs ds p hval hA => by
        obtain ⟨v0, vs0, d0, ds0, p0, q0, rfl, rfl, rfl, h0, r0⟩ := trodAll_cons hA
        obtain ⟨v1, vs1, d1, ds1, p1, q1, rfl, rfl, rfl, h1, r1⟩ := trodAll_cons r0
        obtain ⟨rfl, rfl, rfl⟩ := trodAll_nil r1
        obtain ⟨a0, b0, c0, A0, n0, cp0, xs0, rfl, hr0, hn0⟩ := open_press (hval 0 31 v0 rfl rfl) h0
        obtain ⟨x1a, x1b, x1c, rfl, wf1a, wf1b, wf1c⟩ := open_i3 Try.underlying50 (by kernel_rfl) (by kernel_rfl) rfl rfl rfl (hval 1 50 v1 rfl rfl) h1
        exact jobMinutesLaw W a0 b0 c0 A0 n0 cp0 xs0 hr0 hn0 x1a x1b x1c (i64_of_wf wf1a) (i64_of_wf wf1b) (i64_of_wf wf1c))

theorem holdsExactJobMinutes : Rows.FnExactJobMinutesSaid :=
  OpenClaim.holds_of_wide 8 Try.f8 rfl rfl rfl rfl rfl rfl rfl ⟨rfl, rfl, rfl, rfl, rfl⟩ rfl rfl rfl rfl rfl (by kernel_rfl) Try.func8 (by kernel_rfl) (of_decide_eq_true (by kernel_rfl)) (by unfold Func.isWrapper; first | (rw [if_pos (by decide +kernel)]; kernel_rfl) | (rw [if_neg (by decide +kernel)]; exact ⟨rfl, rfl⟩))
    (fun os started H enc _ => liftExactJobMinutes os started H enc)
end Go.Proofs.Ytfgnjokiadlieaa
