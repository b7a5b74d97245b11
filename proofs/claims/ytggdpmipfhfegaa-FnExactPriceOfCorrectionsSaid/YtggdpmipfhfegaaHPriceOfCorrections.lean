/-
  PriceOfCorrections: the program's answer is the reference's at all arguments. No condition.
-/
import Derived.Test.YtggdpmipfhfegaaFrame
import Derived.Test.YtggdpmipfhfegaaRows
import Derived.Test.YtggdpmipfhfegaaEst4
namespace Go.Proofs.Ytggdpmipfhfegaa
open Go.ChangeShapes Go.WideShapes Go.ChangeAt Go.RowKit
open Go.ChangeMaps (open_string)

set_option maxRecDepth 100000 in
theorem liftExactPriceOfCorrections (os : Os) (started : os.Started) (H : Type) (enc : TypeId × Value → H) :
    ReturnsInHanded {} Try.checked os 10 .any (Rows.fnExactPriceOfCorrectionsSpec.pre6 enc Try.prog Try.f10 Rows.fnExactPriceOfCorrectionsRow.domain false) (Rows.fnExactPriceOfCorrectionsSpec.post enc Try.prog Try.f10 false true false false) :=
  law_lift started (s := Rows.fnExactPriceOfCorrectionsSpec) [30, 39] rfl (by kernel_rfl) Try.func10 rfl rfl (fun ds h => by obtain ⟨a, b, rfl⟩ := list2 h; rfl) (by kernel_rfl)
    (ChangeSpec.witness6 (enc := enc) (C := Try.checked) false ⟨#[], #[.agg #[.int .i64 0, .int .i64 0, .int .i64 0, .int .i64 0], .slice none 0 0], []⟩ 8 (by kernel_rfl) (by kernel_rfl) (by kernel_rfl) (by kernel_rfl))
    (fun W base vs ds p hval hA => by
        obtain ⟨v0, vs0, d0, ds0, p0, q0, rfl, rfl, rfl, h0, r0⟩ := trodAll_cons hA
        obtain ⟨v1, vs1, d1, ds1, p1, q1, rfl, rfl, rfl, h1, r1⟩ := trodAll_cons r0
        obtain ⟨rfl, rfl, rfl⟩ := trodAll_nil r1
        obtain ⟨x0a, x0b, x0c, x0d, rfl, wf0a, wf0b, wf0c, wf0d⟩ := open_i4 Try.underlying30 (by kernel_rfl) (by kernel_rfl) rfl rfl rfl rfl (hval 0 30 v0 rfl rfl) h0
        obtain ⟨A1, n1, c1, xs1, rfl, hr1, hn1, hw1⟩ := open_rints Try.underlying39 (hval 1 39 v1 rfl rfl) h1
        exact corLaw W x0a x0b x0c x0d (i64_of_wf wf0a) (i64_of_wf wf0b) (i64_of_wf wf0c) (i64_of_wf wf0d) A1 n1 c1 xs1 hr1 hn1 hw1)

theorem holdsExactPriceOfCorrections : Rows.FnExactPriceOfCorrectionsSaid :=
  OpenClaim.holds_of_wide 10 Try.f10 rfl rfl rfl rfl rfl rfl rfl ⟨rfl, rfl, rfl, rfl, rfl⟩ rfl rfl rfl rfl rfl (by kernel_rfl) Try.func10 (by kernel_rfl) (of_decide_eq_true (by kernel_rfl)) (by unfold Func.isWrapper; first | (rw [if_pos (by decide +kernel)]; kernel_rfl) | (rw [if_neg (by decide +kernel)]; exact ⟨rfl, rfl⟩))
    (fun os started H enc _ => liftExactPriceOfCorrections os started H enc)
end Go.Proofs.Ytggdpmipfhfegaa
