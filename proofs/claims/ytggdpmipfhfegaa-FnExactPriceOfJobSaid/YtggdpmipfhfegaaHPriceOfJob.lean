/-
  PriceOfJob: the program's answer is the reference's at all arguments. No condition.
-/
import Derived.Test.YtggdpmipfhfegaaFrame
import Derived.Test.YtggdpmipfhfegaaRows
import Derived.Test.YtggdpmipfhfegaaEst4
namespace Go.Proofs.Ytggdpmipfhfegaa
open Go.ChangeShapes Go.WideShapes Go.ChangeAt Go.RowKit
open Go.ChangeMaps (open_string)

set_option maxRecDepth 100000 in
theorem liftExactPriceOfJob (os : Os) (started : os.Started) (H : Type) (enc : TypeId × Value → H) :
    ReturnsInHanded {} Try.checked os 9 .any (Rows.fnExactPriceOfJobSpec.pre6 enc Try.prog Try.f9 Rows.fnExactPriceOfJobRow.domain false) (Rows.fnExactPriceOfJobSpec.post enc Try.prog Try.f9 false true false false) :=
  law_lift started (s := Rows.fnExactPriceOfJobSpec) [30, 3, 3, 3] rfl (by kernel_rfl) Try.func9 rfl rfl (fun ds h => by obtain ⟨a, b, c, d, rfl⟩ := list4 h; rfl) (by kernel_rfl)
    (ChangeSpec.witness6 (enc := enc) (C := Try.checked) false ⟨#[], #[.agg #[.int .i64 0, .int .i64 0, .int .i64 0, .int .i64 0], .int .i64 0, .int .i64 0, .int .i64 0], []⟩ 8 (by kernel_rfl) (by kernel_rfl) (by kernel_rfl) (by kernel_rfl))
    (fun W base vs ds p hval hA => by
        obtain ⟨v0, vs0, d0, ds0, p0, q0, rfl, rfl, rfl, h0, r0⟩ := trodAll_cons hA
        obtain ⟨v1, vs1, d1, ds1, p1, q1, rfl, rfl, rfl, h1, r1⟩ := trodAll_cons r0
        obtain ⟨v2, vs2, d2, ds2, p2, q2, rfl, rfl, rfl, h2, r2⟩ := trodAll_cons r1
        obtain ⟨v3, vs3, d3, ds3, p3, q3, rfl, rfl, rfl, h3, r3⟩ := trodAll_cons r2
        obtain ⟨rfl, rfl, rfl⟩ := trodAll_nil r3
        obtain ⟨x0a, x0b, x0c, x0d, rfl, wf0a, wf0b, wf0c, wf0d⟩ := open_i4 Try.underlying30 (by kernel_rfl) (by kernel_rfl) rfl rfl rfl rfl (hval 0 30 v0 rfl rfl) h0
        obtain ⟨x1, rfl, rfl, rfl, wf1⟩ := open_int Try.underlying3 (hval 1 3 v1 rfl rfl) h1
        obtain ⟨x2, rfl, rfl, rfl, wf2⟩ := open_int Try.underlying3 (hval 2 3 v2 rfl rfl) h2
        obtain ⟨x3, rfl, rfl, rfl, wf3⟩ := open_int Try.underlying3 (hval 3 3 v3 rfl rfl) h3
        exact jobLaw W x0a x0b x0c x0d (i64_of_wf wf0a) (i64_of_wf wf0b) (i64_of_wf wf0c) (i64_of_wf wf0d) x1 (i64_of_wf wf1) x2 (i64_of_wf wf2) x3 (i64_of_wf wf3))

theorem holdsExactPriceOfJob : Rows.FnExactPriceOfJobSaid :=
  OpenClaim.holds_of_wide 9 Try.f9 rfl rfl rfl rfl rfl rfl rfl ⟨rfl, rfl, rfl, rfl, rfl⟩ rfl rfl rfl rfl rfl (by kernel_rfl) Try.func9 (by kernel_rfl) (of_decide_eq_true (by kernel_rfl)) (by unfold Func.isWrapper; first | (rw [if_pos (by decide +kernel)]; kernel_rfl) | (rw [if_neg (by decide +kernel)]; exact ⟨rfl, rfl⟩))
    (fun os started H enc _ => liftExactPriceOfJob os started H enc)
end Go.Proofs.Ytggdpmipfhfegaa
