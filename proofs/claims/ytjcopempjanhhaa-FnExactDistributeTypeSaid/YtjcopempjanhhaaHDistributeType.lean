/-
  DistributeType: the program's answer is the reference's at all arguments. No condition.
-/
import Derived.Test.YtjcopempjanhhaaFrame
import Derived.Test.YtjcopempjanhhaaRows
import Derived.Test.YtjcopempjanhhaaOpen
import Derived.Test.YtjcopempjanhhaaOSetg
import Derived.Test.YtjcopempjanhhaaLDistributeType
namespace Go.Proofs.Ytjcopempjanhhaa
open Go.ChangeShapes Go.WideShapes Go.ChangeAt Go.RowKit
open Go.ChangeMaps (open_string)

set_option maxRecDepth 100000 in
theorem liftExactDistributeType (os : Os) (started : os.Started) (H : Type) (enc : TypeId × Value → H) :
    ReturnsInHanded {} Try.checked os 10 .any (Rows.fnExactDistributeTypeSpec.pre6 enc Try.prog Try.f10 Rows.fnExactDistributeTypeRow.domain false) (Rows.fnExactDistributeTypeSpec.post enc Try.prog Try.f10 false true false false) :=
  law_lift started (s := Rows.fnExactDistributeTypeSpec) [26, 3, 9] rfl (by kernel_rfl) Try.func10 rfl rfl (fun ds h => by obtain ⟨a, b, c, rfl⟩ := list3 h; rfl) (by kernel_rfl)
    (ChangeSpec.witness6 (enc := enc) (C := Try.checked) false ⟨#[], #[.agg #[.slice none 0 0, .slice none 0 0], .int .i64 0, .string .empty], []⟩ 8 (by kernel_rfl) (by kernel_rfl) (by kernel_rfl) (by kernel_rfl))
    (fun W base vs ds p hval hA => by
        obtain ⟨v0, vs0, d0, ds0, p0, q0, rfl, rfl, rfl, h0, r0⟩ := trodAll_cons hA
        obtain ⟨v1, vs1, d1, ds1, p1, q1, rfl, rfl, rfl, h1, r1⟩ := trodAll_cons r0
        obtain ⟨v2, vs2, d2, ds2, p2, q2, rfl, rfl, rfl, h2, r2⟩ := trodAll_cons r1
        obtain ⟨rfl, rfl, rfl⟩ := trodAll_nil r2
        obtain ⟨A0, n0, c0, D0, m0, e0, bs0, ss0, rfl, hr0, hn0, hX0, hs0, hm0, hY0⟩ := open_setting (hval 0 26 v0 rfl rfl) h0
        obtain ⟨x1, rfl, rfl, rfl, wf1⟩ := open_int Try.underlying3 (hval 1 3 v1 rfl rfl) h1
        obtain ⟨x2, rfl, rfl, rfl, wf2⟩ := open_string Try.underlying9 (hval 2 9 v2 rfl rfl) h2
        exact distributeTypeLaw W A0 n0 c0 bs0 hr0 hn0 hX0 D0 m0 e0 ss0 hs0 hm0 hY0 x1 (i64_of_wf wf1) x2 wf2)

theorem holdsExactDistributeType : Rows.FnExactDistributeTypeSaid :=
  OpenClaim.holds_of_wide 10 Try.f10 rfl rfl rfl rfl rfl rfl rfl ⟨rfl, rfl, rfl, rfl, rfl⟩ rfl rfl rfl rfl rfl (by kernel_rfl) Try.func10 (by kernel_rfl) (of_decide_eq_true (by kernel_rfl)) (by unfold Func.isWrapper; first | (rw [if_pos (by decide +kernel)]; kernel_rfl) | (rw [if_neg (by decide +kernel)]; exact ⟨rfl, rfl⟩))
    (fun os started H enc _ => liftExactDistributeType os started H enc)
end Go.Proofs.Ytjcopempjanhhaa
