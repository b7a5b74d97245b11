/-
  DistributeAll: the program's answer is the reference's at all arguments. No condition.
-/
import Derived.Test.YtjcopempjanhhaaFrame
import Derived.Test.YtjcopempjanhhaaRows
import Derived.Test.YtjcopempjanhhaaOpen
import Derived.Test.YtjcopempjanhhaaOSetg
import Derived.Test.YtjcopempjanhhaaLDistributeAll
namespace Go.Proofs.Ytjcopempjanhhaa
open Go.ChangeShapes Go.WideShapes Go.ChangeAt Go.RowKit
open Go.ChangeMaps (open_string)

set_option maxRecDepth 100000 in
theorem liftExactDistributeAll (os : Os) (started : os.Started) (H : Type) (enc : TypeId × Value → H) :
    ReturnsInHanded {} Try.checked os 9 .any (Rows.fnExactDistributeAllSpec.pre6 enc Try.prog Try.f9 Rows.fnExactDistributeAllRow.domain false) (Rows.fnExactDistributeAllSpec.post enc Try.prog Try.f9 false true false false) :=
  law_lift started (s := Rows.fnExactDistributeAllSpec) [26] rfl (by kernel_rfl) Try.func9 rfl rfl (fun ds h => by obtain ⟨a, rfl⟩ := list1 h; rfl) (by kernel_rfl)
    (ChangeSpec.witness6 (enc := enc) (C := Try.checked) false ⟨#[], #[.agg #[.slice none 0 0, .slice none 0 0]], []⟩ 8 (by kernel_rfl) (by kernel_rfl) (by kernel_rfl) (by kernel_rfl))
    (fun W base vs ds p hval hA => by
        obtain ⟨v0, vs0, d0, ds0, p0, q0, rfl, rfl, rfl, h0, r0⟩ := trodAll_cons hA
        obtain ⟨rfl, rfl, rfl⟩ := trodAll_nil r0
        obtain ⟨A0, n0, c0, D0, m0, e0, bs0, ss0, rfl, hr0, hn0, hX0, hs0, hm0, hY0⟩ := open_setting (hval 0 26 v0 rfl rfl) h0
        exact distributeAllLaw W A0 n0 c0 bs0 hr0 hn0 hX0 D0 m0 e0 ss0 hs0 hm0 hY0)

theorem holdsExactDistributeAll : Rows.FnExactDistributeAllSaid :=
  OpenClaim.holds_of_wide 9 Try.f9 rfl rfl rfl rfl rfl rfl rfl ⟨rfl, rfl, rfl, rfl, rfl⟩ rfl rfl rfl rfl rfl (by kernel_rfl) Try.func9 (by kernel_rfl) (of_decide_eq_true (by kernel_rfl)) (by unfold Func.isWrapper; first | (rw [if_pos (by decide +kernel)]; kernel_rfl) | (rw [if_neg (by decide +kernel)]; exact ⟨rfl, rfl⟩))
    (fun os started H enc _ => liftExactDistributeAll os started H enc)
end Go.Proofs.Ytjcopempjanhhaa
