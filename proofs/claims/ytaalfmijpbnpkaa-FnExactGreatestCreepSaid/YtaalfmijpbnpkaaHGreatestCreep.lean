/-
  GreatestCreep: the program's answer is the reference's at all arguments. No condition.
-/
import Derived.Test.YtaalfmijpbnpkaaFrame
import Derived.Test.YtaalfmijpbnpkaaRows
import Derived.Test.YtaalfmijpbnpkaaOpen
import Derived.Test.YtaalfmijpbnpkaaOFold
import Derived.Test.YtaalfmijpbnpkaaLGreatestCreep
namespace Go.Proofs.Ytaalfmijpbnpkaa
open Go.ChangeShapes Go.WideShapes Go.ChangeAt Go.RowKit
open Go.ChangeMaps (open_string)

set_option maxRecDepth 100000 in
theorem liftExactGreatestCreep (os : Os) (started : os.Started) (H : Type) (enc : TypeId × Value → H) :
    ReturnsInHanded {} Try.checked os 4 .any (Rows.fnExactGreatestCreepSpec.pre6 enc Try.prog Try.f4 Rows.fnExactGreatestCreepRow.domain false) (Rows.fnExactGreatestCreepSpec.post enc Try.prog Try.f4 false true false false) :=
  law_lift started (s := Rows.fnExactGreatestCreepSpec) [22, 3] rfl (by kernel_rfl) Try.func4 rfl rfl (fun ds h => by obtain ⟨a, b, rfl⟩ := list2 h; rfl) (by kernel_rfl)
    (ChangeSpec.witness6 (enc := enc) (C := Try.checked) false ⟨#[], #[.slice none 0 0, .int .i64 0], []⟩ 8 (by kernel_rfl) (by kernel_rfl) (by kernel_rfl) (by kernel_rfl))
    (fun W base vs ds p hval hA => by
        obtain ⟨v0, vs0, d0, ds0, p0, q0, rfl, rfl, rfl, h0, r0⟩ := trodAll_cons hA
        obtain ⟨v1, vs1, d1, ds1, p1, q1, rfl, rfl, rfl, h1, r1⟩ := trodAll_cons r0
        obtain ⟨rfl, rfl, rfl⟩ := trodAll_nil r1
        obtain ⟨A0, n0, c0, xs0, rfl, hr0, hn0⟩ := open_folds (hval 0 22 v0 rfl rfl) h0
        obtain ⟨x1, rfl, rfl, rfl, wf1⟩ := open_int Try.underlying3 (hval 1 3 v1 rfl rfl) h1
        exact greatestCreepLaw W A0 n0 c0 xs0 hr0 hn0 x1 (i64_of_wf wf1))

theorem holdsExactGreatestCreep : Rows.FnExactGreatestCreepSaid :=
  OpenClaim.holds_of_wide 4 Try.f4 rfl rfl rfl rfl rfl rfl rfl ⟨rfl, rfl, rfl, rfl, rfl⟩ rfl rfl rfl rfl rfl (by kernel_rfl) Try.func4 (by kernel_rfl) (of_decide_eq_true (by kernel_rfl)) (by unfold Func.isWrapper; first | (rw [if_pos (by decide +kernel)]; kernel_rfl) | (rw [if_neg (by decide +kernel)]; exact ⟨rfl, rfl⟩))
    (fun os started H enc _ => liftExactGreatestCreep os started H enc)
end Go.Proofs.Ytaalfmijpbnpkaa
