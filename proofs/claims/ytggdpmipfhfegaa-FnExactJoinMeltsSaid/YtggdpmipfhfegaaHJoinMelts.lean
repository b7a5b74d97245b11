/-
  JoinMelts: the program's answer is the reference's at all arguments. No condition.
-/
import Derived.Test.YtggdpmipfhfegaaFrame
import Derived.Test.YtggdpmipfhfegaaRows
import Derived.Test.YtggdpmipfhfegaaMetO
namespace Go.Proofs.Ytggdpmipfhfegaa
open Go.ChangeShapes Go.WideShapes Go.ChangeAt Go.RowKit
open Go.ChangeMaps (open_string)

set_option maxRecDepth 100000 in
theorem liftExactJoinMelts (os : Os) (started : os.Started) (H : Type) (enc : TypeId × Value → H) :
    ReturnsInHanded {} Try.checked os 12 .any (Rows.fnExactJoinMeltsSpec.pre6 enc Try.prog Try.f12 Rows.fnExactJoinMeltsRow.domain false) (Rows.fnExactJoinMeltsSpec.post enc Try.prog Try.f12 false true false false) :=
  law_lift started (s := Rows.fnExactJoinMeltsSpec) [54] rfl (by kernel_rfl) Try.func12 rfl rfl (fun ds h => by obtain ⟨a, rfl⟩ := list1 h; rfl) (by kernel_rfl)
    (ChangeSpec.witness6 (enc := enc) (C := Try.checked) false ⟨#[], #[.slice none 0 0], []⟩ 8 (by kernel_rfl) (by kernel_rfl) (by kernel_rfl) (by kernel_rfl))
    (fun W base vs ds p hval hA => by
        obtain ⟨v0, vs0, d0, ds0, p0, q0, rfl, rfl, rfl, h0, r0⟩ := trodAll_cons hA
        obtain ⟨rfl, rfl, rfl⟩ := trodAll_nil r0
        obtain ⟨A0, n0, c0, xs0, rfl, hr0, hn0⟩ := open_melts (hval 0 54 v0 rfl rfl) h0
        exact joinLaw W A0 n0 c0 xs0 hr0 hn0)

theorem holdsExactJoinMelts : Rows.FnExactJoinMeltsSaid :=
  OpenClaim.holds_of_wide 12 Try.f12 rfl rfl rfl rfl rfl rfl rfl ⟨rfl, rfl, rfl, rfl, rfl⟩ rfl rfl rfl rfl rfl (by kernel_rfl) Try.func12 (by kernel_rfl) (of_decide_eq_true (by kernel_rfl)) (by unfold Func.isWrapper; first | (rw [if_pos (by decide +kernel)]; kernel_rfl) | (rw [if_neg (by decide +kernel)]; exact ⟨rfl, rfl⟩))
    (fun os started H enc _ => liftExactJoinMelts os started H enc)
end Go.Proofs.Ytggdpmipfhfegaa
