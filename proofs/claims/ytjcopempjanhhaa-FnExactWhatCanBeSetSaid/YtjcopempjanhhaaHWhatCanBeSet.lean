/-
  WhatCanBeSet: the program's answer is the reference's at all arguments. No condition.
-/
import Derived.Test.YtjcopempjanhhaaFrame
import Derived.Test.YtjcopempjanhhaaRows
import Derived.Test.YtjcopempjanhhaaOpen
import Derived.Test.YtjcopempjanhhaaOSort
import Derived.Test.YtjcopempjanhhaaOSetg
import Derived.Test.YtjcopempjanhhaaLWhatCanBeSet
namespace Go.Proofs.Ytjcopempjanhhaa
open Go.ChangeShapes Go.WideShapes Go.ChangeAt Go.RowKit
open Go.ChangeMaps (open_string)

set_option maxRecDepth 100000 in
theorem liftExactWhatCanBeSet (os : Os) (started : os.Started) (H : Type) (enc : TypeId × Value → H) :
    ReturnsInHanded {} Try.checked os 12 .any (Rows.fnExactWhatCanBeSetSpec.pre6 enc Try.prog Try.f12 Rows.fnExactWhatCanBeSetRow.domain false) (Rows.fnExactWhatCanBeSetSpec.post enc Try.prog Try.f12 false true false false) :=
  law_lift started (s := Rows.fnExactWhatCanBeSetSpec) [22, 26, 24] rfl (by kernel_rfl) Try.func12 rfl rfl (fun ds h => by obtain ⟨a, b, c, rfl⟩ := list3 h; rfl) (by kernel_rfl)
    (ChangeSpec.witness6 (enc := enc) (C := Try.checked) false ⟨#[], #[.slice none 0 0, .agg #[.slice none 0 0, .slice none 0 0], .slice none 0 0], []⟩ 8 (by kernel_rfl) (by kernel_rfl) (by kernel_rfl) (by kernel_rfl))
    (fun W base vs ds p hval hA => by
        obtain ⟨v0, vs0, d0, ds0, p0, q0, rfl, rfl, rfl, h0, r0⟩ := trodAll_cons hA
        obtain ⟨v1, vs1, d1, ds1, p1, q1, rfl, rfl, rfl, h1, r1⟩ := trodAll_cons r0
        obtain ⟨v2, vs2, d2, ds2, p2, q2, rfl, rfl, rfl, h2, r2⟩ := trodAll_cons r1
        obtain ⟨rfl, rfl, rfl⟩ := trodAll_nil r2
        obtain ⟨A0, n0, c0, xs0, rfl, hr0, hn0, hX0⟩ := open_sorts (hval 0 22 v0 rfl rfl) h0
        obtain ⟨A1, n1, c1, D1, m1, e1, bs1, ss1, rfl, hr1, hn1, hX1, hs1, hm1, hY1⟩ := open_setting (hval 1 26 v1 rfl rfl) h1
        obtain ⟨A2, n2, c2, xs2, rfl, hr2, hn2, hX2⟩ := open_strs_any (hval 2 24 v2 rfl rfl) h2
        exact whatCanBeSetLaw W A0 n0 c0 xs0 hr0 hn0 hX0 A1 n1 c1 bs1 hr1 hn1 hX1 D1 m1 e1 ss1 hs1 hm1 hY1 A2 n2 c2 xs2 hr2 hn2 hX2)

theorem holdsExactWhatCanBeSet : Rows.FnExactWhatCanBeSetSaid :=
  OpenClaim.holds_of_wide 12 Try.f12 rfl rfl rfl rfl rfl rfl rfl ⟨rfl, rfl, rfl, rfl, rfl⟩ rfl rfl rfl rfl rfl (by kernel_rfl) Try.func12 (by kernel_rfl) (of_decide_eq_true (by kernel_rfl)) (by unfold Func.isWrapper; first | (rw [if_pos (by decide +kernel)]; kernel_rfl) | (rw [if_neg (by decide +kernel)]; exact ⟨rfl, rfl⟩))
    (fun os started H enc _ => liftExactWhatCanBeSet os started H enc)
end Go.Proofs.Ytjcopempjanhhaa
