/-
  Contracts: what a form lacks; LackingFor and WaitsFor.
-/
import Derived.Test.YtlblcblkcphdjaaSt2
import Derived.WalkLawsBesides
namespace Go.Proofs.Ytlblcblkcphdjaa
open Go.RowKit
def lackL : List Int → List Int → List Int
  | a :: r, x :: t => mxI 0 (x - a) :: lackL r t
  | _, _ => []
theorem lackL_bd : ∀ {fr ws : List Int}, (∀ x ∈ fr, 0 ≤ x ∧ x ≤ 1000) → (∀ x ∈ ws, 0 ≤ x ∧ x ≤ 1000) → ∀ x ∈ lackL fr ws, 0 ≤ x ∧ x ≤ 1000
  | [], ws, _, _ => by cases ws <;> simp [lackL]
  | _ :: _, [], _, _ => by simp [lackL]
  | a :: r, x :: t, h1, h2 => by
    intro z hz
    have ha := h1 a (by simp)
    have hx := h2 x (by simp)
    rw [lackL] at hz
    rcases List.mem_cons.1 hz with rfl | hz
    · unfold mxI; split <;> omega
    · exact lackL_bd (fun y hy => h1 y (by simp [hy])) (fun y hy => h2 y (by simp [hy])) z hz
theorem lackL_end (fr : List Int) : lackL fr [] = [] := by cases fr <;> rfl
theorem lackL_step {fr ws zs r t : List Int} {a x : Int} {k : Nat} (hd : fr.drop k = a :: r) (he : ws.drop k = x :: t) (h : zs ++ lackL (fr.drop k) (ws.drop k) = lackL fr ws) : (zs ++ [mxI 0 (x - a)]) ++ lackL r t = lackL fr ws := by
  rw [← h, hd, he, lackL, List.append_assoc]; rfl
theorem lacking_any {A : Option Addr} {n c B : Nat} {fr : List Int} {y : FV} {w : World} (hr : RInts w B A n fr) (hy : y.In w B) (hB : B ≤ w.heap.size) (hn : n ≤ 1048576) (hl : y.f.wanted.length = n) (h1 : ∀ x ∈ fr, 0 ≤ x ∧ x ≤ 1000) (h2 : ∀ x ∈ y.f.wanted, 0 ≤ x ∧ x ≤ 1000) :
    Calls Try.prog 57 #[.slice A n c, .agg #[.slice y.a1 y.f.held.length y.c1, .slice y.a2 y.f.wanted.length y.c2]] w fun e w' => ∃ V C, e = .returned (.slice V n C) ∧ Own w' w.heap.size (.slice V n C) n (lackL fr y.f.wanted) ∧ Below w.heap.size w w' := by
  obtain ⟨i0, hi, hz0, hz1, hz2⟩ := info_parts info3
  have HL := Lib.hid hr.len
  have HW := Lib.hid hl
  have H1 := Lib.hid h1
  have H2 := Lib.hid h2
  have lw : y.f.wanted.length ≤ 1048576 := by omega
  have lw2 : y.f.wanted.length ≤ n := by omega
  clear hl h1 h2
  go_enter Try.func57, Try.ntmps57
  go_wp2_with fail
  go_loopw [5, 12] (fun v u wr => ∃ (k : Nat) (zs : List Int), k ≤ y.f.wanted.length ∧ u = .int .i64 k ∧ Own wr (w.heap.size + 1) v k zs ∧ zs ++ lackL (fr.drop k) (y.f.wanted.drop k) = lackL fr y.f.wanted ∧ Below w.heap.size w wr ∧ w.heap.size + 1 ≤ wr.heap.size) (fun _ u _ => y.f.wanted.length - (intOf u).toNat)
  case atStart =>
    refine ⟨0, [], Nat.zero_le _, rfl, ?_, rfl, (by (repeat (first | exact Below.refl _ _ | exact hb | apply Below.drew | (refine Below.alloc ?_ (by first | (simp; done) | (simp; omega) | (have := hb.size; simp at this ⊢; omega)) _) | (refine Below.setCell ?_ (by simp) _)))), by simp⟩
    have h := own_empty (w.alloc (.cells #[.slice y.a1 y.f.held.length y.c1, .slice y.a2 y.f.wanted.length y.c2] 52)) (w.heap.size + 1) (by simp)
    simpa using h
  case round =>
    obtain ⟨k, zs, hk, rfl, hown, hR, hb, hsz⟩ := hrel
    by_cases hlt : k < y.f.wanted.length
    · obtain ⟨ad, x, eA, _, hd, hx, hc⟩ := RInts.at_ ((hr.more hB).below hb) (k := k) (by omega)
      obtain ⟨ae, z, eB, _, he, hz, hcz⟩ := RInts.at_ ((hy.2.more hB).below hb) hlt
      have bx := H1.out x (List.mem_of_getElem? hx)
      have bz := H2.out z (List.mem_of_getElem? hz)
      have HR := Lib.hid (lackL_step hd he hR)
      have hkn : k < n := by omega
      have HA := Lib.hid eA
      have HB := Lib.hid eB
      clear hR hd he hx hz
      rw [eA, eB]
      clear eA eB
      rcases (by omega : x < z ∨ z ≤ x) with hxz | hxz
      · have HM := Lib.hid (show mxI 0 (z - x) = z - x by unfold mxI; split <;> omega)
        go_wp2_with (at_builtin; refine wpList_append_own _ rfl _ _ 22 rfl (w.heap.size + 1) 3 i0 (.int .i64 0) 1 8 Try.underlying22 hi hz0 hz1 hz2 rfl (by decide) _ _ _ rfl (hown.alloc _) ⟨wr.heap.size, 0, none⟩ 1 1 [.int .i64 (z - x)] rfl rfl (new_one _ _ (by simp) _ _) (by intro u hu; simp at hu; subst hu; rfl) (by unfold maxLen; omega) (by omega) (by simp <;> omega) ?_)
        intro v' w1 hown' hgrow _
        have hkb := below_grown (World.ownsRow.alloc hown (.cells #[.int .i64 (z - x)] 3)) (by simp; omega) hgrow
        have ho2 := own_app hown'
        replace hb := (hb.alloc hb.size (.cells #[.int .i64 (z - x)] 3)).trans (hkb.mono (by omega))
        have hz3 := hkb.size
        simp only [World.size_alloc] at hz3
        clear hown hown' hgrow hkb hc hcz
        go_wp2_with fail
        (try rw [← HA.out]); (try rw [← HB.out])
        go_roundw
        case rel => exact ⟨k + 1, _, by omega, by go_num, ho2, by rw [← HM.out]; exact HR.out, hb, by omega⟩
        case measure => simp [intOf]; omega
      · have HM := Lib.hid (show mxI 0 (z - x) = 0 by unfold mxI; split <;> omega)
        go_wp2_with (at_builtin; refine wpList_append_own _ rfl _ _ 22 rfl (w.heap.size + 1) 3 i0 (.int .i64 0) 1 8 Try.underlying22 hi hz0 hz1 hz2 rfl (by decide) _ _ _ rfl (hown.alloc _) ⟨wr.heap.size, 0, none⟩ 1 1 [.int .i64 (0)] rfl rfl (new_one _ _ (by simp) _ _) (by intro u hu; simp at hu; subst hu; rfl) (by unfold maxLen; omega) (by omega) (by simp <;> omega) ?_)
        intro v' w1 hown' hgrow _
        have hkb := below_grown (World.ownsRow.alloc hown (.cells #[.int .i64 (0)] 3)) (by simp; omega) hgrow
        have ho2 := own_app hown'
        replace hb := (hb.alloc hb.size (.cells #[.int .i64 (0)] 3)).trans (hkb.mono (by omega))
        have hz3 := hkb.size
        simp only [World.size_alloc] at hz3
        clear hown hown' hgrow hkb hc hcz
        go_wp2_with fail
        (try rw [← HA.out]); (try rw [← HB.out])
        go_roundw
        case rel => exact ⟨k + 1, _, by omega, by go_num, ho2, by rw [← HM.out]; exact HR.out, hb, by omega⟩
        case measure => simp [intOf]; omega
    · have HR := Lib.hid (show zs = lackL fr y.f.wanted by rw [← hR, List.drop_of_length_le (l := y.f.wanted) (by omega), lackL_end, List.append_nil])
      have hkn : k = n := by have := HW.out; omega
      clear hR
      obtain ⟨V, C, rfl⟩ := own_slice hown
      have HO := Lib.hid hown
      have HK := Lib.hid hkn
      clear hown hkn
      go_wp2_with fail
      go_ret
      have ho := HO.out
      rw [HR.out] at ho
      have hkn := HK.out
      subst hkn
      exact ⟨V, C, rfl, own_lower ho (by omega), hb⟩
end Go.Proofs.Ytlblcblkcphdjaa
