/-
  Contracts: a number put in its place in a sorted row.
-/
import Derived.Test.YtfgnjokiadlieaaPr12
import Derived.Laws.AppendOwnNone
namespace Go.Proofs.Ytfgnjokiadlieaa
open Go.RowKit
theorem putL_end {zs : List Int} {k n : Nat} {y : Int} (hl : zs.length = n) (hk : ¬ k < n) : putL y (zs.drop k) = [y] := by
  rw [List.drop_eq_nil_of_le (by omega)]; rfl
theorem rints_take {w : World} {B n k : Nat} {ad : Addr} {zs : List Int} (hr : RInts w B (some ad) n zs) : ∀ j u, ((zs.take k).map (Value.int .i64))[j]? = some u → w.cell? (ad.add j) = some u := by
  intro j u hu
  rw [List.map_take] at hu
  have h1 : (zs.map (Value.int .i64))[j]? = some u := by
    rw [List.getElem?_take] at hu
    split at hu
    · exact hu
    · cases hu
  have hj : j < (zs.map (Value.int .i64)).length := (List.getElem?_eq_some_iff.1 h1).1
  have hl := hr.len
  rw [List.length_map] at hj
  obtain ⟨ad', e, hb, hcell⟩ := hr.2 (by omega)
  injection e with e
  subst e
  exact hcell j u h1
theorem rints_drop {w : World} {B n k : Nat} {ad : Addr} {zs : List Int} (hr : RInts w B (some ad) n zs) : ∀ j u, ((zs.drop k).map (Value.int .i64))[j]? = some u → w.cell? ((ad.add k).add j) = some u := by
  intro j u hu
  rw [List.map_drop, List.getElem?_drop] at hu
  have hj : k + j < (zs.map (Value.int .i64)).length := (List.getElem?_eq_some_iff.1 hu).1
  have hl := hr.len
  rw [List.length_map] at hj
  obtain ⟨ad', e, hb, hcell⟩ := hr.2 (by omega)
  injection e with e
  subst e
  have := hcell (k + j) u hu
  rw [Go.Addr.add_add]
  exact this
theorem own_app0 {w : World} {B n : Nat} {v : Value} {xs ys : List Int} (h : w.ownsRow B 3 1 v n (xs.map (Value.int .i64) ++ ys.map (Value.int .i64))) : Own w B v n (xs ++ ys) := by
  unfold Own
  rw [List.map_append]
  exact h
set_option maxRecDepth 100000 in
theorem l1Put_any {A : Option Addr} {n c : Nat} {zs : List Int} {y : Int} {w : World} (hr : RInts w w.heap.size A n zs) (hn : n ≤ 1048576) (hnc : n ≤ c) (hc : A = none → c = 0) :
    Calls Try.prog 61 #[.slice A n c, .int .i64 y] w fun e w' => ∃ V N C, e = .returned (.slice V N C) ∧ ((V = A ∧ N = n ∧ C = c ∧ putL y zs = zs) ∨ Own w' w.heap.size (.slice V N C) N (putL y zs)) ∧ Below w.heap.size w w' := by
  obtain ⟨i0, hi, hz0, hz1, hz2⟩ := info_parts info3
  have HR := Lib.hid hr
  have HL := Lib.hid hr.len
  cases A with
  | none =>
    have hn0 : n = 0 := by
      rcases Nat.eq_zero_or_pos n with h | h
      · exact h
      · obtain ⟨ad, e, _⟩ := hr.2 h
        cases e
    have hc0 := hc rfl
    subst hn0 hc0
    have hx : zs = [] := List.eq_nil_of_length_eq_zero hr.len
    subst hx
    clear hr hc HR HL hn hnc
    have h0 := own_empty w w.heap.size (Nat.le_refl _)
    go_enter Try.func61, Try.ntmps61
    go_wp2_with fail
    go_loop [5] (fun i => i = .int .i64 0) (fun _ => 0)
    case atStart => rfl
    case round =>
      subst hrel
      go_wp2_with (first | (at_builtin; refine wpList_append_own_none rfl _ _ 29 rfl w.heap.size 3 i0 1 Try.underlying29 hi _ _ _ rfl h0 rfl ?_) | (at_builtin; refine wpList_append_own _ rfl _ _ 29 rfl (w.heap.size) 3 i0 (.int .i64 0) 1 8 Try.underlying29 hi hz0 hz1 hz2 rfl (by decide) _ _ _ rfl (h0.alloc _) ⟨w.heap.size+1, 0, none⟩ 1 1 [.int .i64 y] rfl rfl (new_one _ _ (by simp) _ _) (by intro u hu; simp at hu; subst hu; rfl) (by unfold maxLen; omega) (by omega) (by simp <;> omega) ?_))
      intro v2 w2 hown2 hgrow2 _
      have ho2 : Own w2 w.heap.size v2 1 [y] := by simpa [Own] using hown2
      have hkb := below_grown (h0.alloc _) (by simp <;> omega) hgrow2
      have hb : Below w.heap.size w w2 := Below.trans (by (repeat (first | exact Below.refl _ _ | exact hb | apply Below.drew | (refine Below.alloc ?_ (by first | (simp; done) | (simp; omega) | (have := hb.size; simp at this ⊢; omega)) _) | (refine Below.setCell ?_ (by simp) _)))) hkb
      clear hown2 hgrow2 hkb
      obtain ⟨V2, C2, rfl⟩ := own_slice ho2
      go_wp2_with (at_builtin; refine wpList_append_own_none rfl _ _ 29 rfl w.heap.size 3 i0 1 Try.underlying29 hi _ _ _ rfl ho2 rfl ?_)
      have HO := Lib.hid ho2
      clear ho2
      go_wp2_with fail
      go_ret
      exact ⟨_, _, _, rfl, .inr HO.out, hb⟩
  | some ad =>
    clear hc
    go_enter Try.func61, Try.ntmps61
    go_wp2_with fail
    go_loop [5] (fun i => ∃ k : Nat, k ≤ n ∧ i = .int .i64 k ∧ putL y zs = zs.take k ++ putL y (zs.drop k)) (fun i => n - (intOf i).toNat)
    case atStart => exact ⟨0, Nat.zero_le _, rfl, by simp⟩
    case round =>
      obtain ⟨k, hk, rfl, hR⟩ := hrel
      by_cases hlt : k < n
      · obtain ⟨ad', z, eA, hbk, hd, hy, hcell⟩ := hr.at_ hlt
        injection eA with eA
        subst eA
        by_cases hz : z < y
        · have HP := Lib.hid (show putL y zs = zs.take (k + 1) ++ putL y (zs.drop (k + 1)) by rw [hR, hd, putL, if_pos hz, List.take_add_one, hy]; simp)
          clear hR hd hy
          go_wp2_with fail
          go_round
          case rel => exact ⟨k + 1, by omega, by go_num, HP.out⟩
          case measure => simp [intOf]; omega
        · by_cases hq : z = y
          · have e1 : (z == y) = true := by simp [hq]
            have HP := Lib.hid (show putL y zs = zs by
              rw [hR, hd, putL, if_neg hz, if_pos hq, ← hd]
              exact List.take_append_drop k zs)
            clear hR hd hy hq
            go_wp2_with fail
            go_ret
            exact ⟨_, _, _, rfl, .inl ⟨rfl, rfl, rfl, HP.out⟩, Below.refl _ _⟩
          · have e1 : (z == y) = false := by simp [hq]
            have HP := Lib.hid (show putL y zs = (zs.take k ++ [y]) ++ zs.drop k by
              rw [hR, hd, putL, if_neg hz, if_neg hq]; simp)
            have hkc : k < c := by omega
            have hkc2 : ¬ c = k := by omega
            clear hR hd hy hq

            have h0 := own_empty w w.heap.size (Nat.le_refl _)
            have hb : Below w.heap.size w (w.alloc (.cells #[] 3)) := (by (repeat (first | exact Below.refl _ _ | exact hb | apply Below.drew | (refine Below.alloc ?_ (by first | (simp; done) | (simp; omega) | (have := hb.size; simp at this ⊢; omega)) _) | (refine Below.setCell ?_ (by simp) _))))
            go_wp2_with (at_builtin; refine wpList_append_own _ rfl _ _ 29 rfl w.heap.size 3 i0 (.int .i64 0) 1 8 Try.underlying29 hi hz0 hz1 hz2 rfl (by decide) _ _ _ rfl h0 _ _ _ ((zs.take k).map (Value.int .i64)) rfl (by have := HR.out.len; simp; omega) (rints_take (RInts.below HR.out hb)) (by intro u hu; obtain ⟨x, hx9, rfl⟩ := List.mem_map.1 hu; rfl) (by unfold maxLen; omega) (by omega) (by first | omega | (simp <;> omega)) ?_)
            intro v1 w1 hown1 hgrow1 _
            have hkb := below_grown h0 (by simp) hgrow1
            replace hb := hb.trans hkb
            have ho1 : Own w1 w.heap.size v1 k (zs.take k) := by simpa [Own] using hown1
            obtain ⟨V1, C1, rfl⟩ := own_slice ho1
            have hs1 := hb.size
            clear hown1 hgrow1 hkb h0
            go_wp2_with (at_builtin; refine wpList_append_own _ rfl _ _ 29 rfl (w.heap.size) 3 i0 (.int .i64 0) 1 8 Try.underlying29 hi hz0 hz1 hz2 rfl (by decide) _ _ _ rfl (ho1.alloc _) ⟨w1.heap.size, 0, none⟩ 1 1 [.int .i64 (y)] rfl rfl (new_one _ _ (by simp) _ _) (by intro u hu; simp at hu; subst hu; rfl) (by unfold maxLen; omega) (by omega) (by simp <;> omega) ?_)
            intro v2 w2 hown2 hgrow2 _
            have ho2 : Own w2 w.heap.size v2 (k + 1) (zs.take k ++ [y]) := by simpa [Own] using hown2
            have hkb := below_grown (ho1.alloc _) (by simp <;> omega) hgrow2
            replace hb := (hb.alloc hs1 _).trans hkb
            obtain ⟨V2, C2, rfl⟩ := own_slice ho2
            have hs2 := hb.size
            clear hown2 hgrow2 hkb ho1 hs1
            go_wp2_with (at_builtin; refine wpList_append_own _ rfl _ _ 29 rfl w.heap.size 3 i0 (.int .i64 0) 1 8 Try.underlying29 hi hz0 hz1 hz2 rfl (by decide) _ _ _ rfl ho2 _ _ _ ((zs.drop k).map (Value.int .i64)) rfl (by have := HR.out.len; simp; omega) (rints_drop (RInts.below HR.out hb)) (by intro u hu; obtain ⟨x, hx9, rfl⟩ := List.mem_map.1 hu; rfl) (by unfold maxLen; omega) (by omega) (by first | omega | (simp <;> omega)) ?_)
            intro v3 w3 hown3 hgrow3 _
            have hkb := below_grown ho2 hs2 hgrow3
            replace hb := hb.trans hkb
            have ho3 : Own w3 w.heap.size v3 (k + 1 + (n - k)) (zs.take k ++ [y] ++ zs.drop k) := by simpa [Own] using hown3
            obtain ⟨V3, C3, rfl⟩ := own_slice ho3
            have HO := Lib.hid ho3
            clear hown3 hgrow3 hkb ho2 hs2 ho3
            go_wp2_with fail
            go_ret
            exact ⟨_, _, _, rfl, .inr (by rw [HP.out]; exact HO.out), hb⟩

      · have hkn : k = n := by omega
        have HP := Lib.hid (show putL y zs = (zs.take k ++ [y]) ++ [] by
          rw [hR, putL_end HL.out hlt]; simp)
        clear hR
        subst hkn
        by_cases hkc2 : c = k
        · skip

          have h0 := own_empty w w.heap.size (Nat.le_refl _)
          have hb : Below w.heap.size w (w.alloc (.cells #[] 3)) := (by (repeat (first | exact Below.refl _ _ | exact hb | apply Below.drew | (refine Below.alloc ?_ (by first | (simp; done) | (simp; omega) | (have := hb.size; simp at this ⊢; omega)) _) | (refine Below.setCell ?_ (by simp) _))))
          go_wp2_with (at_builtin; refine wpList_append_own _ rfl _ _ 29 rfl w.heap.size 3 i0 (.int .i64 0) 1 8 Try.underlying29 hi hz0 hz1 hz2 rfl (by decide) _ _ _ rfl h0 _ _ _ ((zs.take k).map (Value.int .i64)) rfl (by have := HR.out.len; simp; omega) (rints_take (RInts.below HR.out hb)) (by intro u hu; obtain ⟨x, hx9, rfl⟩ := List.mem_map.1 hu; rfl) (by unfold maxLen; omega) (by omega) (by first | omega | (simp <;> omega)) ?_)
          intro v1 w1 hown1 hgrow1 _
          have hkb := below_grown h0 (by simp) hgrow1
          replace hb := hb.trans hkb
          have ho1 : Own w1 w.heap.size v1 k (zs.take k) := by simpa [Own] using hown1
          obtain ⟨V1, C1, rfl⟩ := own_slice ho1
          have hs1 := hb.size
          clear hown1 hgrow1 hkb h0
          go_wp2_with (at_builtin; refine wpList_append_own _ rfl _ _ 29 rfl (w.heap.size) 3 i0 (.int .i64 0) 1 8 Try.underlying29 hi hz0 hz1 hz2 rfl (by decide) _ _ _ rfl (ho1.alloc _) ⟨w1.heap.size, 0, none⟩ 1 1 [.int .i64 (y)] rfl rfl (new_one _ _ (by simp) _ _) (by intro u hu; simp at hu; subst hu; rfl) (by unfold maxLen; omega) (by omega) (by simp <;> omega) ?_)
          intro v2 w2 hown2 hgrow2 _
          have ho2 : Own w2 w.heap.size v2 (k + 1) (zs.take k ++ [y]) := by simpa [Own] using hown2
          have hkb := below_grown (ho1.alloc _) (by simp <;> omega) hgrow2
          replace hb := (hb.alloc hs1 _).trans hkb
          obtain ⟨V2, C2, rfl⟩ := own_slice ho2
          have hs2 := hb.size
          clear hown2 hgrow2 hkb ho1 hs1
          go_wp2_with (at_builtin; refine wpList_append_own _ rfl _ _ 29 rfl w.heap.size 3 i0 (.int .i64 0) 1 8 Try.underlying29 hi hz0 hz1 hz2 rfl (by decide) _ _ _ rfl ho2 _ _ _ ((([] : List Int)).map (Value.int .i64)) rfl (by simp <;> omega) (by intro j u hu; simp at hu) (by intro u hu; obtain ⟨x, hx9, rfl⟩ := List.mem_map.1 hu; rfl) (by unfold maxLen; omega) (by omega) (by first | omega | (simp <;> omega)) ?_)
          intro v3 w3 hown3 hgrow3 _
          have hkb := below_grown ho2 hs2 hgrow3
          replace hb := hb.trans hkb
          have ho3 : Own w3 w.heap.size v3 (k + 1) (zs.take k ++ [y] ++ ([] : List Int)) := by simpa [Own] using hown3
          obtain ⟨V3, C3, rfl⟩ := own_slice ho3
          have HO := Lib.hid ho3
          clear hown3 hgrow3 hkb ho2 hs2 ho3
          go_wp2_with fail
          go_ret
          exact ⟨_, _, _, rfl, .inr (by rw [HP.out]; exact HO.out), hb⟩

        · skip

          have h0 := own_empty w w.heap.size (Nat.le_refl _)
          have hb : Below w.heap.size w (w.alloc (.cells #[] 3)) := (by (repeat (first | exact Below.refl _ _ | exact hb | apply Below.drew | (refine Below.alloc ?_ (by first | (simp; done) | (simp; omega) | (have := hb.size; simp at this ⊢; omega)) _) | (refine Below.setCell ?_ (by simp) _))))
          go_wp2_with (at_builtin; refine wpList_append_own _ rfl _ _ 29 rfl w.heap.size 3 i0 (.int .i64 0) 1 8 Try.underlying29 hi hz0 hz1 hz2 rfl (by decide) _ _ _ rfl h0 _ _ _ ((zs.take k).map (Value.int .i64)) rfl (by have := HR.out.len; simp; omega) (rints_take (RInts.below HR.out hb)) (by intro u hu; obtain ⟨x, hx9, rfl⟩ := List.mem_map.1 hu; rfl) (by unfold maxLen; omega) (by omega) (by first | omega | (simp <;> omega)) ?_)
          intro v1 w1 hown1 hgrow1 _
          have hkb := below_grown h0 (by simp) hgrow1
          replace hb := hb.trans hkb
          have ho1 : Own w1 w.heap.size v1 k (zs.take k) := by simpa [Own] using hown1
          obtain ⟨V1, C1, rfl⟩ := own_slice ho1
          have hs1 := hb.size
          clear hown1 hgrow1 hkb h0
          go_wp2_with (at_builtin; refine wpList_append_own _ rfl _ _ 29 rfl (w.heap.size) 3 i0 (.int .i64 0) 1 8 Try.underlying29 hi hz0 hz1 hz2 rfl (by decide) _ _ _ rfl (ho1.alloc _) ⟨w1.heap.size, 0, none⟩ 1 1 [.int .i64 (y)] rfl rfl (new_one _ _ (by simp) _ _) (by intro u hu; simp at hu; subst hu; rfl) (by unfold maxLen; omega) (by omega) (by simp <;> omega) ?_)
          intro v2 w2 hown2 hgrow2 _
          have ho2 : Own w2 w.heap.size v2 (k + 1) (zs.take k ++ [y]) := by simpa [Own] using hown2
          have hkb := below_grown (ho1.alloc _) (by simp <;> omega) hgrow2
          replace hb := (hb.alloc hs1 _).trans hkb
          obtain ⟨V2, C2, rfl⟩ := own_slice ho2
          have hs2 := hb.size
          clear hown2 hgrow2 hkb ho1 hs1
          go_wp2_with (at_builtin; refine wpList_append_own _ rfl _ _ 29 rfl w.heap.size 3 i0 (.int .i64 0) 1 8 Try.underlying29 hi hz0 hz1 hz2 rfl (by decide) _ _ _ rfl ho2 _ _ _ ((([] : List Int)).map (Value.int .i64)) rfl (by simp <;> omega) (by intro j u hu; simp at hu) (by intro u hu; obtain ⟨x, hx9, rfl⟩ := List.mem_map.1 hu; rfl) (by unfold maxLen; omega) (by omega) (by first | omega | (simp <;> omega)) ?_)
          intro v3 w3 hown3 hgrow3 _
          have hkb := below_grown ho2 hs2 hgrow3
          replace hb := hb.trans hkb
          have ho3 : Own w3 w.heap.size v3 (k + 1) (zs.take k ++ [y] ++ ([] : List Int)) := by simpa [Own] using hown3
          obtain ⟨V3, C3, rfl⟩ := own_slice ho3
          have HO := Lib.hid ho3
          clear hown3 hgrow3 hkb ho2 hs2 ho3
          go_wp2_with fail
          go_ret
          exact ⟨_, _, _, rfl, .inr (by rw [HP.out]; exact HO.out), hb⟩

end Go.Proofs.Ytfgnjokiadlieaa
