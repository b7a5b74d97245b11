/-
  Contracts: the search through all orders (impl), whatever is done at each order.
-/
import Derived.Test.YtfjkmocjlmcjdaaPrE
namespace Go.Proofs.Ytfjkmocjlmcjdaa
open Go.RowKit
/-- what one order does to what has been found -/
def visF (cost : List Int → Int) (n : Nat) (o : List Int) (s : Fnd) : Fnd := if o.length < n then s else updF cost o s
theorem allF_round {cost : List Int → Int} {n f : Nat} {o : List Int} {s : Fnd} : allF cost n (f + 1) o s = roundF (allF cost n f) o n 0 (if o.length < n then s else updF cost o s) := rfl
theorem own_cells {w : World} {B n c g : Nat} {xs : List Int} (h : Own w B (.slice (some ⟨g, 0, none⟩) n c) n xs) (o : Obj) : ∀ j u, (xs.map (Value.int .i64))[j]? = some u → (w.alloc o).cell? ((⟨g, 0, none⟩ : Addr).add j) = some u := by
  intro j u hu
  have hl := own_len h
  have hj : j < n := by
    have := (List.getElem?_eq_some_iff.1 hu).1
    simp at this
    omega
  have hg : g < w.heap.size := (h.lt g rfl).2
  rw [World.cell?_alloc_lt w _ _ (by rw [block_of_add]; exact hg), Addr.add_lit, Nat.zero_add, h.cellAt j (by omega)]
  exact hu
set_option maxRecDepth 100000 in
set_option maxHeartbeats 1000000 in
theorem eachOrder_any {cost : List Int → Int} {n lo top : Nat} {c1 c2 c3 c4 : Value} {I : World → Fnd → Prop} (hI : ∀ w w' s, I w s → Below w.heap.size w w' → I w' s)
    (hv : ∀ (w : World) (g N C : Nat) (os : List Int) (s : Fnd), I w s → Own w top (.slice (some ⟨g, 0, none⟩) N C) N os → N ≤ n → top ≤ w.heap.size → (∀ i ∈ os, 0 ≤ i ∧ i < n) →
      Calls Try.prog 44 #[.slice (some ⟨g, 0, none⟩) N C, c1, c2, c3, c4] w fun e w' => e = .returned (.tuple #[]) ∧ I w' (visF cost n os s) ∧ KeptI lo top w w')
    (hn7 : n ≤ 7) : ∀ (f : Nat) {g N C : Nat} {os : List Int} {s : Fnd} {w : World}, I w s → Own w top (.slice (some ⟨g, 0, none⟩) N C) N os → top ≤ w.heap.size → N + f = n + 1 → missK os n < f → (∀ i ∈ os, 0 ≤ i ∧ i < n) →
    Calls Try.prog 43 #[.int .i64 n, .slice (some ⟨g, 0, none⟩) N C, .func (Fn.func 44) #[] #[c1, c2, c3, c4]] w fun e w' => e = .returned (.tuple #[]) ∧ I w' (allF cost n f os s) ∧ KeptI lo top w w' := by
  obtain ⟨i0, hi, hz0, hz1, hz2⟩ := info_parts info3
  have HII := Lib.hid hI
  have HV := Lib.hid hv
  clear hI hv
  intro f
  induction f with
  | zero => intro g N C os s w _ _ _ _ h; omega
  | succ f ih =>
    intro g N C os s w hIw ho hL hNf hmiss hios
    have HI := Lib.hid hios
    have HMI := Lib.hid hmiss
    have HO := Lib.hid (own_len ho)
    have HIW := Lib.hid hIw
    clear hios hmiss hIw
    go_enter Try.func43, Try.ntmps43
    go_wp2_with fail
    refine (HV.out _ g N C os s HIW.out ho (by omega) hL HI.out).mono ?_
    rintro e1 w1 ⟨rfl, hI1, hk1⟩
    have HI1 := Lib.hid hI1
    have ho1 := row_keptI ho hk1 (fun k hk => .inr (ho.lt k hk).1)
    have hs1 := hk1.size
    clear hI1
    go_wp2_with fail
    go_loopw [6] (fun u wr => ∃ (k : Nat) (s1 : Fnd), k ≤ n ∧ u = .int .i64 k ∧ I wr s1 ∧ roundF (allF cost n f) os (n - k) k s1 = allF cost n (f + 1) os s ∧ Own wr top (.slice (some ⟨g, 0, none⟩) N C) N os ∧ KeptI lo top w wr) (fun u _ => n - (intOf u).toNat)
    case atStart => exact ⟨0, _, Nat.zero_le _, rfl, HI1.out, rfl, ho1, hk1⟩
    case round =>
      clear hk1 ho1 ho hs1
      obtain ⟨k, s1, hk, rfl, hIr, hrf1, ho1, hk1⟩ := hrel
      have HIR := Lib.hid hIr
      clear hIr
      by_cases hlt : k < n
      · have HRF := Lib.hid ((roundF_step hlt).symm.trans hrf1)
        clear hrf1
        by_cases hmem : (k : Int) ∈ os
        · have HME := Lib.hid hmem
          have d1 : decide ((k : Int) ∈ os) = true := by simpa using hmem
          clear hmem
          go_wp2_with fail
          refine (hasI_any (own_rints ho1) (by omega)).mono ?_
          rintro e1 w2 ⟨rfl, rfl⟩
          go_wp2_with fail
          go_roundw
          case rel =>
            have h9 := HRF.out
            rw [if_pos HME.out] at h9
            exact ⟨k + 1, s1, by omega, by go_num, HIR.out, h9, ho1, hk1⟩
          case measure => simp [intOf]; omega
        · have HME := Lib.hid hmem
          have d1 : decide ((k : Int) ∈ os) = false := by simpa using hmem
          clear hmem
          go_wp2_with fail
          refine (hasI_any (own_rints ho1) (by omega)).mono ?_
          rintro e1 w2 ⟨rfl, rfl⟩
          have hLr : top ≤ wr.heap.size := Nat.le_trans hL hk1.size
          have h0 := own_empty wr wr.heap.size (Nat.le_refl _)
          have HC := Lib.hid (own_cells ho1 (.cells #[] 3))
          go_wp2_with (first
            | (at_builtin; refine wpList_append_own _ rfl (.tmp 20) (.tmp 21) 22 rfl wr.heap.size 3 i0 (.int .i64 0) 1 8 Try.underlying22 hi hz0 hz1 hz2 rfl (by decide) _ _ _ rfl h0 _ N _ (os.map (Value.int .i64)) rfl (by rw [List.length_map, HO.out]; omega) HC.out (by intro u hu; obtain ⟨x, hx9, rfl⟩ := List.mem_map.1 hu; rfl) (by unfold maxLen; omega) (by omega) (by simp) ?_; intro v1 wa hown1 hgr1 _; have ho2 : Own wa wr.heap.size v1 N os := (by simpa [Own] using hown1); have hkb1 := (Below.alloc (Below.refl wr.heap.size wr) (Nat.le_refl _) (.cells #[] 3)).trans (below_grown h0 (by simp) hgr1); simp only [Nat.zero_add] at hown1)
            | (at_builtin; refine wpList_append_lies _ rfl (.tmp 22) (.tmp 24) 22 rfl wr.heap.size 3 i0 (.int .i64 0) 1 8 Try.underlying22 hi hz0 hz1 hz2 rfl (by decide) _ N _ rfl (row_alloc ho2 (.cells #[.int .i64 k] 3)) _ 1 1 [.int .i64 k] rfl rfl (new_one _ _ rfl _ _) (by intro u hu; simp at hu; subst hu; rfl) (by omega) (by unfold maxLen; omega) (by omega) (by have := hkb1.size; simp; omega) _ rfl ?_; intro g9 cap w9 hown9 hgr9 _ _))
          have hkb := (hkb1.alloc hkb1.size (.cells #[.int .i64 k] 3)).trans (grown_below hgr9 (by have := hkb1.size; simp; omega) (fun q hq => (ho2.lt q hq).1))
          have HN := Lib.hid (own_lower (own_app hown9) hLr)
          clear hown1 hgr1 hown9 hgr9 ho2 h0 hkb1
          have hmn : missK (os ++ [(k : Int)]) n < f := by have := missK_app (by omega : (0 : Int) ≤ k) HME.out (k := n) (by omega); have := HMI.out; omega
          refine (ih (HII.out _ _ _ HIR.out hkb) HN.out (Nat.le_trans hLr hkb.size) (by omega) hmn (by intro i hi; rcases List.mem_append.1 hi with h | h; exact HI.out i h; simp at h; omega)).mono ?_
          rintro e1 wz ⟨rfl, hIz, hkz⟩
          have HZ := Lib.hid hIz
          have hne := (KeptI.of_below (lo := lo) (hi := top) hkb).trans hkz
          clear hIz hmn
          go_wp2_with fail
          go_roundw
          case rel =>
            have h9 := HRF.out
            rw [if_neg HME.out] at h9
            exact ⟨k + 1, _, by omega, by go_num, HZ.out, h9, row_keptI ho1 hne (fun k hk => .inr (ho1.lt k hk).1), hk1.trans hne⟩
          case measure => simp [intOf]; omega
      · have HRF := Lib.hid ((roundF_end hlt _).symm.trans hrf1)
        clear hrf1
        go_wp2_with fail
        go_end0
        rw [← HRF.out]
        exact ⟨rfl, HIR.out, hk1⟩
end Go.Proofs.Ytfjkmocjlmcjdaa
