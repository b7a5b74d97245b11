/-
  Contracts: numbers put in their order, and sorted.
-/
import Derived.Test.YtfgnjokiadlieaaPr11
import Derived.Test.YtfgnjokiadlieaaPrS
import Derived.Test.YtfgnjokiadlieaaSum
import Derived.Sort.OwnSortedInts
namespace Go.Proofs.Ytfgnjokiadlieaa
open Go.RowKit
def putL (n : Int) : List Int → List Int
  | [] => [n]
  | z :: r => if z < n then z :: putL n r else if z = n then z :: r else n :: z :: r
def sortI (xs : List Int) : List Int := xs.mergeSort fun x y => decide (x ≤ y)
theorem sortI_len (xs : List Int) : (sortI xs).length = xs.length := (List.mergeSort_perm xs _).length_eq
theorem putL_perm : ∀ {zs : List Int} {n : Int}, ¬ n ∈ zs → (putL n zs).Perm (n :: zs)
  | [], _, _ => List.Perm.refl _
  | z :: r, n, h => by
    simp only [List.mem_cons, not_or] at h
    rw [putL]
    split
    · exact ((putL_perm h.2).cons z).trans (List.Perm.swap n z r)
    · rw [if_neg (fun e => h.1 e.symm)]
theorem putL_mem {zs : List Int} {n x : Int} (h : x ∈ putL n zs) : x = n ∨ x ∈ zs := by
  induction zs with
  | nil => simp [putL] at h; exact .inl h
  | cons z r ih =>
    rw [putL] at h
    split at h
    · rcases List.mem_cons.1 h with rfl | h
      · right; simp
      · rcases ih h with rfl | h
        · exact .inl rfl
        · right; simp [h]
    · split at h
      · right; exact h
      · rcases List.mem_cons.1 h with rfl | h
        · exact .inl rfl
        · exact .inr h
theorem putL_sorted : ∀ {zs : List Int} {n : Int}, zs.Pairwise (· ≤ ·) → (putL n zs).Pairwise (· ≤ ·)
  | [], _, _ => by simp [putL]
  | z :: r, n, h => by
    have h' := List.pairwise_cons.1 h
    rw [putL]
    split
    · rename_i hlt
      refine List.pairwise_cons.2 ⟨fun x hx => ?_, putL_sorted h'.2⟩
      rcases putL_mem hx with rfl | hx
      · omega
      · exact h'.1 x hx
    · split
      · exact h
      · rename_i h1 h2
        refine List.pairwise_cons.2 ⟨fun x hx => ?_, h⟩
        rcases List.mem_cons.1 hx with rfl | hx
        · omega
        · have := h'.1 x hx; omega
theorem fold_putL : ∀ {late zs : List Int}, late.Nodup → (∀ x ∈ late, ¬ x ∈ zs) → zs.Pairwise (· ≤ ·) → (late.foldl (fun z n => putL n z) zs).Pairwise (· ≤ ·) ∧ (late.foldl (fun z n => putL n z) zs).Perm (late ++ zs)
  | [], zs, _, _, h => ⟨h, List.Perm.refl _⟩
  | n :: r, zs, hd, hm, h => by
    have hd' := List.nodup_cons.1 hd
    have hn : ¬ n ∈ zs := hm n (by simp)
    obtain ⟨h1, h2⟩ := fold_putL (late := r) (zs := putL n zs) hd'.2 (fun x hx hz => by
      rcases putL_mem hz with rfl | hz
      · exact hd'.1 hx
      · exact hm x (by simp [hx]) hz) (putL_sorted h)
    refine ⟨h1, h2.trans ?_⟩
    exact ((putL_perm hn).append_left r).trans (List.perm_middle)
theorem fold_sortI {late : List Int} (h : late.Nodup) : late.foldl (fun z n => putL n z) [] = sortI late := by
  obtain ⟨h1, h2⟩ := fold_putL h (zs := []) (by simp) (by simp)
  rw [List.append_nil] at h2
  have h3 := List.pairwise_mergeSort (le := fun x y : Int => decide (x ≤ y)) (fun a b c => by simp; omega) (fun a b => by simp; omega) late
  refine List.Perm.eq_of_pairwise (le := fun a b : Int => a ≤ b) (fun a b _ _ h h' => by omega) h1 (h3.imp (fun h => by simpa using h)) (h2.trans (List.mergeSort_perm late _).symm)
theorem dupL_nodup : ∀ {os seen : List Int}, dupL seen os = true → os.Nodup ∧ ∀ x ∈ os, ¬ x ∈ seen
  | [], _, _ => ⟨by simp, by simp⟩
  | y :: r, seen, h => by
    simp only [dupL, Bool.and_eq_true, Bool.not_eq_true', decide_eq_false_iff_not] at h
    obtain ⟨h1, h2⟩ := dupL_nodup h.2
    refine ⟨List.nodup_cons.2 ⟨fun hy => h2 y hy (by simp), h1⟩, fun x hx => ?_⟩
    rcases List.mem_cons.1 hx with rfl | hx
    · exact h.1
    · exact fun hs => h2 x hx (by simp [hs])
set_option maxRecDepth 100000 in
theorem sorted_any {ad : Addr} {n c : Nat} {xs : List Int} {w : World} (hr : RInts w w.heap.size (some ad) n xs) (hn : n ≤ 1048576) :
    Calls Try.prog 64 #[.slice (some ad) n c] w fun e w' => ∃ V C, e = .returned (.slice V n C) ∧ Own w' w.heap.size (.slice V n C) n (sortI xs) ∧ Below w.heap.size w w' := by
  obtain ⟨i0, hi, hz0, hz1, hz2⟩ := info_parts info3
  have h0 := own_empty w w.heap.size (Nat.le_refl _)
  have hrc : ∀ j u, (xs.map (Value.int .i64))[j]? = some u → (w.alloc (.cells #[] 3)).cell? (ad.add j) = some u := by
    intro j u hu
    by_cases hn0 : 0 < n
    · obtain ⟨ad', e, hb, hcell⟩ := hr.2 hn0
      injection e with e
      subst e
      rw [World.cell?_alloc_lt w _ _ (by rw [block_of_add]; exact hb)]
      exact hcell j u hu
    · have : xs = [] := List.eq_nil_of_length_eq_zero (by have := hr.len; omega)
      subst this
      simp at hu
  have HC := Lib.hid hrc
  have HL := Lib.hid (show (xs.map (Value.int .i64)).length = n * 1 by simp [hr.len])
  have HN := Lib.hid hr.len
  clear hr hrc
  go_enter Try.func64, Try.ntmps64
  go_wp2_with (at_builtin; refine wpList_append_own _ rfl _ _ 29 rfl w.heap.size 3 i0 (.int .i64 0) 1 8 Try.underlying29 hi hz0 hz1 hz2 rfl (by decide) _ _ _ rfl h0 ad n _ (xs.map (Value.int .i64)) rfl HL.out HC.out (by intro u hu; simp at hu; obtain ⟨x, _, rfl⟩ := hu; rfl) (by unfold maxLen; omega) (by omega) (by simp) ?_)
  intro v' w1 hown' hgrow hnil
  have hkb := below_grown h0 (by simp) hgrow
  have ho2 : Own w1 w.heap.size v' n xs := by simpa [Own] using hown'
  have hb : Below w.heap.size w w1 := Below.trans (by (repeat (first | exact Below.refl _ _ | exact hb | apply Below.drew | (refine Below.alloc ?_ (by first | (simp; done) | (simp; omega) | (have := hb.size; simp at this ⊢; omega)) _) | (refine Below.setCell ?_ (by simp) _)))) hkb
  have hne : v' ≠ .slice none 0 0 := by simpa using hnil
  rcases ho2.2 with ⟨h9, _⟩ | ⟨g, cap, cur, rfl, hB, hg, hnc, hcm, hcs, htk⟩
  · exact absurd h9 hne
  have hxl := HN.out
  subst hxl
  rw [Nat.mul_one] at htk
  have hH := holds_of_blockI hg htk
  have hlt := (Array.getElem?_eq_some_iff.1 hg).1
  have HK := Lib.hid (And.intro hg (And.intro hnc (And.intro hcm hcs)))
  clear hown' hgrow hkb h0 ho2 hnil hne hg hcs htk HN HL HC
  go_wp2_with fail
  refine (Try.sort_Ints g 0 cap xs w1 hH hlt (by omega)).mono ?_
  rintro e1 w3 ⟨rfl, N, os, hw⟩
  have ho : Own w3 w.heap.size (.slice (some ⟨g, 0, none⟩) xs.length cap) xs.length (sortI xs) := by
    rw [hw]
    exact ownsRow_sortedI (sortI_len xs) hB HK.out.1 HK.out.2.1 HK.out.2.2.1 HK.out.2.2.2
  have hgr : w1.grownBy w3 (some g) := by rw [hw]; exact grownBy_sortedI _
  have hb3 := hb.grown hgr hb.size (fun k e => by injection e with e; omega)
  clear hw hH
  have HO := Lib.hid ho
  clear ho hgr
  go_wp2_with fail
  go_ret
  exact ⟨_, _, rfl, HO.out, hb3⟩
end Go.Proofs.Ytfgnjokiadlieaa
