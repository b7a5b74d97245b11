/-
  Contracts: LeastCast.
-/
import Derived.Test.YtlblcblkcphdjaaSt8
namespace Go.Proofs.Ytlblcblkcphdjaa
open Go.RowKit
def incL (zs : List Int) (s : Nat) : List Int := zs.set s (zs.getD s 0 + 1)
def lcL (fs : List Frm) (s : Nat) : Nat → Int → List Int → Int × Bool
  | 0, _, _ => (0, false)
  | f + 1, k, zs => if (resF fs zs []).length = fs.length then (k, true) else lcL fs s f (k + 1) (incL zs s)
def lcR (fr : List Int) (fs : List Frm) (i : Int) : Int × Bool := if aosG fr fs i then lcL fs i.toNat 1001 0 fr else (0, false)
theorem incL_bd {zs : List Int} {s : Nat} {B : Int} (h : ∀ x ∈ zs, 0 ≤ x ∧ x ≤ B) : ∀ x ∈ incL zs s, 0 ≤ x ∧ x ≤ B + 1 := by
  intro x hx
  unfold incL at hx
  rcases List.mem_or_eq_of_mem_set hx with h1 | h1
  · have := h x h1; omega
  · subst h1
    rw [List.getD_eq_getElem?_getD]
    cases hq : zs[s]? with
    | none =>
      rw [List.set_eq_of_length_le (by simpa using hq)] at hx
      simp only [List.getD_eq_getElem?_getD, hq, Option.getD_none] at hx
      have := h _ hx
      simp
      omega
    | some y => have := h y (List.mem_of_getElem? hq); simp; omega
set_option maxRecDepth 100000 in
theorem leastCast_spec {A B : Option Addr} {n c m d : Nat} {fr : List Int} {fs : List Frm} {i : Int} {w : World} (hr : RInts w w.heap.size A n fr) (hn0 : n ≤ 1048576) (hs : AForms w B m fs) (hm0 : m ≤ 1048576) (_ : -9223372036854775808 ≤ i ∧ i ≤ 9223372036854775807) :
    Calls Try.prog 35 #[.slice A n c, .slice B m d, .int .i64 i] w fun e w' => e = .returned (.tuple #[.int .i64 (lcR fr fs i).1, .bool (lcR fr fs i).2]) ∧ Below w.heap.size w w' := by
  have HFR0 := Lib.hid hr.len
  have HS := Lib.hid hs
  cases h1 : stG fr fs
  · (go_enter Try.func35, Try.ntmps35; go_wp2_with fail; refine (stGood_a hr hn0 hs hm0).mono ?_; rintro e w1 ⟨rfl, hn⟩)
    go_wp2_with fail
    go_ret2
    exact ⟨by simp [lcR, aosG, h1], hn⟩
  cases h2 : inB i 0 ((n : Int) - 1)
  · (go_enter Try.func35, Try.ntmps35; go_wp2_with fail; refine (stGood_a hr hn0 hs hm0).mono ?_; rintro e w1 ⟨rfl, hn⟩)
    go_wp2_with (go_at_call 51; refine (stSort_any hn0).mono ?_; rintro e1 w1 ⟨rfl, rfl⟩)
    go_ret2
    exact ⟨by simp [lcR, aosG, HFR0.out, h2], hn⟩
  have q2 := inB_true.1 h2
  have HG := Lib.hid (show lcR fr fs i = lcL fs i.toNat 1001 0 fr by rw [lcR, if_pos (by simp [aosG, HFR0.out, h1, h2])])
  obtain ⟨t1, t2, t3, t4⟩ := stG_true h1; have HFR := Lib.hid hr.len; have HM := Lib.hid hs.len; have HT4 := Lib.hid t4; have HT2 := Lib.hid t2; have n6 : n ≤ 6 ∧ 1 ≤ n := (by have := HFR.out; omega); have m8 : m ≤ 8 := (by have := HM.out; omega); have HOK := Lib.hid (show ∀ f ∈ fs, (f.held.length = n ∧ ∀ x ∈ f.held, 0 ≤ x ∧ x ≤ 1000) ∧ (f.wanted.length = n ∧ ∀ x ∈ f.wanted, 0 ≤ x ∧ x ≤ 1000) from fun f hf => by have := t4 f hf; have := HFR.out; exact ⟨⟨by omega, (t4 f hf).1.2⟩, by omega, (t4 f hf).2.2⟩); clear t1 t2 t3 t4
  obtain ⟨ad, x0, rfl, hab, _, _, _⟩ := RInts.at_ hr (k := 0) (by omega)
  (go_enter Try.func35, Try.ntmps35; go_wp2_with fail; refine (stGood_a hr hn0 hs hm0).mono ?_; rintro e w1 ⟨rfl, hn⟩)
  have hr1 := (RInts.below hr hn).more hn.size
  have hs1 := hs.step hn
  have hb := hn
  clear hn
  go_wp2_with (go_at_call 51; refine (stSort_any hn0).mono ?_; rintro e1 w1 ⟨rfl, rfl⟩)
  refine (l1Own_any hr1 hn0 (fun e => by cases e)).mono ?_
  rintro e2 w2 ⟨V, C, rfl, hown, hn⟩
  obtain ⟨g, cap, hv, _, _⟩ := hown.form (by omega)
  injection hv with hv1 hv2 hv3
  subst hv1 hv3
  replace hown := own_lower hown hb.size
  have hz1 := hb.size
  replace hb := hb.trans (hn.mono hb.size)
  replace hs1 := hs1.step hn
  clear hn hr1 hr hs h1 h2
  go_wp2_with fail
  go_loopw [9] (fun u wr => ∃ (k : Nat) (zs : List Int), k ≤ 1001 ∧ u = .int .i64 k ∧ Own wr w.heap.size (.slice (some ⟨g, 0, none⟩) n C) n zs ∧ lcL fs i.toNat (1001 - k) k zs = lcL fs i.toNat 1001 0 fr ∧ (∀ x ∈ zs, 0 ≤ x ∧ x ≤ 1000 + (k : Int)) ∧ Below w.heap.size w wr ∧ w.heap.size ≤ wr.heap.size) (fun u _ => 1001 - (intOf u).toNat)
  case atStart => exact ⟨0, fr, by omega, rfl, hown, rfl, fun x hx => by have := HT2.out x hx; omega, hb, hb.size⟩
  case round =>
    clear hown hs1 hb
    obtain ⟨k, zs, hk, rfl, hown, hR, hbz, hb, hsz⟩ := hrel
    have hs1 := HS.out.step hb
    have HZ := Lib.hid (own_len hown)
    by_cases hlt : k ≤ 1000
    · have HR := Lib.hid (show (if (resF fs zs []).length = fs.length then ((k : Int), true) else lcL fs i.toNat (1001 - (k + 1)) (((k + 1 : Nat) : Int)) (incL zs i.toNat)) = lcL fs i.toNat 1001 0 fr by rw [← hR, show 1001 - k = (1001 - (k + 1)) + 1 by omega, lcL]; rfl)
      have HBZ := Lib.hid hbz
      have hrz := own_rints hown
      clear hR hbz
      go_wp2_with fail
      refine (stOrder_any hrz n6.1 n6.2 hs1 m8 HOK.out (fun x hx => by have := HBZ.out x hx; omega)).mono ?_
      rintro e3 w3 ⟨V3, N3, C3, rfl, ho3, hN3, hn⟩
      have HN3 := Lib.hid (own_len ho3)
      replace hown := row_step hown hn
      replace hs1 := hs1.step hn
      replace hb := hb.trans (hn.mono hb.size)
      replace hsz := Nat.le_trans hsz hn.size
      clear hn ho3 hrz
      by_cases h5 : N3 = m
      · have e1 : ((N3 : Int) == (m : Int)) = true := by simp [h5]
        have HQ := Lib.hid (show (resF fs zs []).length = fs.length by have := HN3.out; have := HM.out; omega)
        clear h5
        go_wp2_with fail
        go_ret2
        exact ⟨by rw [HG.out, ← HR.out, if_pos HQ.out]; rfl, hb⟩
      · have e1 : ((N3 : Int) == (m : Int)) = false := by rw [beq_eq_false_iff_ne]; omega
        have HQ := Lib.hid (show ¬ (resF fs zs []).length = fs.length by have := HN3.out; have := HM.out; omega)
        clear h5
        obtain ⟨x, hx⟩ : ∃ x, zs[i.toNat]? = some x := ⟨_, List.getElem?_eq_getElem (by have := HZ.out; omega)⟩
        have bx := HBZ.out x (List.mem_of_getElem? hx)
        have hgd : zs.getD i.toNat 0 = x := by rw [List.getD_eq_getElem?_getD, hx]; rfl
        have hcell : w3.cell? ⟨g, i.toNat, none⟩ = some (.int .i64 x) := by rw [hown.cellAt i.toNat (by omega), List.getElem?_map, hx]; rfl
        have hfz := hown.frozenAt i.toNat
        have HGD := Lib.hid hgd
        have hgw : w.heap.size ≤ g := (hown.lt g rfl).1
        have hi5 : i < n := by omega
        clear hx hgd
        go_wp2_with fail
        go_roundw
        case rel =>
          obtain ⟨s1, s2⟩ := hown.stored i.toNat (.int .i64 (x + 1))
          refine ⟨k + 1, incL zs i.toNat, by omega, by go_num, ?_, by rw [← HR.out, if_neg HQ.out], fun z hz => by have := incL_bd HBZ.out z hz; omega, hb.setCell (by simp; omega) _, by simpa [World.setCell] using hsz⟩
          rw [← List.map_set] at s1
          rw [incL, HGD.out]
          exact s1
        case measure => simp [intOf]; omega
    · have hk2 : k = 1001 := by omega
      have HR := Lib.hid (show lcL fs i.toNat 1001 0 fr = (0, false) by rw [← hR, hk2]; rfl)
      clear hR hk2
      go_wp2_with fail
      go_ret2
      exact ⟨by rw [HG.out, HR.out]; rfl, hb⟩
set_option maxRecDepth 100000 in
theorem leastCast_impl {A B : Option Addr} {n c m d : Nat} {fr : List Int} {fs : List Frm} {i : Int} {w : World} (hr : RInts w w.heap.size A n fr) (hn0 : n ≤ 1048576) (hs : AForms w B m fs) (hm0 : m ≤ 1048576) (_ : -9223372036854775808 ≤ i ∧ i ≤ 9223372036854775807) :
    Calls Try.prog 36 #[.slice A n c, .slice B m d, .int .i64 i] w fun e w' => e = .returned (.tuple #[.int .i64 (lcR fr fs i).1, .bool (lcR fr fs i).2]) ∧ Below w.heap.size w w' := by
  have HFR0 := Lib.hid hr.len
  have HS := Lib.hid hs
  cases h1 : stG fr fs
  · (go_enter Try.func36, Try.ntmps36; go_wp2_with fail; refine (areForms_impl hr hn0 hs hm0).mono ?_; rintro e w1 ⟨rfl, hn⟩)
    go_wp2_with fail
    go_ret2
    exact ⟨by simp [lcR, aosG, h1], hn⟩
  cases h2 : inB i 0 ((n : Int) - 1)
  · (go_enter Try.func36, Try.ntmps36; go_wp2_with fail; refine (areForms_impl hr hn0 hs hm0).mono ?_; rintro e w1 ⟨rfl, hn⟩)
    go_wp2_with (go_at_call 49; refine (within_any _ _ _ _).mono ?_; rintro e1 w1 ⟨rfl, rfl⟩)
    go_ret2
    exact ⟨by simp [lcR, aosG, HFR0.out, h2], hn⟩
  have q2 := inB_true.1 h2
  have HG := Lib.hid (show lcR fr fs i = lcL fs i.toNat 1001 0 fr by rw [lcR, if_pos (by simp [aosG, HFR0.out, h1, h2])])
  obtain ⟨t1, t2, t3, t4⟩ := stG_true h1; have HFR := Lib.hid hr.len; have HM := Lib.hid hs.len; have HT4 := Lib.hid t4; have HT2 := Lib.hid t2; have n6 : n ≤ 6 ∧ 1 ≤ n := (by have := HFR.out; omega); have m8 : m ≤ 8 := (by have := HM.out; omega); have HOK := Lib.hid (show ∀ f ∈ fs, (f.held.length = n ∧ ∀ x ∈ f.held, 0 ≤ x ∧ x ≤ 1000) ∧ (f.wanted.length = n ∧ ∀ x ∈ f.wanted, 0 ≤ x ∧ x ≤ 1000) from fun f hf => by have := t4 f hf; have := HFR.out; exact ⟨⟨by omega, (t4 f hf).1.2⟩, by omega, (t4 f hf).2.2⟩); clear t1 t2 t3 t4
  obtain ⟨ad, x0, rfl, hab, _, _, _⟩ := RInts.at_ hr (k := 0) (by omega)
  obtain ⟨i0, hi, hz0, hz1, hz2⟩ := info_parts info3
  (go_enter Try.func36, Try.ntmps36; go_wp2_with fail; refine (areForms_impl hr hn0 hs hm0).mono ?_; rintro e w1 ⟨rfl, hn⟩)
  have hr1 := (RInts.below hr hn).more hn.size
  have hs1 := hs.step hn
  have hb := hn
  have hz9 := hn.size
  have h0 := own_lower (own_empty w1 w1.heap.size (Nat.le_refl _)) hz9
  have HC := Lib.hid (show ∀ j u, (fr.map (Value.int .i64))[j]? = some u → (w1.alloc (.cells #[] 3)).cell? (ad.add j) = some u from fun j u hu => by
    obtain ⟨ad', e, hb', hcell⟩ := hr1.2 (by omega)
    injection e with e
    subst e
    rw [World.cell?_alloc_lt w1 _ _ (by rw [block_of_add]; exact hb')]
    exact hcell j u hu)
  have HLL := Lib.hid (show (fr.map (Value.int .i64)).length = n * 1 by simp [HFR.out])
  clear hn
  go_wp2_with (first | (go_at_call 49; refine (within_any _ _ _ _).mono ?_; rintro e1 w1 ⟨rfl, rfl⟩) | (at_builtin; refine wpList_append_own _ rfl _ _ 22 rfl w.heap.size 3 i0 (.int .i64 0) 1 8 Try.underlying22 hi hz0 hz1 hz2 rfl (by decide) _ _ _ rfl h0 ad n _ (fr.map (Value.int .i64)) rfl HLL.out HC.out (by intro u hu; simp at hu; obtain ⟨x, _, rfl⟩ := hu; rfl) (by unfold maxLen; omega) (by omega) (by simp; omega) ?_))
  intro v' w2 hown' hgrow _
  have hkb := below_grown h0 (by simp; omega) hgrow
  have ho2 : Own w2 w.heap.size v' n fr := by simpa [Own] using hown'
  replace hb := (hb.alloc hb.size (.cells #[] 3)).trans hkb
  obtain ⟨g, C, rfl, _, _⟩ := ho2.form (by omega)
  have hown := ho2
  have hs2 := hs1
  replace hs1 : AForms w2 B m fs := by
    obtain ⟨ys, h1, h2, h3⟩ := hs
    exact ⟨ys, (h1.below hb).more hb.size, h2, h3⟩
  clear hown' hgrow hkb h0 ho2 hr1 hr hs2 hs h1 h2 hz9
  go_wp2_with fail
  go_loopw [9] (fun u wr => ∃ (k : Nat) (zs : List Int), k ≤ 1001 ∧ u = .int .i64 k ∧ Own wr w.heap.size (.slice (some ⟨g, 0, none⟩) n C) n zs ∧ lcL fs i.toNat (1001 - k) k zs = lcL fs i.toNat 1001 0 fr ∧ (∀ x ∈ zs, 0 ≤ x ∧ x ≤ 1000 + (k : Int)) ∧ Below w.heap.size w wr ∧ w.heap.size ≤ wr.heap.size) (fun u _ => 1001 - (intOf u).toNat)
  case atStart => exact ⟨0, fr, by omega, rfl, hown, rfl, fun x hx => by have := HT2.out x hx; omega, hb, hb.size⟩
  case round =>
    clear hown hs1 hb
    obtain ⟨k, zs, hk, rfl, hown, hR, hbz, hb, hsz⟩ := hrel
    have hs1 := HS.out.step hb
    have HZ := Lib.hid (own_len hown)
    by_cases hlt : k ≤ 1000
    · have HR := Lib.hid (show (if (resF fs zs []).length = fs.length then ((k : Int), true) else lcL fs i.toNat (1001 - (k + 1)) (((k + 1 : Nat) : Int)) (incL zs i.toNat)) = lcL fs i.toNat 1001 0 fr by rw [← hR, show 1001 - k = (1001 - (k + 1)) + 1 by omega, lcL]; rfl)
      have HBZ := Lib.hid hbz
      have hrz := own_rints hown
      clear hR hbz
      cases h5 : decide ((resF fs zs []).length = fs.length)
      rotate_left
      · have HQ := Lib.hid (show (resF fs zs []).length = fs.length by simpa using h5)
        go_wp2_with fail
        refine (isSafe_any hrz n6.1 n6.2 hs1 m8 HOK.out (fun x hx => by have := HBZ.out x hx; omega)).mono ?_
        rintro e3 w3 ⟨rfl, hn⟩
        replace hb := hb.trans (hn.mono hb.size)
        go_wp2_with fail
        go_ret2
        exact ⟨by rw [HG.out, ← HR.out, if_pos HQ.out]; rfl, hb⟩
      · have HQ := Lib.hid (show ¬ (resF fs zs []).length = fs.length by simpa using h5)
        go_wp2_with fail
        refine (isSafe_any hrz n6.1 n6.2 hs1 m8 HOK.out (fun x hx => by have := HBZ.out x hx; omega)).mono ?_
        rintro e3 w3 ⟨rfl, hn⟩
        replace hown := row_step hown hn
        replace hs1 := hs1.step hn
        replace hb := hb.trans (hn.mono hb.size)
        replace hsz := Nat.le_trans hsz hn.size
        clear hn hrz
        obtain ⟨x, hx⟩ : ∃ x, zs[i.toNat]? = some x := ⟨_, List.getElem?_eq_getElem (by have := HZ.out; omega)⟩
        have bx := HBZ.out x (List.mem_of_getElem? hx)
        have hgd : zs.getD i.toNat 0 = x := by rw [List.getD_eq_getElem?_getD, hx]; rfl
        have hcell : w3.cell? ⟨g, i.toNat, none⟩ = some (.int .i64 x) := by rw [hown.cellAt i.toNat (by omega), List.getElem?_map, hx]; rfl
        have hfz := hown.frozenAt i.toNat
        have HGD := Lib.hid hgd
        have hgw : w.heap.size ≤ g := (hown.lt g rfl).1
        have hi5 : i < n := by omega
        clear hx hgd
        go_wp2_with fail
        go_roundw
        case rel =>
          obtain ⟨s1, s2⟩ := hown.stored i.toNat (.int .i64 (x + 1))
          refine ⟨k + 1, incL zs i.toNat, by omega, by go_num, ?_, by rw [← HR.out, if_neg HQ.out], fun z hz => by have := incL_bd HBZ.out z hz; omega, hb.setCell (by simp; omega) _, by simpa [World.setCell] using hsz⟩
          rw [← List.map_set] at s1
          rw [incL, HGD.out]
          exact s1
        case measure => simp [intOf]; omega
    · have hk2 : k = 1001 := by omega
      have HR := Lib.hid (show lcL fs i.toNat 1001 0 fr = (0, false) by rw [← hR, hk2]; rfl)
      clear hR hk2
      go_wp2_with fail
      go_ret2
      exact ⟨by rw [HG.out, HR.out]; rfl, hb⟩
end Go.Proofs.Ytlblcblkcphdjaa
