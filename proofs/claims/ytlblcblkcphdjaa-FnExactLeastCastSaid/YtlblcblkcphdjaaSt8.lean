/-
  Contracts: SafeOrder and StuckForms.
-/
import Derived.Test.YtlblcblkcphdjaaSt7
namespace Go.Proofs.Ytlblcblkcphdjaa
open Go.RowKit
theorem ordF_ok {fs : List Frm} : ∀ (f : Nat) (fr out : List Int), OutOk fs.length out → OutOk fs.length (ordF fs f fr out)
  | 0, _, _, h => h
  | f + 1, fr, out, h => by
    rw [ordF]
    cases hq : firstQ fs fr out fs.length 0 with
    | none => exact h
    | some j =>
      obtain ⟨h1, _, h3⟩ := firstQ_some hq
      exact ordF_ok f _ _ (h.snoc (by omega) (by simp [qual] at h1; exact h1.1))
theorem resF_ok (fs : List Frm) (fr : List Int) : OutOk fs.length (resF fs fr []) := ordF_ok _ _ _ ⟨by simp, by simp⟩
def soG (fr : List Int) (fs : List Frm) : Bool := stG fr fs && decide ((resF fs fr []).length = fs.length)
def soV (fr : List Int) (fs : List Frm) : List Int := if soG fr fs then resF fs fr [] else []
theorem safeOrder_spec {A B : Option Addr} {n c m d : Nat} {fr : List Int} {fs : List Frm} {w : World} (hr : RInts w w.heap.size A n fr) (hn0 : n ≤ 1048576) (hs : AForms w B m fs) (hm0 : m ≤ 1048576) :
    Calls Try.prog 39 #[.slice A n c, .slice B m d] w fun e w' => ∃ V N C, e = .returned (.tuple #[.slice V N C, .bool (soG fr fs)]) ∧ Own w' w.heap.size (.slice V N C) N (soV fr fs) ∧ N ≤ 1048576 ∧ Below w.heap.size w w' := by
  cases h1 : stG fr fs
  · (go_enter Try.func39, Try.ntmps39; go_wp2_with fail; refine (stGood_a hr hn0 hs hm0).mono ?_; rintro e1 w1 ⟨rfl, hn⟩; have hb := hn)
    go_wp2_with fail
    go_ret2
    exact ⟨none, 0, 0, by simp [soG, h1], by simp [soV, soG, h1]; exact own_nil _ _, by omega, hb⟩
  · obtain ⟨t1, t2, t3, t4⟩ := stG_true h1; have HFR := Lib.hid hr.len; have HM := Lib.hid hs.len; have HT4 := Lib.hid t4; have HT2 := Lib.hid t2; have n6 : n ≤ 6 ∧ 1 ≤ n := (by have := HFR.out; omega); have m8 : m ≤ 8 := (by have := HM.out; omega); have HOK := Lib.hid (show ∀ f ∈ fs, (f.held.length = n ∧ ∀ x ∈ f.held, 0 ≤ x ∧ x ≤ 1000) ∧ (f.wanted.length = n ∧ ∀ x ∈ f.wanted, 0 ≤ x ∧ x ≤ 1000) from fun f hf => by have := t4 f hf; have := HFR.out; exact ⟨⟨by omega, (t4 f hf).1.2⟩, by omega, (t4 f hf).2.2⟩); clear t1 t2 t3 t4
    (go_enter Try.func39, Try.ntmps39; go_wp2_with fail; refine (stGood_a hr hn0 hs hm0).mono ?_; rintro e1 w1 ⟨rfl, hn⟩; have hb := hn)
    have hr1 := (RInts.below hr hn).more hn.size
    have hs1 := hs.step hn
    have hz := hn.size
    clear hn hs hr
    go_wp2_with fail
    refine (stOrder_any hr1 n6.1 n6.2 hs1 m8 HOK.out (fun x hx => by have := HT2.out x hx; omega)).mono ?_
    rintro e1 w2 ⟨V, N, C, rfl, ho, hN, hn⟩
    have hb2 := hb.trans (hn.mono hz)
    have HN := Lib.hid (own_len ho)
    have HLE := Lib.hid (resF_ok fs fr).le
    have HO := Lib.hid ho
    clear ho hn
    by_cases h2 : N < m
    · have HG := Lib.hid (show soG fr fs = false by simp [soG]; intro _; have := HN.out; have := HM.out; omega)
      go_wp2_with fail
      go_ret2
      exact ⟨none, 0, 0, by simp [HG.out], by simp [soV, HG.out]; exact own_nil _ _, by omega, hb2⟩
    · have HG := Lib.hid (show soG fr fs = true by simp [soG, h1]; have := HN.out; have := HM.out; have := HLE.out; omega)
      go_wp2_with fail
      go_ret2
      exact ⟨V, N, C, by simp [HG.out], by rw [soV, if_pos HG.out]; exact own_lower HO.out hz, by omega, hb2⟩
theorem isSafe_any {A B : Option Addr} {n c m d : Nat} {fr : List Int} {fs : List Frm} {w : World} (hr : RInts w w.heap.size A n fr) (hn0 : n ≤ 6) (hn1 : 1 ≤ n) (hs : AForms w B m fs) (hm0 : m ≤ 8) (hok : ∀ f ∈ fs, (f.held.length = n ∧ ∀ x ∈ f.held, 0 ≤ x ∧ x ≤ 1000) ∧ (f.wanted.length = n ∧ ∀ x ∈ f.wanted, 0 ≤ x ∧ x ≤ 1000)) (hfr : ∀ x ∈ fr, 0 ≤ x ∧ x ≤ 100000) :
    Calls Try.prog 65 #[.slice A n c, .slice B m d] w fun e w' => e = .returned (.bool (decide ((resF fs fr []).length = fs.length))) ∧ Below w.heap.size w w' := by
  have HM := Lib.hid hs.len
  have HOK := Lib.hid hok
  have HFB := Lib.hid hfr
  clear hok hfr
  go_enter Try.func65, Try.ntmps65
  go_wp2_with fail
  refine (finishing_any hr hn0 hn1 hs hm0 HOK.out HFB.out).mono ?_
  rintro e1 w2 ⟨V, N, C, rfl, ho, hN, hn⟩
  have HN := Lib.hid (own_len ho)
  clear ho
  by_cases h2 : N = m
  · have e1 : ((N : Int) == (m : Int)) = true := by simp [h2]
    have HG := Lib.hid (show decide ((resF fs fr []).length = fs.length) = true by simp; have := HN.out; have := HM.out; omega)
    clear h2
    go_wp2_with fail
    go_ret
    exact ⟨ret_bool HG.out.symm, hn⟩
  · have e1 : ((N : Int) == (m : Int)) = false := by rw [beq_eq_false_iff_ne]; omega
    have HG := Lib.hid (show decide ((resF fs fr []).length = fs.length) = false by simp; have := HN.out; have := HM.out; omega)
    clear h2
    go_wp2_with fail
    go_ret
    exact ⟨ret_bool HG.out.symm, hn⟩
theorem safeOrder_impl {A B : Option Addr} {n c m d : Nat} {fr : List Int} {fs : List Frm} {w : World} (hr : RInts w w.heap.size A n fr) (hn0 : n ≤ 1048576) (hs : AForms w B m fs) (hm0 : m ≤ 1048576) :
    Calls Try.prog 40 #[.slice A n c, .slice B m d] w fun e w' => ∃ V N C, e = .returned (.tuple #[.slice V N C, .bool (soG fr fs)]) ∧ Own w' w.heap.size (.slice V N C) N (soV fr fs) ∧ N ≤ 1048576 ∧ Below w.heap.size w w' := by
  cases h1 : stG fr fs
  · (go_enter Try.func40, Try.ntmps40; go_wp2_with fail; refine (areForms_impl hr hn0 hs hm0).mono ?_; rintro e1 w1 ⟨rfl, hn⟩; have hb := hn)
    have hz := hn.size
    clear hn
    go_wp2_with fail
    go_ret2
    exact ⟨some ⟨w1.heap.size, 0, none⟩, 0, 0, by simp [soG, h1], by simp only [soV, soG, h1]; exact own_lower (own_empty w1 w1.heap.size (Nat.le_refl _)) hz, by omega, hb.alloc hz _⟩
  · obtain ⟨t1, t2, t3, t4⟩ := stG_true h1; have HFR := Lib.hid hr.len; have HM := Lib.hid hs.len; have HT4 := Lib.hid t4; have HT2 := Lib.hid t2; have n6 : n ≤ 6 ∧ 1 ≤ n := (by have := HFR.out; omega); have m8 : m ≤ 8 := (by have := HM.out; omega); have HOK := Lib.hid (show ∀ f ∈ fs, (f.held.length = n ∧ ∀ x ∈ f.held, 0 ≤ x ∧ x ≤ 1000) ∧ (f.wanted.length = n ∧ ∀ x ∈ f.wanted, 0 ≤ x ∧ x ≤ 1000) from fun f hf => by have := t4 f hf; have := HFR.out; exact ⟨⟨by omega, (t4 f hf).1.2⟩, by omega, (t4 f hf).2.2⟩); clear t1 t2 t3 t4
    (go_enter Try.func40, Try.ntmps40; go_wp2_with fail; refine (areForms_impl hr hn0 hs hm0).mono ?_; rintro e1 w1 ⟨rfl, hn⟩; have hb := hn)
    have hr1 := (RInts.below hr hn).more hn.size
    have hs1 := hs.step hn
    have hz := hn.size
    clear hn hs hr
    cases h2 : decide ((resF fs fr []).length = fs.length)
    · have HG := Lib.hid (show soG fr fs = false by rw [soG, h2]; simp)
      go_wp2_with fail
      refine (isSafe_any hr1 n6.1 n6.2 hs1 m8 HOK.out (fun x hx => by have := HT2.out x hx; omega)).mono ?_
      rintro e1 w2 ⟨rfl, hn⟩
      have hb2 := hb.trans (hn.mono hz)
      have hz2 := Nat.le_trans hz hn.size
      clear hn
      go_wp2_with fail
      go_ret2
      exact ⟨some ⟨w2.heap.size, 0, none⟩, 0, 0, by simp [HG.out], by rw [soV, HG.out]; exact own_lower (own_empty w2 w2.heap.size (Nat.le_refl _)) hz2, by omega, hb2.alloc hz2 _⟩
    · have HG := Lib.hid (show soG fr fs = true by rw [soG, h2, h1]; rfl)
      go_wp2_with fail
      refine (isSafe_any hr1 n6.1 n6.2 hs1 m8 HOK.out (fun x hx => by have := HT2.out x hx; omega)).mono ?_
      rintro e1 w2 ⟨rfl, hn⟩
      have hb2 := hb.trans (hn.mono hz)
      have hz2 := Nat.le_trans hz hn.size
      have hr2 := (RInts.below hr1 hn).more hn.size
      have hs2 := hs1.step hn
      clear hn hr1 hs1
      go_wp2_with fail
      refine (finishing_any hr2 n6.1 n6.2 hs2 m8 HOK.out (fun x hx => by have := HT2.out x hx; omega)).mono ?_
      rintro e1 w3 ⟨V, N, C, rfl, ho, hN, hn⟩
      have hb3 := hb2.trans (hn.mono hz2)
      have HO := Lib.hid ho
      clear ho hn
      go_wp2_with fail
      go_ret2
      exact ⟨V, N, C, by simp [HG.out], by rw [soV, if_pos HG.out]; exact own_lower HO.out hz2, by omega, hb3⟩
def stuckL (out : List Int) : Nat → Nat → List Int
  | 0, _ => []
  | k + 1, i => if (i : Int) ∈ out then stuckL out k (i + 1) else (i : Int) :: stuckL out k (i + 1)
theorem stuckL_step {out zs R : List Int} {n i : Nat} (h : i < n) (hR : zs ++ stuckL out (n - i) i = R) : ((i : Int) ∈ out → zs ++ stuckL out (n - (i + 1)) (i + 1) = R) ∧ (¬ (i : Int) ∈ out → (zs ++ [(i : Int)]) ++ stuckL out (n - (i + 1)) (i + 1) = R) := by
  rw [show n - i = (n - (i + 1)) + 1 by omega, stuckL] at hR
  constructor
  · intro hm; rw [if_pos hm] at hR; exact hR
  · intro hm; rw [if_neg hm] at hR; rw [← hR, List.append_assoc]; rfl
def sfV (fr : List Int) (fs : List Frm) : List Int := if stG fr fs then stuckL (resF fs fr []) fs.length 0 else []
theorem stuckForms_spec {A B : Option Addr} {n c m d : Nat} {fr : List Int} {fs : List Frm} {w : World} (hr : RInts w w.heap.size A n fr) (hn0 : n ≤ 1048576) (hs : AForms w B m fs) (hm0 : m ≤ 1048576) :
    Calls Try.prog 41 #[.slice A n c, .slice B m d] w fun e w' => ∃ V N C, e = .returned (.tuple #[.slice V N C, .bool (stG fr fs)]) ∧ Own w' w.heap.size (.slice V N C) N (sfV fr fs) ∧ N ≤ 1048576 ∧ Below w.heap.size w w' := by
  obtain ⟨i0, hi, hz0, hz1, hz2⟩ := info_parts info3
  cases h1 : stG fr fs
  · (go_enter Try.func41, Try.ntmps41; go_wp2_with fail; refine (stGood_a hr hn0 hs hm0).mono ?_; rintro e1 w1 ⟨rfl, hn⟩; have hb := hn)
    have hz := hn.size
    clear hn
    go_wp2_with fail
    go_ret2
    exact ⟨none, 0, 0, by simp, by simp [sfV, h1]; exact own_nil _ _, by omega, hb⟩
  · obtain ⟨t1, t2, t3, t4⟩ := stG_true h1; have HFR := Lib.hid hr.len; have HM := Lib.hid hs.len; have HT4 := Lib.hid t4; have HT2 := Lib.hid t2; have n6 : n ≤ 6 ∧ 1 ≤ n := (by have := HFR.out; omega); have m8 : m ≤ 8 := (by have := HM.out; omega); have HOK := Lib.hid (show ∀ f ∈ fs, (f.held.length = n ∧ ∀ x ∈ f.held, 0 ≤ x ∧ x ≤ 1000) ∧ (f.wanted.length = n ∧ ∀ x ∈ f.wanted, 0 ≤ x ∧ x ≤ 1000) from fun f hf => by have := t4 f hf; have := HFR.out; exact ⟨⟨by omega, (t4 f hf).1.2⟩, by omega, (t4 f hf).2.2⟩); clear t1 t2 t3 t4
    (go_enter Try.func41, Try.ntmps41; go_wp2_with fail; refine (stGood_a hr hn0 hs hm0).mono ?_; rintro e1 w1 ⟨rfl, hn⟩; have hb := hn)
    have hr1 := (RInts.below hr hn).more hn.size
    have hs1 := hs.step hn
    have hz := hn.size
    clear hn hs hr
    go_wp2_with fail
    refine (stOrder_any hr1 n6.1 n6.2 hs1 m8 HOK.out (fun x hx => by have := HT2.out x hx; omega)).mono ?_
    rintro e1 w2 ⟨V, N, C, rfl, ho, hN, hn⟩
    have hb2 := hb.trans (hn.mono hz)
    have hzB := Nat.le_trans hz hn.size
    have hout := own_rints ho
    have HV := Lib.hid (show stuckL (resF fs fr []) m 0 = sfV fr fs by rw [sfV, if_pos h1, HM.out])
    have HG := Lib.hid h1
    clear ho hn hb hr1 hs1
    go_wp2_with fail
    clear h1
    go_loopw [7, 18] (fun v u wr => ∃ (k : Nat) (zs : List Int) (M : Nat), k ≤ m ∧ u = .int .i64 k ∧ M ≤ k ∧ Own wr w2.heap.size v M zs ∧ zs ++ stuckL (resF fs fr []) (m - k) k = stuckL (resF fs fr []) m 0 ∧ Below w.heap.size w wr ∧ w2.heap.size ≤ wr.heap.size ∧ Below w2.heap.size w2 wr) (fun _ u _ => m - (intOf u).toNat)
    case atStart => exact ⟨0, [], 0, Nat.zero_le _, rfl, Nat.le_refl _, own_nil _ _, rfl, hb2, Nat.le_refl _, Below.refl _ _⟩
    case round =>
      clear hb2
      obtain ⟨k, zs, M, hk, rfl, hMk, hown, hR, hb, hsz, hb2⟩ := hrel
      by_cases hlt : k < m
      · have HR := Lib.hid (stuckL_step hlt hR)
        have hou := RInts.below hout hb2
        clear hR
        cases h4 : decide ((k : Int) ∈ resF fs fr [])
        · have HD := Lib.hid (show ¬ (k : Int) ∈ resF fs fr [] by simpa using h4)
          go_wp2_with (first | (go_at_call 68; refine (hasS_any hou (by omega)).mono ?_; rintro e1 w1 ⟨rfl, rfl⟩) | (at_builtin; refine wpList_append_own _ rfl _ _ 22 rfl (w2.heap.size) 3 i0 (.int .i64 0) 1 8 Try.underlying22 hi hz0 hz1 hz2 rfl (by decide) _ _ _ rfl (hown.alloc _) ⟨wr.heap.size, 0, none⟩ 1 1 [.int .i64 ((k : Int))] rfl rfl (new_one _ _ (by simp) _ _) (by intro u hu; simp at hu; subst hu; rfl) (by unfold maxLen; omega) (by omega) (by simp <;> omega) ?_))
          intro v' w3 hown' hgrow _
          have hkb := below_grown (World.ownsRow.alloc hown (.cells #[.int .i64 (k : Int)] 3)) (by simp; omega) hgrow
          have ho2 := own_app hown'
          replace hb := (hb.alloc hb.size (.cells #[.int .i64 (k : Int)] 3)).trans (hkb.mono (by omega))
          replace hb2 := (hb2.alloc hb2.size (.cells #[.int .i64 (k : Int)] 3)).trans hkb
          have hz3 := hkb.size
          simp only [World.size_alloc] at hz3
          clear hown hown' hgrow hkb h4 hou
          go_wp2_with fail
          go_roundw
          case rel => exact ⟨k + 1, _, M + 1, by omega, by go_num, by omega, ho2, HR.out.2 HD.out, hb, by omega, hb2⟩
          case measure => simp [intOf]; omega
        · have HD := Lib.hid (show (k : Int) ∈ resF fs fr [] by simpa using h4)
          go_wp2_with (go_at_call 68; refine (hasS_any hou (by omega)).mono ?_; rintro e1 w1 ⟨rfl, rfl⟩)
          go_roundw
          case rel => exact ⟨k + 1, zs, M, by omega, by go_num, by omega, hown, HR.out.1 HD.out, hb, hsz, hb2⟩
          case measure => simp [intOf]; omega
      · have HR := Lib.hid (show zs = sfV fr fs by rw [← HV.out, ← hR, show m - k = 0 by omega, stuckL, List.append_nil])
        clear hR
        obtain ⟨V2, C2, rfl⟩ := own_slice hown
        have HO := Lib.hid hown
        clear hown
        go_wp2_with fail
        go_ret2
        have ho9 := HO.out
        rw [HR.out] at ho9
        exact ⟨V2, M, C2, by first | (simp; done) | simp [HG.out], own_lower ho9 hzB, by omega, hb⟩
theorem stuckForms_impl {A B : Option Addr} {n c m d : Nat} {fr : List Int} {fs : List Frm} {w : World} (hr : RInts w w.heap.size A n fr) (hn0 : n ≤ 1048576) (hs : AForms w B m fs) (hm0 : m ≤ 1048576) :
    Calls Try.prog 42 #[.slice A n c, .slice B m d] w fun e w' => ∃ V N C, e = .returned (.tuple #[.slice V N C, .bool (stG fr fs)]) ∧ Own w' w.heap.size (.slice V N C) N (sfV fr fs) ∧ N ≤ 1048576 ∧ Below w.heap.size w w' := by
  obtain ⟨i0, hi, hz0, hz1, hz2⟩ := info_parts info3
  cases h1 : stG fr fs
  · (go_enter Try.func42, Try.ntmps42; go_wp2_with fail; refine (areForms_impl hr hn0 hs hm0).mono ?_; rintro e1 w1 ⟨rfl, hn⟩; have hb := hn)
    have hz := hn.size
    clear hn
    go_wp2_with fail
    go_ret2
    exact ⟨some ⟨w1.heap.size, 0, none⟩, 0, 0, by simp, by simp only [sfV, h1]; exact own_lower (own_empty w1 w1.heap.size (Nat.le_refl _)) hz, by omega, hb.alloc hz _⟩
  · obtain ⟨t1, t2, t3, t4⟩ := stG_true h1; have HFR := Lib.hid hr.len; have HM := Lib.hid hs.len; have HT4 := Lib.hid t4; have HT2 := Lib.hid t2; have n6 : n ≤ 6 ∧ 1 ≤ n := (by have := HFR.out; omega); have m8 : m ≤ 8 := (by have := HM.out; omega); have HOK := Lib.hid (show ∀ f ∈ fs, (f.held.length = n ∧ ∀ x ∈ f.held, 0 ≤ x ∧ x ≤ 1000) ∧ (f.wanted.length = n ∧ ∀ x ∈ f.wanted, 0 ≤ x ∧ x ≤ 1000) from fun f hf => by have := t4 f hf; have := HFR.out; exact ⟨⟨by omega, (t4 f hf).1.2⟩, by omega, (t4 f hf).2.2⟩); clear t1 t2 t3 t4
    (go_enter Try.func42, Try.ntmps42; go_wp2_with fail; refine (areForms_impl hr hn0 hs hm0).mono ?_; rintro e1 w1 ⟨rfl, hn⟩; have hb := hn)
    have hr1 := (RInts.below hr hn).more hn.size
    have hs1 := hs.step hn
    have hz := hn.size
    clear hn hs hr
    go_wp2_with fail
    refine (finishing_any hr1 n6.1 n6.2 hs1 m8 HOK.out (fun x hx => by have := HT2.out x hx; omega)).mono ?_
    rintro e1 w2 ⟨V, N, C, rfl, ho, hN, hn⟩
    have hb2 := hb.trans (hn.mono hz)
    have hzB := Nat.le_trans hz hn.size
    have hout := own_rints ho
    have HV := Lib.hid (show stuckL (resF fs fr []) m 0 = sfV fr fs by rw [sfV, if_pos h1, HM.out])
    have HG := Lib.hid h1
    clear ho hn hb hr1 hs1
    go_wp2_with fail
    clear h1
    go_loopw [7, 20] (fun v u wr => ∃ (k : Nat) (zs : List Int) (M : Nat), k ≤ m ∧ u = .int .i64 k ∧ M ≤ k ∧ Own wr w2.heap.size v M zs ∧ zs ++ stuckL (resF fs fr []) (m - k) k = stuckL (resF fs fr []) m 0 ∧ Below w.heap.size w wr ∧ w2.heap.size ≤ wr.heap.size ∧ Below w2.heap.size w2 wr) (fun _ u _ => m - (intOf u).toNat)
    case atStart => exact ⟨0, [], 0, Nat.zero_le _, rfl, Nat.le_refl _, own_empty w2 w2.heap.size (Nat.le_refl _), rfl, hb2.alloc hzB _, by simp, (Below.refl _ _).alloc (Nat.le_refl _) _⟩
    case round =>
      clear hb2
      obtain ⟨k, zs, M, hk, rfl, hMk, hown, hR, hb, hsz, hb2⟩ := hrel
      by_cases hlt : k < m
      · have HR := Lib.hid (stuckL_step hlt hR)
        have hou := RInts.below hout hb2
        clear hR
        cases h4 : decide ((k : Int) ∈ resF fs fr [])
        · have HD := Lib.hid (show ¬ (k : Int) ∈ resF fs fr [] by simpa using h4)
          go_wp2_with (first | (go_at_call 69; refine (hasI_any hou (by omega)).mono ?_; rintro e1 w1 ⟨rfl, rfl⟩) | (at_builtin; refine wpList_append_own _ rfl _ _ 22 rfl (w2.heap.size) 3 i0 (.int .i64 0) 1 8 Try.underlying22 hi hz0 hz1 hz2 rfl (by decide) _ _ _ rfl (hown.alloc _) ⟨wr.heap.size, 0, none⟩ 1 1 [.int .i64 ((k : Int))] rfl rfl (new_one _ _ (by simp) _ _) (by intro u hu; simp at hu; subst hu; rfl) (by unfold maxLen; omega) (by omega) (by simp <;> omega) ?_))
          intro v' w3 hown' hgrow _
          have hkb := below_grown (World.ownsRow.alloc hown (.cells #[.int .i64 (k : Int)] 3)) (by simp; omega) hgrow
          have ho2 := own_app hown'
          replace hb := (hb.alloc hb.size (.cells #[.int .i64 (k : Int)] 3)).trans (hkb.mono (by omega))
          replace hb2 := (hb2.alloc hb2.size (.cells #[.int .i64 (k : Int)] 3)).trans hkb
          have hz3 := hkb.size
          simp only [World.size_alloc] at hz3
          clear hown hown' hgrow hkb h4 hou
          go_wp2_with fail
          go_roundw
          case rel => exact ⟨k + 1, _, M + 1, by omega, by go_num, by omega, ho2, HR.out.2 HD.out, hb, by omega, hb2⟩
          case measure => simp [intOf]; omega
        · have HD := Lib.hid (show (k : Int) ∈ resF fs fr [] by simpa using h4)
          go_wp2_with (go_at_call 69; refine (hasI_any hou (by omega)).mono ?_; rintro e1 w1 ⟨rfl, rfl⟩)
          go_roundw
          case rel => exact ⟨k + 1, zs, M, by omega, by go_num, by omega, hown, HR.out.1 HD.out, hb, hsz, hb2⟩
          case measure => simp [intOf]; omega
      · have HR := Lib.hid (show zs = sfV fr fs by rw [← HV.out, ← hR, show m - k = 0 by omega, stuckL, List.append_nil])
        clear hR
        obtain ⟨V2, C2, rfl⟩ := own_slice hown
        have HO := Lib.hid hown
        clear hown
        go_wp2_with fail
        go_ret2
        have ho9 := HO.out
        rw [HR.out] at ho9
        exact ⟨V2, M, C2, by first | (simp; done) | simp [HG.out], own_lower ho9 hzB, by omega, hb⟩
end Go.Proofs.Ytlblcblkcphdjaa
