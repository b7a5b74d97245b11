/-
  Contracts: LackingFor and WaitsFor.
-/
import Derived.Test.YtlblcblkcphdjaaSt3
namespace Go.Proofs.Ytlblcblkcphdjaa
open Go.RowKit
def lackV (fr : List Int) (fs : List Frm) (i : Int) : List Int := if askG fr fs i then lackL fr (frmAt fs i).wanted else []
theorem lackingFor_spec {A B : Option Addr} {n c m d : Nat} {fr : List Int} {fs : List Frm} {i : Int} {w : World} (hr : RInts w w.heap.size A n fr) (hn0 : n ≤ 1048576) (hs : AForms w B m fs) (hm0 : m ≤ 1048576) (_ : -9223372036854775808 ≤ i ∧ i ≤ 9223372036854775807) :
    Calls Try.prog 27 #[.slice A n c, .slice B m d, .int .i64 i] w fun e w' => ∃ V N C, e = .returned (.tuple #[.slice V N C, .bool (askG fr fs i)]) ∧ Own w' w.heap.size (.slice V N C) N (lackV fr fs i) ∧ N ≤ 1048576 ∧ Below w.heap.size w w' := by
  obtain ⟨i0, hi, hz0, hz1, hz2⟩ := info_parts info3
  cases h1 : askG fr fs i
  · (go_enter Try.func27, Try.ntmps27; go_wp2_with fail; refine (stAsked_any hr hn0 hs hm0).mono ?_; rintro e w1 ⟨rfl, hn⟩)
    go_wp2_with fail
    go_ret2
    exact ⟨none, 0, 0, by simp, by simp [lackV, h1]; exact own_nil _ _, by omega, hn⟩
  · obtain ⟨q1, q2, q3⟩ := ask_true h1; obtain ⟨t1, t2, t3, t4⟩ := stG_true q1; have HF := Lib.hid t4; have HT2 := Lib.hid t2; have HFR := Lib.hid hr.len; have HM := Lib.hid hs.len; have q4 : i < m := (by have := HM.out; omega); clear t2 t4 q1
    (go_enter Try.func27, Try.ntmps27; go_wp2_with fail; refine (stAsked_any hr hn0 hs hm0).mono ?_; rintro e w1 ⟨rfl, hn⟩)
    obtain ⟨ys, hs1, rfl, hL⟩ := hs.step hn
    obtain ⟨b, off, y, rfl, _, _, hy, c0, c1, hin⟩ := RForms.at_ hs1 (k := i.toNat) (by omega)
    have hf := HF.out y.f (List.mem_map_of_mem (List.mem_of_getElem? hy))
    have HY := Lib.hid (frmAt_map hy)
    have hlw : y.f.wanted.length = n := by have := HFR.out; omega
    have hr2 := (RInts.below hr hn).more hn.size
    have H2 := Lib.hid hf.2.2
    have lw : y.f.wanted.length ≤ 1048576 := by omega
    have lw2 : y.f.wanted.length ≤ n := by omega
    have HG := Lib.hid h1
    have hs1z := hn.size
    clear hy hf hL hs1 hs c0
    go_wp2_with fail
    clear c1 h1
    go_loopw [8, 22] (fun v u wr => ∃ (k : Nat) (zs : List Int), k ≤ y.f.wanted.length ∧ u = .int .i64 k ∧ Own wr w1.heap.size v k zs ∧ zs ++ lackL (fr.drop k) (y.f.wanted.drop k) = lackL fr y.f.wanted ∧ Below w1.heap.size w1 wr ∧ w1.heap.size ≤ wr.heap.size) (fun _ u _ => y.f.wanted.length - (intOf u).toNat)
    case atStart => exact ⟨0, [], Nat.zero_le _, rfl, own_nil _ _, rfl, Below.refl _ _, Nat.le_refl _⟩
    case round =>
      obtain ⟨k, zs, hk, rfl, hown, hR, hb1, hsz⟩ := hrel
      by_cases hlt : k < y.f.wanted.length
      · obtain ⟨ad, x, eA, _, hd, hx, hc⟩ := RInts.at_ (hr2.below hb1) (k := k) (by omega)
        obtain ⟨ae, z, eB, _, he, hz, hcz⟩ := RInts.at_ (hin.2.below hb1) hlt
        have bx := HT2.out x (List.mem_of_getElem? hx)
        have bz := H2.out z (List.mem_of_getElem? hz)
        have HR := Lib.hid (lackL_step hd he hR)
        have hkn : k < n := by omega
        have HA := Lib.hid eA
        have HB := Lib.hid eB
        have hmx : 0 ≤ mxI 0 (z - x) ∧ mxI 0 (z - x) ≤ 1000 := by unfold mxI; split <;> omega
        clear hR hd he hx hz
        rw [eA, eB]
        clear eA eB
        go_wp2_with fail
        refine (most_any _ _ _).mono ?_
        rintro e2 w2 ⟨rfl, rfl⟩
        go_wp2_with (at_builtin; refine wpList_append_own _ rfl _ _ 22 rfl (w1.heap.size) 3 i0 (.int .i64 0) 1 8 Try.underlying22 hi hz0 hz1 hz2 rfl (by decide) _ _ _ rfl (hown.alloc _) ⟨wr.heap.size, 0, none⟩ 1 1 [.int .i64 (mxI 0 (z - x))] rfl rfl (new_one _ _ (by simp) _ _) (by intro u hu; simp at hu; subst hu; rfl) (by unfold maxLen; omega) (by omega) (by simp <;> omega) ?_)
        intro v' w3 hown' hgrow _
        have hkb := below_grown (World.ownsRow.alloc hown (.cells #[.int .i64 (mxI 0 (z - x))] 3)) (by simp; omega) hgrow
        have ho2 := own_app hown'
        have hz3 := hkb.size
        simp only [World.size_alloc] at hz3
        have hb2 := (hb1.alloc hb1.size (.cells #[.int .i64 (mxI 0 (z - x))] 3)).trans (hkb.mono (by omega))
        clear hown hown' hgrow hkb hc hcz
        go_wp2_with fail
        (try rw [← HA.out]); (try rw [← HB.out])
        go_roundw
        case rel => exact ⟨k + 1, _, by omega, by go_num, ho2, HR.out, hb2, by omega⟩
        case measure => simp [intOf]; omega
      · have HR := Lib.hid (show zs = lackL fr y.f.wanted by rw [← hR, List.drop_of_length_le (l := y.f.wanted) (by omega), lackL_end, List.append_nil])
        have hkn : k ≤ 1048576 := by omega
        clear hR
        obtain ⟨V, C, rfl⟩ := own_slice hown
        have HO := Lib.hid hown
        clear hown
        go_wp2_with fail
        go_ret2
        have ho := HO.out
        rw [HR.out] at ho
        exact ⟨V, k, C, by first | rfl | (rw [HG.out]; rfl), by rw [lackV, if_pos HG.out, HY.out]; exact own_lower ho hs1z, hkn, hn.trans (hb1.mono hs1z)⟩
theorem lackingFor_impl {A B : Option Addr} {n c m d : Nat} {fr : List Int} {fs : List Frm} {i : Int} {w : World} (hr : RInts w w.heap.size A n fr) (hn0 : n ≤ 1048576) (hs : AForms w B m fs) (hm0 : m ≤ 1048576) (_ : -9223372036854775808 ≤ i ∧ i ≤ 9223372036854775807) :
    Calls Try.prog 28 #[.slice A n c, .slice B m d, .int .i64 i] w fun e w' => ∃ V N C, e = .returned (.tuple #[.slice V N C, .bool (askG fr fs i)]) ∧ Own w' w.heap.size (.slice V N C) N (lackV fr fs i) ∧ N ≤ 1048576 ∧ Below w.heap.size w w' := by
  cases h1 : askG fr fs i
  · (go_enter Try.func28, Try.ntmps28; go_wp2_with fail; refine (isForm_any hr hn0 hs hm0).mono ?_; rintro e w1 ⟨rfl, hn⟩)
    have hs1 := hn.size
    go_wp2_with fail
    go_ret2
    exact ⟨some ⟨w1.heap.size, 0, none⟩, 0, 0, by simp, by simp only [lackV, h1]; exact own_lower (own_empty w1 w1.heap.size (Nat.le_refl _)) hs1, by omega, hn.alloc hs1 _⟩
  · obtain ⟨q1, q2, q3⟩ := ask_true h1; obtain ⟨t1, t2, t3, t4⟩ := stG_true q1; have HF := Lib.hid t4; have HT2 := Lib.hid t2; have HFR := Lib.hid hr.len; have HM := Lib.hid hs.len; have q4 : i < m := (by have := HM.out; omega); clear t2 t4 q1
    (go_enter Try.func28, Try.ntmps28; go_wp2_with fail; refine (isForm_any hr hn0 hs hm0).mono ?_; rintro e w1 ⟨rfl, hn⟩)
    obtain ⟨ys, hs1, rfl, hL⟩ := hs.step hn
    obtain ⟨b, off, y, rfl, _, _, hy, c0, c1, hin⟩ := RForms.at_ hs1 (k := i.toNat) (by omega)
    have hf := HF.out y.f (List.mem_map_of_mem (List.mem_of_getElem? hy))
    have HY := Lib.hid (frmAt_map hy)
    have hlw := Lib.hid (show y.f.wanted.length = n by have := HFR.out; omega)
    have hr2 := (RInts.below hr hn).more hn.size
    have H2 := Lib.hid hf.2.2
    have HG := Lib.hid h1
    have hs1z := hn.size
    clear hy hf hL hs1 hs
    go_wp2_with fail
    clear h1
    refine (lacking_any hr2 hin (Nat.le_refl _) hn0 hlw.out HT2.out H2.out).mono ?_
    rintro e2 w2 ⟨V, C, rfl, ho, hn2⟩
    have HO := Lib.hid ho
    clear c0 c1 ho
    go_wp2_with fail
    go_ret2
    exact ⟨V, n, C, by first | rfl | (rw [HG.out]; rfl), by rw [lackV, if_pos HG.out, HY.out]; exact own_lower HO.out hs1z, hn0, hn.trans (hn2.mono hs1z)⟩
def wfL : List Int → List Int → List Int → Bool
  | a :: r, x :: t, h :: u => (decide (a < x) && decide (0 < h)) || wfL r t u
  | _, _, _ => false
def wfG (fr : List Int) (fs : List Frm) (i k : Int) : Bool := askG fr fs i && (inB k 0 ((fs.length : Int) - 1) && !decide (i = k))
def wfV (fr : List Int) (fs : List Frm) (i k : Int) : Bool := wfG fr fs i k && wfL fr (frmAt fs i).wanted (frmAt fs k).held
theorem wfL_end {fr ws hs : List Int} (h : ws = []) : wfL fr ws hs = false := by subst h; cases fr <;> rfl
theorem waitsFor_spec {A B : Option Addr} {n c m d : Nat} {fr : List Int} {fs : List Frm} {i k : Int} {w : World} (hr : RInts w w.heap.size A n fr) (hn0 : n ≤ 1048576) (hs : AForms w B m fs) (hm0 : m ≤ 1048576) (_ : -9223372036854775808 ≤ i ∧ i ≤ 9223372036854775807) (_ : -9223372036854775808 ≤ k ∧ k ≤ 9223372036854775807) :
    Calls Try.prog 25 #[.slice A n c, .slice B m d, .int .i64 i, .int .i64 k] w fun e w' => e = .returned (.tuple #[.bool (wfV fr fs i k), .bool (wfG fr fs i k)]) ∧ Below w.heap.size w w' := by
  have HM0 := Lib.hid hs.len
  cases h1 : askG fr fs i
  · (go_enter Try.func25, Try.ntmps25; go_wp2_with fail; refine (stAsked_any hr hn0 hs hm0).mono ?_; rintro e w1 ⟨rfl, hn⟩)
    go_wp2_with fail
    go_ret2
    exact ⟨by simp [wfV, wfG, h1], hn⟩
  cases h2 : inB k 0 ((m : Int) - 1)
  · (go_enter Try.func25, Try.ntmps25; go_wp2_with fail; refine (stAsked_any hr hn0 hs hm0).mono ?_; rintro e w1 ⟨rfl, hn⟩)
    go_wp2_with (go_at_call 56; refine (in_any _ _ _ _).mono ?_; rintro e1 w1 ⟨rfl, rfl⟩)
    go_ret2
    exact ⟨by simp [wfV, wfG, HM0.out, h2], hn⟩
  by_cases h3 : i = k
  · have e1 : (i == k) = true := by simp [h3]
    have H3 := Lib.hid h3
    clear h3
    (go_enter Try.func25, Try.ntmps25; go_wp2_with fail; refine (stAsked_any hr hn0 hs hm0).mono ?_; rintro e w1 ⟨rfl, hn⟩)
    go_wp2_with (go_at_call 56; refine (in_any _ _ _ _).mono ?_; rintro e1 w1 ⟨rfl, rfl⟩)
    go_ret2
    exact ⟨by simp [wfV, wfG, H3.out], hn⟩
  have e1 : (i == k) = false := by simp [h3]
  have HG := Lib.hid (show wfG fr fs i k = true by simp [wfG, HM0.out, h1, h2, h3])
  have k2 := inB_true.1 h2
  clear h3
  obtain ⟨q1, q2, q3⟩ := ask_true h1; obtain ⟨t1, t2, t3, t4⟩ := stG_true q1; have HF := Lib.hid t4; have HT2 := Lib.hid t2; have HFR := Lib.hid hr.len; have HM := Lib.hid hs.len; have q4 : i < m := (by have := HM.out; omega); clear t2 t4 q1
  (go_enter Try.func25, Try.ntmps25; go_wp2_with fail; refine (stAsked_any hr hn0 hs hm0).mono ?_; rintro e w1 ⟨rfl, hn⟩)
  obtain ⟨ys, hs1, rfl, hL⟩ := hs.step hn
  obtain ⟨b, off, y, rfl, _, _, hy, c0, c1, hin⟩ := RForms.at_ hs1 (k := i.toNat) (by omega)
  obtain ⟨b', off', x, eA, _, _, hx, d0, d1, hix⟩ := RForms.at_ hs1 (k := k.toNat) (by omega)
  injection eA with eA
  injection eA with eA1 eA2
  subst eA1 eA2
  have hf := HF.out y.f (List.mem_map_of_mem (List.mem_of_getElem? hy))
  have hg := HF.out x.f (List.mem_map_of_mem (List.mem_of_getElem? hx))
  have HY := Lib.hid (frmAt_map hy)
  have HX := Lib.hid (frmAt_map hx)
  have hr2 := (RInts.below hr hn).more hn.size
  have lw : y.f.wanted.length ≤ 1048576 := by have := HFR.out; omega
  have lw2 : y.f.wanted.length ≤ n := by have := HFR.out; omega
  have lx : y.f.wanted.length ≤ x.f.held.length ∧ x.f.held.length ≤ n := by have := HFR.out; omega
  clear hy hx hf hg hL hs1 hs c0 d1
  go_wp2_with (go_at_call 56; refine (in_any _ _ _ _).mono ?_; rintro e1 w1 ⟨rfl, rfl⟩)
  clear h1 h2 e1
  go_loop [36] (fun u => ∃ q : Nat, q ≤ y.f.wanted.length ∧ u = .int .i64 q ∧ wfL (fr.drop q) (y.f.wanted.drop q) (x.f.held.drop q) = wfL fr y.f.wanted x.f.held) (fun u => y.f.wanted.length - (intOf u).toNat)
  case atStart => exact ⟨0, Nat.zero_le _, rfl, rfl⟩
  case round =>
    obtain ⟨q, hq, rfl, hR⟩ := hrel
    by_cases hlt : q < y.f.wanted.length
    · obtain ⟨ad, a0, eA, _, hd, _, hc⟩ := RInts.at_ hr2 (k := q) (by omega)
      obtain ⟨ae, z, eB, _, he, _, hcz⟩ := RInts.at_ hin.2 hlt
      obtain ⟨af, u, eC, _, hg, _, hcu⟩ := RInts.at_ hix.1 (k := q) (by omega)
      have HR := Lib.hid (show ((decide (a0 < z) && decide (0 < u)) || wfL (fr.drop (q + 1)) (y.f.wanted.drop (q + 1)) (x.f.held.drop (q + 1))) = wfL fr y.f.wanted x.f.held by rw [← hR, hd, he, hg, wfL])
      have hqn : q < n := by omega
      have hqx : q < x.f.held.length := by omega
      have HB := Lib.hid eB
      have HA := Lib.hid eA
      clear hR hd he hg
      rw [eC] at d0
      rw [eA, eB]
      clear eA eB eC
      by_cases q1 : a0 < z
      · by_cases q2 : 0 < u
        · go_wp2_with fail
          go_ret2
          exact ⟨by rw [wfV, HG.out, HY.out, HX.out, ← HR.out]; simp [q1, q2], hn⟩
        · go_wp2_with fail
          (try rw [← HA.out]); (try rw [← HB.out])
          go_round
          case rel => exact ⟨q + 1, by omega, by go_num, by rw [← HR.out]; simp; omega⟩
          case measure => simp [intOf]; omega
      · go_wp2_with fail
        (try rw [← HA.out]); (try rw [← HB.out])
        go_round
        case rel => exact ⟨q + 1, by omega, by go_num, by rw [← HR.out]; simp; omega⟩
        case measure => simp [intOf]; omega
    · have HR := Lib.hid (show wfL fr y.f.wanted x.f.held = false by rw [← hR, List.drop_of_length_le (l := y.f.wanted) (by omega)]; exact wfL_end rfl)
      clear hR
      go_wp2_with fail
      go_ret2
      exact ⟨by rw [wfV, HG.out, HY.out, HX.out, HR.out]; rfl, hn⟩
def wf2L : List Int → List Int → Bool
  | v :: t, h :: u => (decide (0 < v) && decide (0 < h)) || wf2L t u
  | _, _ => false
theorem wf2L_eq : ∀ {fr ws hs : List Int}, wf2L (lackL fr ws) hs = wfL fr ws hs
  | [], ws, hs => by cases ws <;> rfl
  | _ :: _, [], _ => rfl
  | _ :: _, _ :: _, [] => rfl
  | a :: r, x :: t, h :: u => by
    rw [lackL, wf2L, wfL, wf2L_eq]
    congr 2
    unfold mxI
    split <;> simp <;> omega
theorem waitsFor_impl {A B : Option Addr} {n c m d : Nat} {fr : List Int} {fs : List Frm} {i k : Int} {w : World} (hr : RInts w w.heap.size A n fr) (hn0 : n ≤ 1048576) (hs : AForms w B m fs) (hm0 : m ≤ 1048576) (_ : -9223372036854775808 ≤ i ∧ i ≤ 9223372036854775807) (_ : -9223372036854775808 ≤ k ∧ k ≤ 9223372036854775807) :
    Calls Try.prog 26 #[.slice A n c, .slice B m d, .int .i64 i, .int .i64 k] w fun e w' => e = .returned (.tuple #[.bool (wfV fr fs i k), .bool (wfG fr fs i k)]) ∧ Below w.heap.size w w' := by
  have HM0 := Lib.hid hs.len
  cases h1 : askG fr fs i
  · (go_enter Try.func26, Try.ntmps26; go_wp2_with fail; refine (isForm_any hr hn0 hs hm0).mono ?_; rintro e w1 ⟨rfl, hn⟩)
    go_wp2_with fail
    go_ret2
    exact ⟨by simp [wfV, wfG, h1], hn⟩
  have hsg := (ask_true h1).1
  cases h2 : askG fr fs k
  · have h4 : inB k 0 ((m : Int) - 1) = false := by have := h2; simp only [askG, hsg, Bool.true_and, HM0.out] at this; exact this
    have H4 := Lib.hid h4
    clear h4
    ((go_enter Try.func26, Try.ntmps26; go_wp2_with fail; refine (isForm_any hr hn0 hs hm0).mono ?_; rintro e w1 ⟨rfl, hn⟩); go_wp2_with fail; refine (isForm_any ((RInts.below hr hn).more hn.size) hn0 (hs.step hn) hm0).mono ?_; rintro e w2 ⟨rfl, hn2⟩)
    go_wp2_with fail
    go_ret2
    exact ⟨by simp [wfV, wfG, HM0.out, H4.out], hn.trans (hn2.mono hn.size)⟩
  have H4 := Lib.hid (show inB k 0 ((m : Int) - 1) = true by have := h2; simp only [askG, hsg, Bool.true_and, HM0.out] at this; exact this)
  by_cases h3 : i = k
  · have e1 : (i == k) = true := by simp [h3]
    have H3 := Lib.hid h3
    clear h3
    ((go_enter Try.func26, Try.ntmps26; go_wp2_with fail; refine (isForm_any hr hn0 hs hm0).mono ?_; rintro e w1 ⟨rfl, hn⟩); go_wp2_with fail; refine (isForm_any ((RInts.below hr hn).more hn.size) hn0 (hs.step hn) hm0).mono ?_; rintro e w2 ⟨rfl, hn2⟩)
    go_wp2_with fail
    go_ret2
    exact ⟨by simp [wfV, wfG, H3.out], hn.trans (hn2.mono hn.size)⟩
  have e1 : (i == k) = false := by simp [h3]
  have HG := Lib.hid (show wfG fr fs i k = true by simp [wfG, HM0.out, h1, H4.out, h3])
  have k2 := inB_true.1 H4.out
  clear h3 hsg
  obtain ⟨q1, q2, q3⟩ := ask_true h1; obtain ⟨t1, t2, t3, t4⟩ := stG_true q1; have HF := Lib.hid t4; have HT2 := Lib.hid t2; have HFR := Lib.hid hr.len; have HM := Lib.hid hs.len; have q4 : i < m := (by have := HM.out; omega); clear t2 t4 q1
  ((go_enter Try.func26, Try.ntmps26; go_wp2_with fail; refine (isForm_any hr hn0 hs hm0).mono ?_; rintro e w1 ⟨rfl, hn⟩); go_wp2_with fail; refine (isForm_any ((RInts.below hr hn).more hn.size) hn0 (hs.step hn) hm0).mono ?_; rintro e w2 ⟨rfl, hn2⟩)
  have hn3 := hn.trans (hn2.mono hn.size)
  obtain ⟨ys, hs1, rfl, hL⟩ := hs.step hn3
  obtain ⟨b, off, y, rfl, _, _, hy, c0, c1, hin⟩ := RForms.at_ hs1 (k := i.toNat) (by omega)
  obtain ⟨b', off', x, eA, hbb, _, hx, d0, d1, hix⟩ := RForms.at_ hs1 (k := k.toNat) (by omega)
  injection eA with eA
  injection eA with eA1 eA2
  subst eA1 eA2
  have hf := HF.out y.f (List.mem_map_of_mem (List.mem_of_getElem? hy))
  have hg := HF.out x.f (List.mem_map_of_mem (List.mem_of_getElem? hx))
  have HY := Lib.hid (frmAt_map hy)
  have HX := Lib.hid (frmAt_map hx)
  have hr2 := (RInts.below hr hn3).more hn3.size
  have hlw := Lib.hid (show y.f.wanted.length = n by have := HFR.out; omega)
  have lx : x.f.held.length ≤ n ∧ n ≤ x.f.held.length := by have := HFR.out; omega
  have H2 := Lib.hid hf.2.2
  clear hy hx hf hg hL hs1 hs
  go_wp2_with fail
  refine (lacking_any hr2 hin (Nat.le_refl _) hn0 hlw.out HT2.out H2.out).mono ?_
  rintro e2 w3 ⟨V, C, rfl, ho, hn4⟩
  replace d0 := (hn4.cell hbb).trans d0
  have hix3 := hix.1.below hn4
  have hb := hn3.trans (hn4.mono hn3.size)
  have hv := own_rints ho
  have HLV := Lib.hid hv.len
  clear c0 c1 d1 ho hr2 hin hix hn4 hn3
  go_wp2_with fail
  clear h1 h2 e1
  go_loop [36] (fun u => ∃ q : Nat, q ≤ n ∧ u = .int .i64 q ∧ wf2L ((lackL fr y.f.wanted).drop q) (x.f.held.drop q) = wfL fr y.f.wanted x.f.held) (fun u => n - (intOf u).toNat)
  case atStart => exact ⟨0, Nat.zero_le _, rfl, wf2L_eq⟩
  case round =>
    obtain ⟨q, hq, rfl, hR⟩ := hrel
    by_cases hlt : q < n
    · obtain ⟨ad, a0, eA, _, hd, _, hc⟩ := RInts.at_ hv hlt
      obtain ⟨af, u, eC, _, hg, _, hcu⟩ := RInts.at_ hix3 (k := q) (by omega)
      have HR := Lib.hid (show ((decide (0 < a0) && decide (0 < u)) || wf2L ((lackL fr y.f.wanted).drop (q + 1)) (x.f.held.drop (q + 1))) = wfL fr y.f.wanted x.f.held by rw [← hR, hd, hg, wf2L])
      have hqx : q < x.f.held.length := by omega
      have HA := Lib.hid eA
      clear hR hd hg
      rw [eC] at d0
      rw [eA]
      clear eA eC
      by_cases q1 : 0 < a0
      · by_cases q2 : 0 < u
        · go_wp2_with fail
          go_ret2
          exact ⟨by rw [wfV, HG.out, HY.out, HX.out, ← HR.out]; simp [q1, q2], hb⟩
        · go_wp2_with fail
          (try rw [← HA.out])
          go_round
          case rel => exact ⟨q + 1, by omega, by go_num, by rw [← HR.out]; simp; omega⟩
          case measure => simp [intOf]; omega
      · go_wp2_with fail
        (try rw [← HA.out])
        go_round
        case rel => exact ⟨q + 1, by omega, by go_num, by rw [← HR.out]; simp; omega⟩
        case measure => simp [intOf]; omega
    · have HR := Lib.hid (show wfL fr y.f.wanted x.f.held = false by rw [← hR, drop_end HLV.out hlt]; rfl)
      clear hR
      go_wp2_with fail
      go_ret2
      exact ⟨by rw [wfV, HG.out, HY.out, HX.out, HR.out]; rfl, hb⟩
end Go.Proofs.Ytlblcblkcphdjaa
