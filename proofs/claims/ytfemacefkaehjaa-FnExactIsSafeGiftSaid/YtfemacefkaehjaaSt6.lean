/-
  Contracts: the order in which standing forms can be finished.
-/
import Derived.Test.YtfemacefkaehjaaSt2
import Derived.Test.YtfemacefkaehjaaSum
namespace Go.Proofs.Ytfemacefkaehjaa
open Go.RowKit
/-- Form j can be taken next. -/
def qual (fs : List Frm) (fr out : List Int) (j : Nat) : Bool := !decide ((j : Int) ∈ out) && canL fr (frmAt fs j).wanted
def firstQ (fs : List Frm) (fr out : List Int) : Nat → Nat → Option Nat
  | 0, _ => none
  | k + 1, i => if qual fs fr out i then some i else firstQ fs fr out k (i + 1)
def ordF (fs : List Frm) : Nat → List Int → List Int → List Int
  | 0, _, out => out
  | f + 1, fr, out => match firstQ fs fr out fs.length 0 with
    | none => out
    | some j => ordF fs f (sumL fr (frmAt fs j).held) (out ++ [(j : Int)])
def resF (fs : List Frm) (fr out : List Int) : List Int := ordF fs (fs.length - out.length) fr out
/-- A list of numbers below n, all different, has at most n of them. -/
theorem pigeon : ∀ (n : Nat) (l : List Int), l.Nodup → (∀ x ∈ l, 0 ≤ x ∧ x < n) → l.length ≤ n
  | 0, l, _, h => by
    cases l with
    | nil => simp
    | cons x r => have := h x (by simp); omega
  | n + 1, l, hd, h => by
    by_cases hm : (n : Int) ∈ l
    · have hl := List.length_erase_of_mem hm
      have := pigeon n (l.erase (n : Int)) (hd.erase _) (fun x hx => by
        have h1 := (hd.mem_erase_iff).1 hx
        have := h x h1.2
        have : x ≠ (n : Int) := h1.1
        omega)
      omega
    · have := pigeon n l hd (fun x hx => by
        have := h x hx
        have : x ≠ (n : Int) := fun e => hm (e ▸ hx)
        omega)
      omega
theorem firstQ_some {fs : List Frm} {fr out : List Int} : ∀ {k i j : Nat}, firstQ fs fr out k i = some j → qual fs fr out j = true ∧ i ≤ j ∧ j < i + k
  | 0, _, _, h => by simp [firstQ] at h
  | k + 1, i, j, h => by
    rw [firstQ] at h
    split at h
    · injection h with h
      subst h
      exact ⟨by assumption, by omega, by omega⟩
    · obtain ⟨g1, g2, g3⟩ := firstQ_some h
      exact ⟨g1, by omega, by omega⟩
def OutOk (n : Nat) (out : List Int) : Prop := out.Nodup ∧ ∀ x ∈ out, 0 ≤ x ∧ x < n
theorem OutOk.le {n : Nat} {out : List Int} (h : OutOk n out) : out.length ≤ n := pigeon n out h.1 h.2
theorem OutOk.snoc {n j : Nat} {out : List Int} (h : OutOk n out) (hj : j < n) (hm : ¬ (j : Int) ∈ out) : OutOk n (out ++ [(j : Int)]) := by
  refine ⟨?_, fun x hx => ?_⟩
  · rw [List.nodup_append]
    refine ⟨h.1, by simp, fun a ha b hb e => ?_⟩
    simp at hb
    subst hb
    subst e
    exact hm ha
  · rcases List.mem_append.1 hx with hx | hx
    · exact h.2 x hx
    · simp at hx; omega
theorem resF_none {fs : List Frm} {fr out : List Int} (h : firstQ fs fr out fs.length 0 = none) : resF fs fr out = out := by
  unfold resF
  cases fs.length - out.length with
  | zero => rfl
  | succ f => rw [ordF, h]
theorem resF_some {fs : List Frm} {fr out : List Int} {j : Nat} (ho : OutOk fs.length out) (h : firstQ fs fr out fs.length 0 = some j) :
    resF fs fr out = resF fs (sumL fr (frmAt fs j).held) (out ++ [(j : Int)]) ∧ OutOk fs.length (out ++ [(j : Int)]) ∧ out.length < fs.length := by
  obtain ⟨h1, _, h3⟩ := firstQ_some h
  have hm : ¬ (j : Int) ∈ out := by simp [qual] at h1; exact h1.1
  have h2 := ho.snoc (by omega) hm
  have hl := h2.le
  simp at hl
  refine ⟨?_, h2, by omega⟩
  unfold resF
  rw [show fs.length - out.length = (fs.length - (out ++ [(j : Int)]).length) + 1 by simp; omega, ordF, h]
theorem firstQ_step {fs : List Frm} {fr out : List Int} {n i : Nat} (h : i < n) (hq : qual fs fr out i = false) : firstQ fs fr out (n - i) i = firstQ fs fr out (n - (i + 1)) (i + 1) := by
  rw [show n - i = (n - (i + 1)) + 1 by omega, firstQ, hq]; rfl
theorem firstQ_hit {fs : List Frm} {fr out : List Int} {n i : Nat} (h : i < n) (hq : qual fs fr out i = true) : firstQ fs fr out (n - i) i = some i := by
  rw [show n - i = (n - (i + 1)) + 1 by omega, firstQ, hq]; rfl
theorem firstQ_end {fs : List Frm} {fr out : List Int} {n i : Nat} (h : ¬ i < n) : firstQ fs fr out (n - i) i = none := by
  rw [show n - i = 0 by omega, firstQ]
def lenOf : Value → Nat | .slice _ n _ => n | _ => 0
def boolOf : Value → Nat | .bool true => 1 | _ => 0
theorem frmAt_nat {ys : List FV} {y : FV} {j : Nat} (h : ys[j]? = some y) : frmAt (ys.map FV.f) (j : Int) = y.f := by rw [frmAt, List.getElem?_map]; simp [h]
set_option maxRecDepth 100000 in
theorem finishing_any {A B : Option Addr} {n c m d : Nat} {fr : List Int} {fs : List Frm} {w : World} (hr : RInts w w.heap.size A n fr) (hn0 : n ≤ 6) (hn1 : 1 ≤ n) (hs0 : AForms w B m fs) (hm0 : m ≤ 8) (hok : (∀ f ∈ fs, (f.held.length = n ∧ ∀ x ∈ f.held, 0 ≤ x ∧ x ≤ 1000) ∧ (f.wanted.length = n ∧ ∀ x ∈ f.wanted, 0 ≤ x ∧ x ≤ 1000))) (hfr : ∀ x ∈ fr, 0 ≤ x ∧ x ≤ 100000) :
    Calls Try.prog 40 #[.slice A n c, .slice B m d] w fun e w' => ∃ V N C, e = .returned (.slice V N C) ∧ Own w' w.heap.size (.slice V N C) N (resF fs fr []) ∧ N ≤ 8 ∧ Below w.heap.size w w' := by
  obtain ⟨i0, hi, hz0, hz1, hz2⟩ := info_parts info3
  obtain ⟨ys, hs, rfl, hL⟩ := hs0
  have HM := Lib.hid hs.len
  have HK := Lib.hid hok
  have h0 := own_empty w w.heap.size (Nat.le_refl _)
  have HFL := Lib.hid (show (ys.map FV.f).length = m by simpa using hs.len)
  clear hok hL
  go_enter Try.func40, Try.ntmps40
  go_wp2_with fail
  go_loopw [0, 5, 6] (fun fv v u wr => ∃ (F : Option Addr) (cf i : Nat) (frk out : List Int) (N C : Nat) (V : Option Addr), fv = .slice F n cf ∧ v = .slice V N C ∧ u = .int .i64 i ∧ i ≤ m ∧ RInts wr wr.heap.size F n frk ∧ (∀ x ∈ frk, 0 ≤ x ∧ x ≤ 100000 + 1000 * N) ∧ Own wr w.heap.size (.slice V N C) N out ∧ OutOk m out ∧ firstQ (ys.map FV.f) frk out (m - i) i = firstQ (ys.map FV.f) frk out m 0 ∧ resF (ys.map FV.f) frk out = resF (ys.map FV.f) fr [] ∧ Below w.heap.size w wr ∧ w.heap.size ≤ wr.heap.size) (fun _ v u _ => (8 - lenOf v) * 10 + (8 - (intOf u).toNat))
  case atStart => exact ⟨A, c, 0, fr, [], 0, 0, some ⟨w.heap.size, 0, none⟩, rfl, rfl, rfl, Nat.zero_le _, (Reads.alloc hr (Nat.le_refl _) _).more (by simp), fun x hx => by have := hfr x hx; omega, h0, ⟨by simp, by simp⟩, rfl, rfl, (by (repeat (first | exact Below.refl _ _ | exact hb | apply Below.drew | (refine Below.alloc ?_ (by first | (simp; done) | (simp; omega) | (have := hb.size; simp at this ⊢; omega)) _) | (refine Below.setCell ?_ (by simp) _)))), by simp⟩
  case round =>
    clear h0
    obtain ⟨F, cf, i, frk, out, N, C, V, rfl, rfl, rfl, hi9, hrk, hbk, hown, hok, hF, hR, hb, hsz⟩ := hrel
    have hNl := own_len hown
    have hN8 := hok.le
    have hN : N ≤ 8 := by omega
    have HNL := Lib.hid hNl
    have HOK := Lib.hid hok
    have HF := Lib.hid hF
    have HR := Lib.hid hR
    have HBK := Lib.hid hbk
    have hout := own_rints hown
    clear hNl hok hF hR hbk hN8
    by_cases hlt : i < m
    · obtain ⟨b, off, y, eB, _, _, hy, c0, c1, hin⟩ := RForms.at_ (hs.below hb) hlt
      have hyf := HK.out y.f (List.mem_map_of_mem (List.mem_of_getElem? hy))
      have HY := Lib.hid (frmAt_nat hy)
      have HHL := Lib.hid hyf.1.1
      have HWL := Lib.hid hyf.2.1
      have HHB := Lib.hid hyf.1.2
      have HB := Lib.hid eB
      clear hy hyf
      rw [eB]
      clear eB
      cases h1 : decide ((i : Int) ∈ out)
      · cases h2 : canL frk y.f.wanted
        · have HQ := Lib.hid (show qual (ys.map FV.f) frk out i = false by rw [qual, HY.out, h1, h2]; rfl)
          go_wp2_with (go_at_call 43; refine (hasI_any hout (by omega)).mono ?_; rintro e1 w1 ⟨rfl, rfl⟩)
          refine (canFinish_any hrk (by exact ⟨hin.1.more hsz, hin.2.more hsz⟩) (Nat.le_refl _) (by omega) HWL.out).mono ?_
          rintro e1 w1 ⟨rfl, hn⟩
          replace hb := hb.trans (hn.mono hb.size)
          replace hrk := (RInts.below hrk hn).more hn.size
          replace hown := row_step hown hn
          replace hsz := Nat.le_trans hsz hn.size
          clear c0 c1 hin hn hout
          go_wp2_with fail
          (try rw [← HB.out])
          go_roundw
          case rel => exact ⟨F, cf, i + 1, frk, out, N, C, V, rfl, rfl, by go_num, by omega, hrk, HBK.out, hown, HOK.out, by rw [← firstQ_step hlt HQ.out]; exact HF.out, HR.out, hb, hsz⟩
          case measure => simp [intOf, lenOf]; omega
        · have HQ := Lib.hid (show qual (ys.map FV.f) frk out i = true by rw [qual, HY.out, h1, h2]; rfl)
          have hst := resF_some (by rw [HFL.out]; exact HOK.out) (show firstQ (ys.map FV.f) frk out (ys.map FV.f).length 0 = some i by rw [HFL.out, ← HF.out]; exact firstQ_hit hlt HQ.out)
          have hN7 : N < 8 := by have := hst.2.2; have := HFL.out; have := HNL.out; omega
          have HS := Lib.hid hst
          clear hst
          go_wp2_with (go_at_call 43; refine (hasI_any hout (by omega)).mono ?_; rintro e1 w1 ⟨rfl, rfl⟩)
          refine (canFinish_any hrk (by exact ⟨hin.1.more hsz, hin.2.more hsz⟩) (Nat.le_refl _) (by omega) HWL.out).mono ?_
          rintro e1 w1 ⟨rfl, hn⟩
          obtain ⟨b2, off2, y2, eB2, _, _, hy2, c2, c3, hin2⟩ := RForms.at_ ((hs.below hb).below (hn.mono hb.size)) hlt
          have hyy : frmAt (ys.map FV.f) (i : Int) = y2.f := frmAt_nat hy2
          have hyy2 : y2.f = y.f := by rw [← hyy, HY.out]
          have hB2 := HB.out
          rw [eB2] at hB2
          injection hB2 with hB2
          injection hB2 with hB3 hB4
          subst hB3 hB4
          replace hb := hb.trans (hn.mono hb.size)
          replace hrk := (RInts.below hrk hn).more hn.size
          replace hown := row_step hown hn
          replace hsz := Nat.le_trans hsz hn.size
          have hih : RInts w1 w1.heap.size y2.a1 n y2.f.held := by
            have h9 := hin2.1.more hsz
            rw [show y2.f.held.length = n by rw [hyy2]; exact HHL.out] at h9
            exact h9
          have hlh : y2.f.held.length = n := by rw [hyy2]; exact HHL.out
          rw [hlh] at c2
          have HY2 := Lib.hid hyy2
          clear c0 c1 c3 hin hin2 hn hout hy2 hyy hyy2 hlh eB2
          go_wp2_with fail
          refine (plus1_any hrk hih (by omega) (fun x hx => by have := HBK.out x hx; omega) (fun x hx => by rw [HY2.out] at hx; have := HHB.out x hx; omega)).mono ?_
          rintro e1 w2 ⟨F2, cf2, rfl, hof, hn⟩
          have HV := Lib.hid (show ∀ k, (Value.slice V N C).ownBlock = some k → k < w1.heap.size from fun k e => (hown.lt k e).2)
          replace hb := hb.trans (hn.mono hb.size)
          replace hown := row_step hown hn
          replace hsz := Nat.le_trans hsz hn.size
          clear hrk hih hn c2
          go_wp2_with (at_builtin; refine wpList_append_own _ rfl _ _ 22 rfl (w.heap.size) 3 i0 (.int .i64 0) 1 8 Try.underlying22 hi hz0 hz1 hz2 rfl (by decide) _ _ _ rfl (hown.alloc _) ⟨w2.heap.size, 0, none⟩ 1 1 [.int .i64 ((i : Int))] rfl rfl (new_one _ _ (by simp) _ _) (by intro u hu; simp at hu; subst hu; rfl) (by unfold maxLen; omega) (by omega) (by simp <;> omega) ?_)
          intro v' w3 hown' hgrow _
          have hkb := below_grown (World.ownsRow.alloc hown (.cells #[.int .i64 (i : Int)] 3)) (by simp; omega) hgrow
          have ho2 := own_app hown'
          replace hb := (hb.alloc hb.size (.cells #[.int .i64 (i : Int)] 3)).trans (hkb.mono (by omega))
          have hz3 := hkb.size
          simp only [World.size_alloc] at hz3
          have hof3 := row_nq (row_alloc hof (.cells #[.int .i64 (i : Int)] 3)) hgrow (.inl (fun k e1 e2 => by have := HV.out k e1; have := (hof.lt k e2).1; omega))
          have hrk := own_rints hof3
          obtain ⟨V2, C2, rfl⟩ := own_slice ho2
          clear hown hown' hgrow hkb hof hof3 h1 h2
          have HO := Lib.hid ho2
          have HRK := Lib.hid hrk
          clear ho2 hrk
          go_wp2_with fail
          (try rw [← HB.out])
          go_roundw
          case rel => exact ⟨F2, cf2, 0, _, _, N + 1, C2, V2, rfl, rfl, rfl, Nat.zero_le _, HRK.out, fun x hx => by have := sumL_bd (P := 100000 + 1000 * N) (Q := 1000) HBK.out (by rw [HY2.out]; exact HHB.out) x hx; omega, HO.out, by have := HS.out.2.1; rw [HFL.out] at this; exact this, rfl, by rw [HY2.out, ← HY.out, ← HS.out.1]; exact HR.out, hb, by omega⟩
          case measure => simp [intOf, lenOf]; omega
      · have HQ := Lib.hid (show qual (ys.map FV.f) frk out i = false by rw [qual, h1]; rfl)
        go_wp2_with (go_at_call 43; refine (hasI_any hout (by omega)).mono ?_; rintro e1 w1 ⟨rfl, rfl⟩)
        (try rw [← HB.out])
        go_roundw
        case rel => exact ⟨F, cf, i + 1, frk, out, N, C, V, rfl, rfl, by go_num, by omega, hrk, HBK.out, hown, HOK.out, by rw [← firstQ_step hlt HQ.out]; exact HF.out, HR.out, hb, hsz⟩
        case measure => simp [intOf, lenOf]; omega
    · have HE := Lib.hid (show out = resF (ys.map FV.f) fr [] by rw [← HR.out, resF_none]; rw [HFL.out, ← HF.out]; exact firstQ_end hlt)
      have HO := Lib.hid hown
      clear hown hout
      go_wp2_with fail
      go_ret
      have ho9 := HO.out
      rw [HE.out] at ho9
      exact ⟨V, N, C, rfl, ho9, hN, hb⟩
end Go.Proofs.Ytfemacefkaehjaa
