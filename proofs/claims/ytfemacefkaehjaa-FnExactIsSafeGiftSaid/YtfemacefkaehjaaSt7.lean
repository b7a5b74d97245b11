/-
  Contracts: the reference's order of standing forms.
-/
import Derived.Test.YtfemacefkaehjaaSt6
namespace Go.Proofs.Ytfemacefkaehjaa
open Go.RowKit
theorem RInts_grew {w w' : World} {B n : Nat} {A : Option Addr} {xs : List Int} {u : Value} (h : RInts w B A n xs) (hg : w.grownBy w' u.ownBlock) (hne : ∀ ad, A = some ad → u.ownBlock ≠ some ad.block) : RInts w' B A n xs := by
  refine ⟨h.1, fun hn => ?_⟩
  obtain ⟨ad, e, hb, hc⟩ := h.2 hn
  exact ⟨ad, e, hb, fun j z hz => hg.cell (hc j z hz) (by rw [block_of_add]; exact fun e2 => hne ad e e2.symm)⟩
theorem stSum_q {A B : Option Addr} {n q c d : Nat} {xs ys : List Int} {w : World} (hr : RInts w w.heap.size A n xs) (hs : RInts w w.heap.size B q ys) (hn : n ≤ 1048576) (hc0 : A = none → c = 0) (h1 : ∀ x ∈ xs, 0 ≤ x ∧ x ≤ 1000000) (h2 : ∀ x ∈ ys, 0 ≤ x ∧ x ≤ 1000000) (hn1 : 0 < n) (hq : q = n) :
    Calls Try.prog 39 #[.slice A n c, .slice B q d] w fun e w' => ∃ V C, e = .returned (.slice V n C) ∧ Own w' w.heap.size (.slice V n C) n (sumL xs ys) ∧ Below w.heap.size w w' := by
  subst hq
  exact stSum_any hr hs hn hc0 h1 h2 hn1
set_option maxRecDepth 100000 in
set_option maxHeartbeats 1000000 in
theorem stOrder_any {A B : Option Addr} {n c m d : Nat} {fr : List Int} {fs : List Frm} {w : World} (hr : RInts w w.heap.size A n fr) (hn0 : n ≤ 6) (hn1 : 1 ≤ n) (hs0 : AForms w B m fs) (hm0 : m ≤ 8) (hok : (∀ f ∈ fs, (f.held.length = n ∧ ∀ x ∈ f.held, 0 ≤ x ∧ x ≤ 1000) ∧ (f.wanted.length = n ∧ ∀ x ∈ f.wanted, 0 ≤ x ∧ x ≤ 1000))) (hfr : ∀ x ∈ fr, 0 ≤ x ∧ x ≤ 100000) :
    Calls Try.prog 26 #[.slice A n c, .slice B m d] w fun e w' => ∃ V N C, e = .returned (.slice V N C) ∧ Own w' w.heap.size (.slice V N C) N (resF fs fr []) ∧ N ≤ 8 ∧ Below w.heap.size w w' := by
  obtain ⟨i0, hi, hz0, hz1, hz2⟩ := info_parts info3
  obtain ⟨ys, hs, rfl, hL⟩ := hs0
  have HM := Lib.hid hs.len
  have HK := Lib.hid hok
  have HFL := Lib.hid (show (ys.map FV.f).length = m by simpa using hs.len)
  clear hok hL
  go_enter Try.func26, Try.ntmps26
  go_wp2_with fail
  go_loopw [0, 5, 6] (fun fv v gv wr => ∃ (F : Option Addr) (cf : Nat) (frk out : List Int) (N C : Nat) (V : Option Addr) (ag : Bool), fv = .slice F n cf ∧ v = .slice V N C ∧ gv = .bool ag ∧ RInts wr wr.heap.size F n frk ∧ (∀ x ∈ frk, 0 ≤ x ∧ x ≤ 100000 + 1000 * N) ∧ Own wr w.heap.size (.slice V N C) N out ∧ OutOk m out ∧ (ag = true → resF (ys.map FV.f) frk out = resF (ys.map FV.f) fr []) ∧ (ag = false → out = resF (ys.map FV.f) fr []) ∧ Below w.heap.size w wr ∧ w.heap.size ≤ wr.heap.size ∧ nq (.slice V N C) (.slice F n cf)) (fun _ v gv _ => (8 - lenOf v) * 2 + boolOf gv)
  case atStart => exact ⟨A, c, fr, [], 0, 0, none, true, rfl, rfl, rfl, hr, fun x hx => by have := hfr x hx; omega, own_nil _ _, ⟨by simp, by simp⟩, fun _ => rfl, (fun h => by cases h), Below.refl _ _, Nat.le_refl _, (fun k e => by cases e)⟩
  case round =>
    obtain ⟨F0, cf0, frk0, out0, N0, C0, V0, ag0, rfl, rfl, rfl, hrk, hbk, hown, hok, hR1, hR2, hb, hsz, hnq⟩ := hrel
    have HNQ0 := Lib.hid hnq; clear hnq
    have hN8 : N0 ≤ 8 := by have := hok.le; have := own_len hown; omega
    cases ag0
    · have HE := Lib.hid (hR2 rfl)
      have HO := Lib.hid hown
      clear hown hbk hok hR1 hR2 hrk
      go_wp2_with fail
      go_ret
      have ho9 := HO.out
      rw [HE.out] at ho9
      exact ⟨V0, N0, C0, rfl, ho9, hN8, hb⟩
    · have HR0 := Lib.hid (hR1 rfl)
      have HBK0 := Lib.hid hbk
      have HOK0 := Lib.hid hok
      have HN0 := Lib.hid (own_len hown)
      have HRK0 := Lib.hid hrk
      have HOW0 := Lib.hid hown
      clear hR1 hR2 hbk hok hrk hown
      go_wp2_with fail
      obtain ⟨wo, hwo⟩ : ∃ u, u = wr := ⟨_, rfl⟩
      subst hwo
      go_loopw [0, 5, 6, 12] (fun fv v gv u wr => ∃ (F : Option Addr) (cf i : Nat) (frk out : List Int) (N C : Nat) (V : Option Addr) (ag : Bool), fv = .slice F n cf ∧ v = .slice V N C ∧ gv = .bool ag ∧ u = .int .i64 i ∧ i ≤ m ∧ N ≤ 8 ∧ RInts wr wr.heap.size F n frk ∧ (∀ x ∈ frk, 0 ≤ x ∧ x ≤ 100000 + 1000 * N) ∧ Own wr w.heap.size (.slice V N C) N out ∧ OutOk m out ∧ ((ag = false ∧ frk = frk0 ∧ out = out0 ∧ firstQ (ys.map FV.f) frk0 out0 (m - i) i = firstQ (ys.map FV.f) frk0 out0 m 0) ∨ (ag = true ∧ resF (ys.map FV.f) frk out = resF (ys.map FV.f) fr [] ∧ N = N0 + 1)) ∧ Below w.heap.size w wr ∧ w.heap.size ≤ wr.heap.size ∧ nq (.slice V N C) (.slice F n cf)) (fun _ _ _ u _ => m - (intOf u).toNat)
      case atStart => exact ⟨F0, cf0, 0, frk0, out0, N0, C0, V0, false, rfl, rfl, rfl, rfl, Nat.zero_le _, hN8, HRK0.out, HBK0.out, HOW0.out, HOK0.out, .inl ⟨rfl, rfl, rfl, rfl⟩, hb, hsz, HNQ0.out⟩
      case round =>
        clear hb hsz
        obtain ⟨F, cf, i, frk, out, N, C, V, ag, rfl, rfl, rfl, rfl, hi9, hN9, hrk, hbk, hown, hok, hS, hb, hsz, hnq⟩ := hrel
        have HNQ := Lib.hid hnq; clear hnq
        have HBK := Lib.hid hbk
        have HOK := Lib.hid hok
        have HST := Lib.hid hS
        clear hbk hok hS
        by_cases hlt : i < m
        · obtain ⟨b, off, y, eB, _, _, hy, c0, c1, hin⟩ := RForms.at_ (hs.below hb) hlt
          have hyf := HK.out y.f (List.mem_map_of_mem (List.mem_of_getElem? hy))
          have HY := Lib.hid (frmAt_nat hy)
          have HHL := Lib.hid hyf.1.1
          have HWL := Lib.hid hyf.2.1
          have HHB := Lib.hid hyf.1.2
          have HB := Lib.hid eB
          have hra := (Reads.alloc hrk (Nat.le_refl _) (.cells #[.slice y.a1 y.f.held.length y.c1, .slice y.a2 y.f.wanted.length y.c2] 40)).more (B' := (wr.alloc (.cells #[.slice y.a1 y.f.held.length y.c1, .slice y.a2 y.f.wanted.length y.c2] 40)).heap.size) (by simp)
          have hoa := row_alloc hown (.cells #[.slice y.a1 y.f.held.length y.c1, .slice y.a2 y.f.wanted.length y.c2] 40)
          have hia : y.In (wr.alloc (.cells #[.slice y.a1 y.f.held.length y.c1, .slice y.a2 y.f.wanted.length y.c2] 40)) (wr.alloc (.cells #[.slice y.a1 y.f.held.length y.c1, .slice y.a2 y.f.wanted.length y.c2] 40)).heap.size := ⟨(Reads.alloc (hin.1.more hsz) (Nat.le_refl _) _).more (by simp), (Reads.alloc (hin.2.more hsz) (Nat.le_refl _) _).more (by simp)⟩
          have hba := hb.alloc hb.size (.cells #[.slice y.a1 y.f.held.length y.c1, .slice y.a2 y.f.wanted.length y.c2] 40)
          have hza : w.heap.size ≤ (wr.alloc (.cells #[.slice y.a1 y.f.held.length y.c1, .slice y.a2 y.f.wanted.length y.c2] 40)).heap.size := by simp; omega
          have hX := Blk.new' wr 40 #[.slice y.a1 y.f.held.length y.c1, .slice y.a2 y.f.wanted.length y.c2]
          have HVL := Lib.hid (show ∀ k, (Value.slice V N C).ownBlock = some k → k < wr.heap.size from fun k e => (hown.lt k e).2)
          have HYM := Lib.hid (hs.2 y (List.mem_of_getElem? hy)).1
          clear hy hyf hrk hown hin
          rw [eB]
          clear eB
          cases ag
          · have HQ0 := Lib.hid (show frk = frk0 ∧ out = out0 ∧ firstQ (ys.map FV.f) frk0 out0 (m - i) i = firstQ (ys.map FV.f) frk0 out0 m 0 by rcases HST.out with ⟨_, h⟩ | ⟨h, _⟩; exact h; cases h)
            have hout := own_rints hoa
            cases h1 : decide ((i : Int) ∈ out)
            · cases h2 : canL frk y.f.wanted
              · have HQ := Lib.hid (show qual (ys.map FV.f) frk0 out0 i = false by rw [qual, HY.out, ← HQ0.out.1, ← HQ0.out.2.1, h1, h2]; rfl)
                go_wp2_with (go_at_call 37; refine (hasS_any hout (by omega)).mono ?_; rintro e1 w1 ⟨rfl, rfl⟩)
                refine (stCan_any hra hia (Nat.le_refl _) (by omega) HWL.out).mono ?_
                rintro e1 w1 ⟨rfl, hn⟩
                replace hba := hba.trans (hn.mono hba.size)
                replace hra := (RInts.below hra hn).more hn.size
                replace hoa := row_step hoa hn
                replace hza := Nat.le_trans hza hn.size
                clear c0 c1 hn hout hia hX hb
                go_wp2_with fail
                (try rw [← HB.out])
                go_roundw
                case rel => exact ⟨F, cf, i + 1, frk, out, N, C, V, false, rfl, rfl, rfl, by go_num, by omega, hN9, hra, HBK.out, hoa, HOK.out, .inl ⟨rfl, HQ0.out.1, HQ0.out.2.1, by rw [← firstQ_step hlt HQ.out]; exact HQ0.out.2.2⟩, hba, hza, HNQ.out⟩
                case measure => simp [intOf]; omega
              · have HQ := Lib.hid (show qual (ys.map FV.f) frk0 out0 i = true by rw [qual, HY.out, ← HQ0.out.1, ← HQ0.out.2.1, h1, h2]; rfl)
                have hst := resF_some (by rw [HFL.out]; exact HOK0.out) (show firstQ (ys.map FV.f) frk0 out0 (ys.map FV.f).length 0 = some i by rw [HFL.out, ← HQ0.out.2.2]; exact firstQ_hit hlt HQ.out)
                have HNN := Lib.hid (show N0 < 8 ∧ N = N0 by have := hst.2.2; have := HFL.out; have := HN0.out; have := own_len hoa; rw [HQ0.out.2.1] at this; omega)
                have HS := Lib.hid hst
                clear hst
                go_wp2_with (go_at_call 37; refine (hasS_any hout (by omega)).mono ?_; rintro e1 w1 ⟨rfl, rfl⟩)
                refine (stCan_any hra hia (Nat.le_refl _) (by omega) HWL.out).mono ?_
                rintro e1 w1 ⟨rfl, hn⟩
                replace hba := hba.trans (hn.mono hba.size)
                replace hra := (RInts.below hra hn).more hn.size
                have hvl := hoa.lt
                replace hoa := row_step hoa hn
                replace hza := Nat.le_trans hza hn.size
                have hih := ((hia.1.below hn).more hn.size)
                have hX1 := hX.below hn hX.lt
                have hzz := hn.size
                simp only [World.size_alloc] at hzz
                have n7 : N < 8 := by have := HNN.out; omega
                clear c0 c1 hn hout hia hX hb hvl hih
                go_wp2_with (at_builtin; refine wpList_append_own _ rfl _ _ 22 rfl (w.heap.size) 3 i0 (.int .i64 0) 1 8 Try.underlying22 hi hz0 hz1 hz2 rfl (by decide) _ _ _ rfl (hoa.alloc _) ⟨w1.heap.size, 0, none⟩ 1 1 [.int .i64 ((i : Int))] rfl rfl (new_one _ _ (by simp) _ _) (by intro u hu; simp at hu; subst hu; rfl) (by unfold maxLen; omega) (by omega) (by simp <;> omega) ?_)
                intro v' w3 hown' hgrow _
                have hkb := below_grown (World.ownsRow.alloc hoa (.cells #[.int .i64 (i : Int)] 3)) (by simp; omega) hgrow
                have ho2 := own_app hown'
                have hX3 := (hX1.alloc (.cells #[.int .i64 (i : Int)] 3)).grew hgrow (fun e => by have := HVL.out _ e; omega)
                have hr3 := RInts_grew (Reads.alloc hra (Nat.le_refl _) (.cells #[.int .i64 (i : Int)] 3)) hgrow (fun ad e e2 => HNQ.out _ e2 (by rw [e]; rfl))
                replace hba := (hba.alloc hba.size (.cells #[.int .i64 (i : Int)] 3)).trans (hkb.mono (by omega))
                have hz3 := hkb.size
                simp only [World.size_alloc] at hz3
                have hr4 := hr3.more (B' := w3.heap.size) (by omega)
                have hy3 := (HYM.out.below hba).more (B' := w3.heap.size) (by omega)
                have hcF : F = none → cf = 0 := by
                  intro e
                  obtain ⟨ad, e2, _⟩ := hr4.2 (by omega)
                  rw [e] at e2
                  cases e2
                have HCF := Lib.hid hcF
                have x0 : _ = some (.slice y.a1 y.f.held.length y.c1 : Value) := hX3.cell 0
                obtain ⟨V2, C2, rfl⟩ := own_slice ho2
                have HBB := Lib.hid (show ∀ x ∈ frk, 0 ≤ x ∧ x ≤ 1000000 from fun x hx => by have := HBK.out x hx; omega)
                have HHB2 := Lib.hid (show ∀ x ∈ y.f.held, 0 ≤ x ∧ x ≤ 1000000 from fun x hx => by have := HHB.out x hx; omega)
                clear hoa hown' hgrow hkb hra hX1 hr3 hX3 hcF h1 h2
                go_wp2_with fail
                refine (stSum_q hr4 hy3 (by omega) HCF.out HBB.out HHB2.out (by omega) HHL.out).mono ?_
                rintro e1 w4 ⟨F2, cf2, rfl, hof, hn⟩
                have HNQ2 := Lib.hid (show nq (.slice V2 (N + 1) C2) (.slice F2 n cf2) from fun k e1 e2 => by have := (ho2.lt k e1).2; have := (hof.lt k e2).1; omega)
                replace hba := hba.trans (hn.mono hba.size)
                replace ho2 := row_step ho2 hn
                have hza4 : w.heap.size ≤ w4.heap.size := by have := hn.size; omega
                have hrk := own_rints hof
                have HO := Lib.hid ho2
                have HRK := Lib.hid hrk
                clear ho2 hrk hof hn hr4 hy3 x0
                go_wp2_with fail
                (try rw [← HB.out])
                go_roundw
                case rel => exact ⟨F2, cf2, i + 1, _, _, N + 1, C2, V2, true, rfl, rfl, rfl, by go_num, by omega, by omega, HRK.out, fun x hx => by have := sumL_bd (P := 100000 + 1000 * N) (Q := 1000) HBK.out HHB.out x hx; omega, HO.out, by have h9 := HS.out.2.1; rw [HFL.out, ← HQ0.out.2.1] at h9; exact h9, .inr ⟨rfl, by rw [← HR0.out, HS.out.1, HY.out, HQ0.out.1, HQ0.out.2.1], by rw [HNN.out.2]⟩, hba, hza4, HNQ2.out⟩
                case measure => simp [intOf]; omega
            · have HQ := Lib.hid (show qual (ys.map FV.f) frk0 out0 i = false by rw [qual, ← HQ0.out.2.1, h1]; rfl)
              go_wp2_with (go_at_call 37; refine (hasS_any hout (by omega)).mono ?_; rintro e1 w1 ⟨rfl, rfl⟩)
              (try rw [← HB.out])
              go_roundw
              case rel => exact ⟨F, cf, i + 1, frk, out, N, C, V, false, rfl, rfl, rfl, by go_num, by omega, hN9, hra, HBK.out, hoa, HOK.out, .inl ⟨rfl, HQ0.out.1, HQ0.out.2.1, by rw [← firstQ_step hlt HQ.out]; exact HQ0.out.2.2⟩, hba, hza, HNQ.out⟩
              case measure => simp [intOf]; omega
          · go_wp2_with fail
            (try rw [← HB.out])
            go_roundw
            case rel => exact ⟨F, cf, i + 1, frk, out, N, C, V, true, rfl, rfl, rfl, by go_num, by omega, hN9, hra, HBK.out, hoa, HOK.out, .inr (by rcases HST.out with ⟨h, _⟩ | h; cases h; exact h), hba, hza, HNQ.out⟩
            case measure => simp [intOf]; omega
        · have HMS := Lib.hid (show (8 - N) * 2 + boolOf (.bool ag) < (8 - N0) * 2 + 1 from by
            rcases HST.out with ⟨h1, h2, h3, h4⟩ | ⟨h1, h2, h3⟩
            · subst h1
              have hl := own_len hown
              rw [h3, HN0.out] at hl
              simp [boolOf]
              omega
            · subst h1
              simp [boolOf]
              omega)
          go_wp2_with fail
          go_roundw
          case rel => exact ⟨F, cf, frk, out, N, C, V, ag, rfl, rfl, rfl, hrk, HBK.out, hown, HOK.out, fun h => by (rcases HST.out with ⟨h2, _⟩ | ⟨_, h2, _⟩; rw [h] at h2; cases h2; exact h2), fun h => by (rcases HST.out with ⟨_, h1, h2, h3⟩ | ⟨h2, _⟩; (rw [h2, ← HR0.out, resF_none]; rw [HFL.out, ← h3]; exact firstQ_end hlt); (rw [h] at h2; cases h2)), hb, hsz, HNQ.out⟩
          case measure => simpa [lenOf, boolOf] using HMS.out
end Go.Proofs.Ytfemacefkaehjaa
