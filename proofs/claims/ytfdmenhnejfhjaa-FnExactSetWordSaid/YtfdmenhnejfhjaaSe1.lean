/-
  Contracts: the codes asked for are in the case; a setting is valid; the types of a setting.
-/
import Derived.Test.YtfdmenhnejfhjaaSetg
import Derived.Test.YtfdmenhnejfhjaaDi1
import Derived.Test.YtfdmenhnejfhjaaCa4
namespace Go.Proofs.Ytfdmenhnejfhjaa
open Go.RowKit
def inL (bs : List Bx) : List ByteArray → Bool
  | [] => true
  | s :: r => decide (0 ≤ findL s bs 0) && inL bs r
def askB (bs : List Bx) (ss : List ByteArray) : Bool := inL bs ss && (caseB bs && decide (ss.length ≤ 60))
theorem inL_true {bs : List Bx} : ∀ {ss : List ByteArray}, inL bs ss = true → ∀ s ∈ ss, 0 ≤ findL s bs 0
  | [], _ => by simp
  | s :: r, h => by
    simp only [inL, Bool.and_eq_true, decide_eq_true_eq] at h
    intro x hx
    rcases List.mem_cons.1 hx with rfl | hx
    · exact h.1
    · exact inL_true h.2 x hx
theorem askB_true {bs : List Bx} {ss : List ByteArray} (h : askB bs ss = true) : (∀ s ∈ ss, 0 ≤ findL s bs 0) ∧ caseB bs = true ∧ ss.length ≤ 60 := by
  simp only [askB, Bool.and_eq_true, decide_eq_true_eq] at h
  exact ⟨inL_true h.1, h.2.1, h.2.2⟩
set_option maxRecDepth 100000 in
theorem caAsked_any {A A' : Option Addr} {n cp m cd : Nat} {bs : List Bx} {ss : List ByteArray} {w : World} (hr : RBxs w w.heap.size A n bs) (hn0 : n ≤ 1048576) (hcp : n ≤ cp) (hL : ∀ b ∈ bs, b.code.size ≤ 1048576) (hs : RStrs w w.heap.size A' m ss) (hm0 : m ≤ 1048576) :
    Calls Try.prog 40 #[.slice A n cp, .slice A' m cd] w fun e w' => e = .returned (.bool (askB bs ss)) ∧ Below w.heap.size w w' := by
  have HL := Lib.hid hs.len
  have HX := Lib.hid hL
  go_enter Try.func40, Try.ntmps40
  go_wp2_with fail
  go_loopw [9] (fun i wr => ∃ k : Nat, k ≤ m ∧ i = .int .i64 k ∧ inL bs (ss.drop k) = inL bs ss ∧ Below w.heap.size w wr) (fun i _ => m - (intOf i).toNat)
  case atStart => exact ⟨0, Nat.zero_le _, rfl, rfl, Below.refl _ _⟩
  case round =>
    obtain ⟨k, hk, rfl, hR, hb⟩ := hrel
    have hrw := (RBxs.below hr hb).more hb.size
    by_cases hlt : k < m
    · obtain ⟨ad, s, rfl, _, hd, hy, hc⟩ := RStrs.at_ (RStrs.below hs hb) hlt
      have hR2 : (decide (0 ≤ findL s bs 0) && inL bs (ss.drop (k + 1))) = inL bs ss := by rw [← hR, hd, inL]
      clear hR hd hy
      rcases (by omega : findL s bs 0 < 0 ∨ 0 ≤ findL s bs 0) with h1 | h1
      · have HF := Lib.hid (show askB bs ss = false by rw [askB, ← hR2, show decide (0 ≤ findL s bs 0) = false by simp; omega]; simp)
        clear hR2
        go_wp2_with fail
        refine (caFind_any hrw hn0).mono ?_
        rintro e1 w1 ⟨rfl, hn⟩
        clear hc
        go_wp2_with fail
        go_ret
        exact ⟨ret_bool HF.out.symm, hb.trans (hn.mono hb.size)⟩
      · have HR := Lib.hid (show inL bs (ss.drop (k + 1)) = inL bs ss by rw [← hR2, show decide (0 ≤ findL s bs 0) = true by simp; omega]; simp)
        clear hR2
        go_wp2_with fail
        refine (caFind_any hrw hn0).mono ?_
        rintro e1 w1 ⟨rfl, hn⟩
        clear hc
        have hb1 := hb.trans (hn.mono hb.size)
        go_wp2_with fail
        go_roundw
        case rel => exact ⟨k + 1, by omega, by go_num, HR.out, hb1⟩
        case measure => simp [intOf]; omega
    · have hT : inL bs ss = true := by rw [← hR, drop_end HL.out hlt]; rfl
      clear hR
      cases h2 : caseB bs
      · have HF := Lib.hid (show askB bs ss = false by rw [askB, hT, h2]; rfl)
        clear hT
        go_wp2_with fail
        refine (caGood_any hrw hn0 hcp HX.out).mono ?_
        rintro e1 w1 ⟨rfl, hn⟩
        rw [h2]
        clear h2
        go_wp2_with fail
        go_ret
        exact ⟨ret_bool HF.out.symm, hb.trans (hn.mono hb.size)⟩
      · have HF := Lib.hid (show askB bs ss = decide (m ≤ 60) by rw [askB, hT, h2, HL.out]; rfl)
        clear hT
        go_wp2_with fail
        refine (caGood_any hrw hn0 hcp HX.out).mono ?_
        rintro e1 w1 ⟨rfl, hn⟩
        rw [h2]
        clear h2
        go_wp2_with fail
        go_ret
        exact ⟨ret_bool (by rw [HF.out]; simp <;> omega), hb.trans (hn.mono hb.size)⟩
set_option maxRecDepth 100000 in
theorem areCodes_any {A A' : Option Addr} {n cp m cd : Nat} {bs : List Bx} {ss : List ByteArray} {w : World} (hr : RBxs w w.heap.size A n bs) (hn0 : n ≤ 1048576) (hcp : n ≤ cp) (hL : ∀ b ∈ bs, b.code.size ≤ 1048576) (hs : RStrs w w.heap.size A' m ss) (hm0 : m ≤ 1048576) :
    Calls Try.prog 48 #[.slice A n cp, .slice A' m cd] w fun e w' => e = .returned (.bool (askB bs ss)) ∧ Below w.heap.size w w' := by
  have HL := Lib.hid hs.len
  have HX := Lib.hid hL
  go_enter Try.func48, Try.ntmps48
  go_wp2_with fail
  go_loopw [9] (fun i wr => ∃ k : Nat, k ≤ m ∧ i = .int .i64 k ∧ inL bs (ss.drop k) = inL bs ss ∧ Below w.heap.size w wr) (fun i _ => m - (intOf i).toNat)
  case atStart => exact ⟨0, Nat.zero_le _, rfl, rfl, Below.refl _ _⟩
  case round =>
    obtain ⟨k, hk, rfl, hR, hb⟩ := hrel
    have hrw := (RBxs.below hr hb).more hb.size
    by_cases hlt : k < m
    · obtain ⟨ad, s, rfl, _, hd, hy, hc⟩ := RStrs.at_ (RStrs.below hs hb) hlt
      have hR2 : (decide (0 ≤ findL s bs 0) && inL bs (ss.drop (k + 1))) = inL bs ss := by rw [← hR, hd, inL]
      clear hR hd hy
      rcases (by omega : findL s bs 0 < 0 ∨ 0 ≤ findL s bs 0) with h1 | h1
      · have HF := Lib.hid (show askB bs ss = false by rw [askB, ← hR2, show decide (0 ≤ findL s bs 0) = false by simp; omega]; simp)
        clear hR2
        go_wp2_with fail
        refine (boxAt_any hrw hn0).mono ?_
        rintro e1 w1 ⟨rfl, hn⟩
        clear hc
        go_wp2_with fail
        go_ret
        exact ⟨ret_bool HF.out.symm, hb.trans (hn.mono hb.size)⟩
      · have HR := Lib.hid (show inL bs (ss.drop (k + 1)) = inL bs ss by rw [← hR2, show decide (0 ≤ findL s bs 0) = true by simp; omega]; simp)
        clear hR2
        go_wp2_with fail
        refine (boxAt_any hrw hn0).mono ?_
        rintro e1 w1 ⟨rfl, hn⟩
        clear hc
        have hb1 := hb.trans (hn.mono hb.size)
        go_wp2_with fail
        go_roundw
        case rel => exact ⟨k + 1, by omega, by go_num, HR.out, hb1⟩
        case measure => simp [intOf]; omega
    · have hT : inL bs ss = true := by rw [← hR, drop_end HL.out hlt]; rfl
      clear hR
      cases h2 : caseB bs
      · have HF := Lib.hid (show askB bs ss = false by rw [askB, hT, h2]; rfl)
        clear hT
        go_wp2_with fail
        refine (isCase_any hrw hn0 hcp HX.out).mono ?_
        rintro e1 w1 ⟨rfl, hn⟩
        rw [h2]
        clear h2
        go_wp2_with fail
        go_ret
        exact ⟨ret_bool HF.out.symm, hb.trans (hn.mono hb.size)⟩
      · have HF := Lib.hid (show askB bs ss = decide (m ≤ 60) by rw [askB, hT, h2, HL.out]; rfl)
        clear hT
        go_wp2_with fail
        refine (isCase_any hrw hn0 hcp HX.out).mono ?_
        rintro e1 w1 ⟨rfl, hn⟩
        rw [h2]
        clear h2
        go_wp2_with fail
        go_ret
        exact ⟨ret_bool (by rw [HF.out]; simp <;> omega), hb.trans (hn.mono hb.size)⟩
theorem diGood_any {A A' : Option Addr} {n cp m cd : Nat} {bs : List Bx} {ss : List ByteArray} {w : World} (hr : RBxs w w.heap.size A n bs) (hn0 : n ≤ 1048576) (hcp : n ≤ cp) (hL : ∀ b ∈ bs, b.code.size ≤ 1048576) (hs : RStrs w w.heap.size A' m ss) (hm0 : m ≤ 1048576) :
    Calls Try.prog 19 #[.agg #[.slice A n cp, .slice A' m cd]] w fun e w' => e = .returned (.bool (askB bs ss)) ∧ Below w.heap.size w w' := by
  have hbW : Below w.heap.size w (w.alloc (.cells #[.slice A n cp, .slice A' m cd] 31)) := (Below.refl _ _).alloc (Nat.le_refl _) _
  have hr1 := (RBxs.below hr hbW).more hbW.size
  have hs1 := (RStrs.below hs hbW).more hbW.size
  go_enter Try.func19, Try.ntmps19
  go_wp2_with fail
  refine (caAsked_any hr1 hn0 hcp hL hs1 hm0).mono ?_
  rintro e1 w1 ⟨rfl, hn⟩
  go_wp2_with fail
  go_ret
  exact ⟨rfl, hbW.trans (hn.mono hbW.size)⟩
theorem isSetting_any {A A' : Option Addr} {n cp m cd : Nat} {bs : List Bx} {ss : List ByteArray} {w : World} (hr : RBxs w w.heap.size A n bs) (hn0 : n ≤ 1048576) (hcp : n ≤ cp) (hL : ∀ b ∈ bs, b.code.size ≤ 1048576) (hs : RStrs w w.heap.size A' m ss) (hm0 : m ≤ 1048576) :
    Calls Try.prog 26 #[.agg #[.slice A n cp, .slice A' m cd]] w fun e w' => e = .returned (.bool (askB bs ss)) ∧ Below w.heap.size w w' := by
  have hbW : Below w.heap.size w (w.alloc (.cells #[.slice A n cp, .slice A' m cd] 31)) := (Below.refl _ _).alloc (Nat.le_refl _) _
  have hr1 := (RBxs.below hr hbW).more hbW.size
  have hs1 := (RStrs.below hs hbW).more hbW.size
  go_enter Try.func26, Try.ntmps26
  go_wp2_with fail
  refine (areCodes_any hr1 hn0 hcp hL hs1 hm0).mono ?_
  rintro e1 w1 ⟨rfl, hn⟩
  go_wp2_with fail
  go_ret
  exact ⟨rfl, hbW.trans (hn.mono hbW.size)⟩
theorem isSetting_impl {A A' : Option Addr} {n cp m cd : Nat} {bs : List Bx} {ss : List ByteArray} {w : World} (hr : RBxs w w.heap.size A n bs) (hn0 : n ≤ 1048576) (hcp : n ≤ cp) (hL : ∀ b ∈ bs, b.code.size ≤ 1048576) (hs : RStrs w w.heap.size A' m ss) (hm0 : m ≤ 1048576) (_ : m ≤ cd) (_ : ∀ s ∈ ss, s.size ≤ 1048576) :
    Calls Try.prog 26 #[.agg #[.slice A n cp, .slice A' m cd]] w fun e w' => e = .returned (.bool (askB bs ss)) ∧ Below w.heap.size w w' := isSetting_any hr hn0 hcp hL hs hm0
end Go.Proofs.Ytfdmenhnejfhjaa
