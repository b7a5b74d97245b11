/-
  Contracts: WhatCanBeSet.
-/
import Derived.Test.YtjcopempjanhhaaSw3
namespace Go.Proofs.Ytjcopempjanhhaa
open Go.RowKit
def wcN (ms : List Srt) : List Bx → List ByteArray → List ByteArray → Nat
  | _, _, [] => 0
  | bs, ss, s :: r => if swG ms bs ss s then wcN ms (swB ms bs ss s) (swS ms bs ss s) r + 1 else 0
def wcG (ms : List Srt) (bs : List Bx) (ss ws : List ByteArray) : Bool := fontB ms && (askB bs ss && wordsB ws)
def wcV (ms : List Srt) (bs : List Bx) (ss ws : List ByteArray) : Int := if wcG ms bs ss ws then (wcN ms bs ss ws : Int) else 0
theorem wc_no {ms : List Srt} {bs : List Bx} {ss ws : List ByteArray} (h : wcG ms bs ss ws = false) : wcV ms bs ss ws = 0 := by rw [wcV, h]; rfl
theorem wc_yes {ms : List Srt} {bs : List Bx} {ss ws : List ByteArray} (h : wcG ms bs ss ws = true) : wcV ms bs ss ws = (wcN ms bs ss ws : Int) := by rw [wcV, h]; rfl
theorem wordsL_true : ∀ {l : List ByteArray}, wordsL l = true → ∀ s ∈ l, letB s 1 16 = true
  | [], _ => by simp
  | s :: r, h => by
    rw [wordsL, Bool.and_eq_true] at h
    intro x hx
    rcases List.mem_cons.1 hx with rfl | hx
    · exact h.1
    · exact wordsL_true h.2 x hx
theorem sw_true {ms : List Srt} {bs : List Bx} {ss : List ByteArray} {s : ByteArray} (h : swG ms bs ss s = true) (hs : 1 ≤ s.size) : (swS ms bs ss s).length ≤ 60 ∧ 1 ≤ (swS ms bs ss s).length ∧ swB ms bs ss s = movF (-1) (cds ms s) bs := by
  have h0 := sw_yes h
  rw [h0.2, h0.1]
  rw [swG, Bool.and_eq_true, Bool.and_eq_true] at h
  have h1 := (askB_true h.2.2).2.2
  have h2 := setV_pos h.1 hs
  refine ⟨h1, ?_, rfl⟩
  rw [List.length_append, cds, List.length_map]
  omega
set_option maxRecDepth 100000 in
theorem tyWords_any {A : Option Addr} {n cp : Nat} {ws : List ByteArray} {w : World} (hr : RStrs w w.heap.size A n ws) (hn0 : n ≤ 1048576) (hL : ∀ s ∈ ws, s.size ≤ 1048576) :
    Calls Try.prog 102 #[.slice A n cp] w fun e w' => e = .returned (.bool (wordsB ws)) ∧ Below w.heap.size w w' := by
  have HL := Lib.hid hr.len
  have HX := Lib.hid hL
  clear hL
  go_enter Try.func102, Try.ntmps102
  go_wp2_with fail
  go_loopw [7] (fun i wr => ∃ k : Nat, k ≤ n ∧ i = .int .i64 k ∧ wordsL (ws.drop k) = wordsL ws ∧ Below w.heap.size w wr) (fun i _ => n - (intOf i).toNat)
  case atStart => exact ⟨0, Nat.zero_le _, rfl, rfl, Below.refl _ _⟩
  case round =>
    obtain ⟨k, hk, rfl, hR, hb⟩ := hrel
    by_cases hlt : k < n
    · obtain ⟨ad, s, rfl, _, hd, hy, hc⟩ := RStrs.at_ (RStrs.below hr hb) hlt
      have hsz := HX.out s (List.mem_of_getElem? hy)
      have HR := Lib.hid (show (letB s 1 16 && wordsL (ws.drop (k + 1))) = wordsL ws by rw [← hR, hd, wordsL])
      clear hR hd hy
      go_wp2_with fail
      refine (tyWord_any s _ hsz).mono ?_
      rintro e1 w1 ⟨rfl, hw⟩
      subst hw
      obtain ⟨v, hv⟩ : ∃ v, v = letB s 1 16 := ⟨_, rfl⟩; rw [← hv]; have HV := Lib.hid hv; clear hv
      cases v
      · have HG := Lib.hid (show wordsB ws = false by rw [wordsB, ← HR.out, ← HV.out]; rfl)
        clear hc
        go_wp2_with fail
        go_ret
        exact ⟨ret_bool HG.out.symm, hb⟩
      · have HN := Lib.hid (show wordsL (ws.drop (k + 1)) = wordsL ws by rw [← HR.out, ← HV.out]; rfl)
        clear hc
        go_wp2_with fail
        go_roundw
        case rel => exact ⟨k + 1, by omega, by go_num, HN.out, hb⟩
        case measure => simp [intOf]; omega
    · have HN := Lib.hid (show wordsL ws = true by rw [← hR, drop_end HL.out hlt]; rfl)
      clear hR
      by_cases h40 : n ≤ 40
      · have HG := Lib.hid (show wordsB ws = true by rw [wordsB, HN.out, HL.out]; simp [h40])
        have l9 : (n : Int) ≤ 40 := by omega
        go_wp2_with fail
        go_ret
        exact ⟨ret_bool (by rw [HG.out]), hb⟩
      · have HG := Lib.hid (show wordsB ws = false by rw [wordsB, HN.out, HL.out]; simp; omega)
        have l9 : ¬ (n : Int) ≤ 40 := by omega
        go_wp2_with fail
        go_ret
        exact ⟨ret_bool (by rw [HG.out]), hb⟩
set_option maxRecDepth 100000 in
theorem areWords_any {A : Option Addr} {n cp : Nat} {ws : List ByteArray} {w : World} (hr : RStrs w w.heap.size A n ws) (hn0 : n ≤ 1048576) (hL : ∀ s ∈ ws, s.size ≤ 1048576) :
    Calls Try.prog 103 #[.slice A n cp] w fun e w' => e = .returned (.bool (wordsB ws)) ∧ Below w.heap.size w w' := by
  have HL := Lib.hid hr.len
  have HX := Lib.hid hL
  clear hL
  go_enter Try.func103, Try.ntmps103
  go_wp2_with fail
  go_loopw [7] (fun i wr => ∃ k : Nat, k ≤ n ∧ i = .int .i64 k ∧ wordsL (ws.drop k) = wordsL ws ∧ Below w.heap.size w wr) (fun i _ => n - (intOf i).toNat)
  case atStart => exact ⟨0, Nat.zero_le _, rfl, rfl, Below.refl _ _⟩
  case round =>
    obtain ⟨k, hk, rfl, hR, hb⟩ := hrel
    by_cases hlt : k < n
    · obtain ⟨ad, s, rfl, _, hd, hy, hc⟩ := RStrs.at_ (RStrs.below hr hb) hlt
      have hsz := HX.out s (List.mem_of_getElem? hy)
      have HR := Lib.hid (show (letB s 1 16 && wordsL (ws.drop (k + 1))) = wordsL ws by rw [← hR, hd, wordsL])
      clear hR hd hy
      go_wp2_with fail
      refine (isWord_any s _ hsz).mono ?_
      rintro e1 w1 ⟨rfl, hw⟩
      subst hw
      obtain ⟨v, hv⟩ : ∃ v, v = letB s 1 16 := ⟨_, rfl⟩; rw [← hv]; have HV := Lib.hid hv; clear hv
      cases v
      · have HG := Lib.hid (show wordsB ws = false by rw [wordsB, ← HR.out, ← HV.out]; rfl)
        clear hc
        go_wp2_with fail
        go_ret
        exact ⟨ret_bool HG.out.symm, hb⟩
      · have HN := Lib.hid (show wordsL (ws.drop (k + 1)) = wordsL ws by rw [← HR.out, ← HV.out]; rfl)
        clear hc
        go_wp2_with fail
        go_roundw
        case rel => exact ⟨k + 1, by omega, by go_num, HN.out, hb⟩
        case measure => simp [intOf]; omega
    · have HN := Lib.hid (show wordsL ws = true by rw [← hR, drop_end HL.out hlt]; rfl)
      clear hR
      by_cases h40 : n ≤ 40
      · have HG := Lib.hid (show wordsB ws = true by rw [wordsB, HN.out, HL.out]; simp [h40])
        have l9 : (n : Int) ≤ 40 := by omega
        go_wp2_with fail
        go_ret
        exact ⟨ret_bool (by rw [HG.out]), hb⟩
      · have HG := Lib.hid (show wordsB ws = false by rw [wordsB, HN.out, HL.out]; simp; omega)
        have l9 : ¬ (n : Int) ≤ 40 := by omega
        go_wp2_with fail
        go_ret
        exact ⟨ret_bool (by rw [HG.out]), hb⟩
set_option maxRecDepth 100000 in
set_option maxHeartbeats 4000000 in
theorem whatCanBeSet_spec {Af : Option Addr} {nf cpf : Nat} {ms : List Srt} {A : Option Addr} {adS : Addr} {n cp m cd : Nat} {bs : List Bx} {ss : List ByteArray} {Aw : Option Addr} {p cpw : Nat} {ws : List ByteArray} {w : World} (hf : RSrts w w.heap.size Af nf ms) (hnf : nf ≤ 1048576) (_ : nf ≤ cpf) (hXf : ∀ b ∈ ms, b.code.size ≤ 1048576) (hr : RBxs w w.heap.size A n bs) (hn0 : n ≤ 1048576) (hcp : n ≤ cp) (hL : ∀ b ∈ bs, b.code.size ≤ 1048576) (hs : RStrs w w.heap.size (some adS) m ss) (hm0 : m ≤ 1048576) (_ : m ≤ cd) (_ : ∀ s ∈ ss, s.size ≤ 1048576) (hws : RStrs w w.heap.size Aw p ws) (hp0 : p ≤ 1048576) (_ : p ≤ cpw) (hXw : ∀ s ∈ ws, s.size ≤ 1048576) :
    Calls Try.prog 58 #[.slice Af nf cpf, .agg #[.slice A n cp, .slice (some adS) m cd], .slice Aw p cpw] w fun e w' => e = .returned (.tuple #[.int .i64 (wcV ms bs ss ws), .bool (wcG ms bs ss ws)]) ∧ Below w.heap.size w w' := by
  have hbW : Below w.heap.size w (w.alloc (.cells #[.slice A n cp, .slice (some adS) m cd] 31)) := (Below.refl _ _).alloc (Nat.le_refl _) _
  have ha : Blk (w.alloc (.cells #[.slice A n cp, .slice (some adS) m cd] 31)) w.heap.size 31 [.slice A n cp, .slice (some adS) m cd] := Blk.new' w 31 #[.slice A n cp, .slice (some adS) m cd]
  have HRF := Lib.hid hf
  have HRB := Lib.hid hr
  have HRS := Lib.hid hs
  have HRW := Lib.hid hws
  have HX := Lib.hid hL
  have HXF := Lib.hid hXf
  have HXW := Lib.hid hXw
  have HLs := Lib.hid hs.len
  have HLw := Lib.hid hws.len
  clear hf hr hs hL hXf hws hXw
  go_enter Try.func58, Try.ntmps58
  have a0 : _ = some (Value.slice A n cp) := ha.cell 0; have a1 : _ = some (Value.slice (some adS) m cd) := ha.cell 1
  go_wp2_with fail
  refine (tyFont_any ((RSrts.below HRF.out hbW).more hbW.size) hnf HXF.out).mono ?_
  rintro e1 w1 ⟨rfl, hn⟩
  replace ha := ha.below hn ha.lt; replace hbW := hbW.trans (hn.mono hbW.size); clear hn a0 a1; have a0 : _ = some (Value.slice A n cp) := ha.cell 0; have a1 : _ = some (Value.slice (some adS) m cd) := ha.cell 1
  obtain ⟨v, hv⟩ : ∃ v, v = fontB ms := ⟨_, rfl⟩; rw [← hv]; have HV := Lib.hid hv; clear hv
  cases v
  · have HG := Lib.hid (show wcG ms bs ss ws = false by rw [wcG, ← HV.out]; rfl)
    go_wp2_with fail
    go_ret2
    exact ⟨by rw [HG.out, wc_no HG.out]; rfl, hbW⟩
  go_wp2_with fail
  refine (diGood_any ((RBxs.below HRB.out hbW).more hbW.size) hn0 hcp HX.out ((RStrs.below HRS.out hbW).more hbW.size) hm0).mono ?_
  rintro e1 w2 ⟨rfl, hn⟩
  replace ha := ha.below hn ha.lt; replace hbW := hbW.trans (hn.mono hbW.size); clear hn a0 a1; have a0 : _ = some (Value.slice A n cp) := ha.cell 0; have a1 : _ = some (Value.slice (some adS) m cd) := ha.cell 1
  obtain ⟨v, hv⟩ : ∃ v, v = askB bs ss := ⟨_, rfl⟩; rw [← hv]; have HV2 := Lib.hid hv; clear hv
  cases v
  · have HG := Lib.hid (show wcG ms bs ss ws = false by rw [wcG, ← HV2.out]; simp)
    go_wp2_with fail
    go_ret2
    exact ⟨by rw [HG.out, wc_no HG.out]; rfl, hbW⟩
  have hm60 : m ≤ 60 := by have := (askB_true HV2.out.symm).2.2; have := HLs.out; omega
  go_wp2_with fail
  refine (tyWords_any ((RStrs.below HRW.out hbW).more hbW.size) hp0 HXW.out).mono ?_
  rintro e1 w3 ⟨rfl, hn⟩
  replace ha := ha.below hn ha.lt; replace hbW := hbW.trans (hn.mono hbW.size); clear hn a0 a1; have a0 : _ = some (Value.slice A n cp) := ha.cell 0; have a1 : _ = some (Value.slice (some adS) m cd) := ha.cell 1
  obtain ⟨v, hv⟩ : ∃ v, v = wordsB ws := ⟨_, rfl⟩; rw [← hv]; have HV3 := Lib.hid hv; clear hv
  cases v
  · have HG := Lib.hid (show wcG ms bs ss ws = false by rw [wcG, ← HV3.out]; simp)
    go_wp2_with fail
    go_ret2
    exact ⟨by rw [HG.out, wc_no HG.out]; rfl, hbW⟩
  have HG := Lib.hid (show wcG ms bs ss ws = true by rw [wcG, ← HV.out, ← HV2.out, ← HV3.out]; rfl)
  have HWL := Lib.hid (wordsL_true (show wordsL ws = true by have h := HV3.out.symm; rw [wordsB, Bool.and_eq_true] at h; exact h.1))
  clear a0 a1
  go_wp2_with fail
  go_loopw [27] (fun i wr => ∃ (k : Nat) (A : Option Addr) (n cp : Nat) (adS : Addr) (m cd : Nat) (bs2 : List Bx) (ss2 : List ByteArray), i = .int .i64 k ∧ k ≤ p ∧ Blk wr w.heap.size 31 [.slice A n cp, .slice (some adS) m cd] ∧ RBxs wr wr.heap.size A n bs2 ∧ n ≤ 1048576 ∧ n ≤ cp ∧ (∀ b ∈ bs2, b.code.size ≤ 1048576) ∧ RStrs wr wr.heap.size (some adS) m ss2 ∧ m ≤ 60 ∧ wcN ms bs2 ss2 (ws.drop k) + k = wcN ms bs ss ws ∧ Below w.heap.size w wr) (fun i _ => p - (intOf i).toNat)
  case atStart => exact ⟨0, A, n, cp, adS, m, cd, bs, ss, rfl, Nat.zero_le _, ha, (RBxs.below HRB.out hbW).more hbW.size, hn0, hcp, HX.out, (RStrs.below HRS.out hbW).more hbW.size, hm60, rfl, hbW⟩
  case round =>
    clear ha
    obtain ⟨k, A2, n2, cp2, ad2, m2, cd2, bs2, ss2, rfl, hk, ha, hrb, hn2, hcp2, hL2, hrs, hm2, hR, hb⟩ := hrel
    have HRB2 := Lib.hid hrb
    have HRS2 := Lib.hid hrs
    have HL2 := Lib.hid hL2
    clear hrb hrs hL2
    by_cases hlt : k < p
    · obtain ⟨adW, s, rfl, _, hd, hy, hc⟩ := RStrs.at_ (RStrs.below HRW.out hb) hlt
      have hsm := HWL.out s (List.mem_of_getElem? hy)
      obtain ⟨hw1, hw16⟩ := letB_16 hsm
      have HR := Lib.hid (show (if swG ms bs2 ss2 s then wcN ms (swB ms bs2 ss2 s) (swS ms bs2 ss2 s) (ws.drop (k + 1)) + 1 else 0) + k = wcN ms bs ss ws by rw [← hR, hd, wcN])
      clear hR hd hy hsm
      have a0 : _ = some (Value.slice A2 n2 cp2) := ha.cell 0
      have a1 : _ = some (Value.slice (some ad2) m2 cd2) := ha.cell 1
      go_wp2_with fail
      refine (setWord_spec ((RSrts.below HRF.out hb).more hb.size) hnf HV.out.symm HRB2.out hn2 hcp2 HL2.out HRS2.out hm2 (fun e => by cases e) hw1 hw16).mono ?_
      have hal := ha.lt
      rintro e1 w4 ⟨V, N, C, V9, M, C9, rfl, ho, hp, hN, hM, hn⟩
      have hsz4 := hn.size
      have HO := Lib.hid ho
      have HP := Lib.hid hp
      clear ho hp a0 a1 hc
      replace ha := ha.below hn ha.lt
      replace hb := hb.trans (hn.mono hb.size)
      clear hn
      obtain ⟨v, hv⟩ : ∃ v, v = swG ms bs2 ss2 s := ⟨_, rfl⟩; rw [← hv]; have HV4 := Lib.hid hv; clear hv
      cases v
      · have HE := Lib.hid (show wcV ms bs ss ws = (k : Int) by rw [wc_yes HG.out, ← HR.out, ← HV4.out]; simp)
        go_wp2_with fail
        go_ret2
        exact ⟨by rw [HG.out, HE.out]; rfl, hb.alloc hb.size _⟩
      · have HS := Lib.hid (sw_true HV4.out.symm hw1)
        have HN := Lib.hid (show wcN ms (swB ms bs2 ss2 s) (swS ms bs2 ss2 s) (ws.drop (k + 1)) + (k + 1) = wcN ms bs ss ws by rw [← HR.out, ← HV4.out]; simp; omega)
        have hM1 : (swS ms bs2 ss2 s).length = M := by have := HP.out.1; simpa using this
        have hM2 := HS.out.1
        have hM3 := HS.out.2.1
        obtain ⟨ad9, rfl⟩ : ∃ ad9, V9 = some ad9 := by
          obtain ⟨ad, _, e, _⟩ := RStrs.at_ (RStrs.of_own HP.out) (show 0 < M by omega)
          exact ⟨ad, e⟩
        have hM60 : M ≤ 60 := by omega
        clear hM1 hM2 hM3
        have hq := Blk.new' w4 31 #[.slice V N C, .slice (some ad9) M C9]
        have q0 : _ = some (Value.slice V N C) := hq.cell 0
        have q1 : _ = some (Value.slice (some ad9) M C9) := hq.cell 1
        have ha2 := ha.alloc (.cells #[.slice V N C, .slice (some ad9) M C9] 31)
        have b0 : _ = some (Value.slice A2 n2 cp2) := ha2.cell 0
        have b1 : _ = some (Value.slice (some ad2) m2 cd2) := ha2.cell 1
        have f0 := ha2.frozen 0
        have f1 := ha2.frozen 1
        have hb2 := hb.alloc hb.size (.cells #[.slice V N C, .slice (some ad9) M C9] 31)
        have HO2 := Lib.hid (row_set (u := .slice (some ad9) M C9) (i := 1) (row_set (u := .slice V N C) (i := 0) (row_alloc HO.out (.cells #[.slice V N C, .slice (some ad9) M C9] 31)) hal) hal)
        have HP2 := Lib.hid (row_set (u := .slice (some ad9) M C9) (i := 1) (row_set (u := .slice V N C) (i := 0) (row_alloc HP.out (.cells #[.slice V N C, .slice (some ad9) M C9] 31)) hal) hal)
        have ha3 := (ha2.set_ 0 (.slice V N C)).set_ 1 (.slice (some ad9) M C9)
        go_wp2_with fail
        clear b0 b1 f0 f1 q0 q1
        go_roundw
        case rel => exact ⟨k + 1, V, N, C, ad9, M, C9, swB ms bs2 ss2 s, swS ms bs2 ss2 s, by go_num, by omega, ha3, RBxs.of_own HO2.out, hN, own_cap HO2.out, by rw [HS.out.2.2]; exact movF_sizes HL2.out, RStrs.of_own HP2.out, hM60, HN.out, (hb2.setCell (by simp) _).setCell (by simp) _⟩
        case measure => simp [intOf]; omega
    · have hkp : k = p := by omega
      have HE := Lib.hid (show wcV ms bs ss ws = (p : Int) by rw [wc_yes HG.out, ← hR, drop_end HLw.out hlt, wcN]; simp; omega)
      clear hR
      go_wp2_with fail
      go_ret2
      exact ⟨by rw [HG.out, HE.out]; rfl, hb⟩
set_option maxRecDepth 100000 in
set_option maxHeartbeats 4000000 in
theorem whatCanBeSet_impl {Af : Option Addr} {nf cpf : Nat} {ms : List Srt} {A : Option Addr} {adS : Addr} {n cp m cd : Nat} {bs : List Bx} {ss : List ByteArray} {Aw : Option Addr} {p cpw : Nat} {ws : List ByteArray} {w : World} (hf : RSrts w w.heap.size Af nf ms) (hnf : nf ≤ 1048576) (_ : nf ≤ cpf) (hXf : ∀ b ∈ ms, b.code.size ≤ 1048576) (hr : RBxs w w.heap.size A n bs) (hn0 : n ≤ 1048576) (hcp : n ≤ cp) (hL : ∀ b ∈ bs, b.code.size ≤ 1048576) (hs : RStrs w w.heap.size (some adS) m ss) (hm0 : m ≤ 1048576) (_ : m ≤ cd) (_ : ∀ s ∈ ss, s.size ≤ 1048576) (hws : RStrs w w.heap.size Aw p ws) (hp0 : p ≤ 1048576) (_ : p ≤ cpw) (hXw : ∀ s ∈ ws, s.size ≤ 1048576) :
    Calls Try.prog 60 #[.slice Af nf cpf, .agg #[.slice A n cp, .slice (some adS) m cd], .slice Aw p cpw] w fun e w' => e = .returned (.tuple #[.int .i64 (wcV ms bs ss ws), .bool (wcG ms bs ss ws)]) ∧ Below w.heap.size w w' := by
  have hbW : Below w.heap.size w (w.alloc (.cells #[.slice A n cp, .slice (some adS) m cd] 31)) := (Below.refl _ _).alloc (Nat.le_refl _) _
  have ha : Blk (w.alloc (.cells #[.slice A n cp, .slice (some adS) m cd] 31)) w.heap.size 31 [.slice A n cp, .slice (some adS) m cd] := Blk.new' w 31 #[.slice A n cp, .slice (some adS) m cd]
  have HRF := Lib.hid hf
  have HRB := Lib.hid hr
  have HRS := Lib.hid hs
  have HRW := Lib.hid hws
  have HX := Lib.hid hL
  have HXF := Lib.hid hXf
  have HXW := Lib.hid hXw
  have HLs := Lib.hid hs.len
  have HLw := Lib.hid hws.len
  clear hf hr hs hL hXf hws hXw
  go_enter Try.func60, Try.ntmps60
  have a0 : _ = some (Value.slice A n cp) := ha.cell 0; have a1 : _ = some (Value.slice (some adS) m cd) := ha.cell 1
  go_wp2_with fail
  refine (isFont_any ((RSrts.below HRF.out hbW).more hbW.size) hnf HXF.out).mono ?_
  rintro e1 w1 ⟨rfl, hn⟩
  replace ha := ha.below hn ha.lt; replace hbW := hbW.trans (hn.mono hbW.size); clear hn a0 a1; have a0 : _ = some (Value.slice A n cp) := ha.cell 0; have a1 : _ = some (Value.slice (some adS) m cd) := ha.cell 1
  obtain ⟨v, hv⟩ : ∃ v, v = fontB ms := ⟨_, rfl⟩; rw [← hv]; have HV := Lib.hid hv; clear hv
  cases v
  · have HG := Lib.hid (show wcG ms bs ss ws = false by rw [wcG, ← HV.out]; rfl)
    go_wp2_with fail
    go_ret2
    exact ⟨by rw [HG.out, wc_no HG.out]; rfl, hbW⟩
  go_wp2_with fail
  refine (isSetting_any ((RBxs.below HRB.out hbW).more hbW.size) hn0 hcp HX.out ((RStrs.below HRS.out hbW).more hbW.size) hm0).mono ?_
  rintro e1 w2 ⟨rfl, hn⟩
  replace ha := ha.below hn ha.lt; replace hbW := hbW.trans (hn.mono hbW.size); clear hn a0 a1; have a0 : _ = some (Value.slice A n cp) := ha.cell 0; have a1 : _ = some (Value.slice (some adS) m cd) := ha.cell 1
  obtain ⟨v, hv⟩ : ∃ v, v = askB bs ss := ⟨_, rfl⟩; rw [← hv]; have HV2 := Lib.hid hv; clear hv
  cases v
  · have HG := Lib.hid (show wcG ms bs ss ws = false by rw [wcG, ← HV2.out]; simp)
    go_wp2_with fail
    go_ret2
    exact ⟨by rw [HG.out, wc_no HG.out]; rfl, hbW⟩
  have hm60 : m ≤ 60 := by have := (askB_true HV2.out.symm).2.2; have := HLs.out; omega
  go_wp2_with fail
  refine (areWords_any ((RStrs.below HRW.out hbW).more hbW.size) hp0 HXW.out).mono ?_
  rintro e1 w3 ⟨rfl, hn⟩
  replace ha := ha.below hn ha.lt; replace hbW := hbW.trans (hn.mono hbW.size); clear hn a0 a1; have a0 : _ = some (Value.slice A n cp) := ha.cell 0; have a1 : _ = some (Value.slice (some adS) m cd) := ha.cell 1
  obtain ⟨v, hv⟩ : ∃ v, v = wordsB ws := ⟨_, rfl⟩; rw [← hv]; have HV3 := Lib.hid hv; clear hv
  cases v
  · have HG := Lib.hid (show wcG ms bs ss ws = false by rw [wcG, ← HV3.out]; simp)
    go_wp2_with fail
    go_ret2
    exact ⟨by rw [HG.out, wc_no HG.out]; rfl, hbW⟩
  have HG := Lib.hid (show wcG ms bs ss ws = true by rw [wcG, ← HV.out, ← HV2.out, ← HV3.out]; rfl)
  have HWL := Lib.hid (wordsL_true (show wordsL ws = true by have h := HV3.out.symm; rw [wordsB, Bool.and_eq_true] at h; exact h.1))
  clear a0 a1
  go_wp2_with fail
  go_loopw [27] (fun i wr => ∃ (k : Nat) (A : Option Addr) (n cp : Nat) (adS : Addr) (m cd : Nat) (bs2 : List Bx) (ss2 : List ByteArray), i = .int .i64 k ∧ k ≤ p ∧ Blk wr w.heap.size 31 [.slice A n cp, .slice (some adS) m cd] ∧ RBxs wr wr.heap.size A n bs2 ∧ n ≤ 1048576 ∧ n ≤ cp ∧ (∀ b ∈ bs2, b.code.size ≤ 1048576) ∧ RStrs wr wr.heap.size (some adS) m ss2 ∧ m ≤ 60 ∧ wcN ms bs2 ss2 (ws.drop k) + k = wcN ms bs ss ws ∧ Below w.heap.size w wr) (fun i _ => p - (intOf i).toNat)
  case atStart => exact ⟨0, A, n, cp, adS, m, cd, bs, ss, rfl, Nat.zero_le _, ha, (RBxs.below HRB.out hbW).more hbW.size, hn0, hcp, HX.out, (RStrs.below HRS.out hbW).more hbW.size, hm60, rfl, hbW⟩
  case round =>
    clear ha
    obtain ⟨k, A2, n2, cp2, ad2, m2, cd2, bs2, ss2, rfl, hk, ha, hrb, hn2, hcp2, hL2, hrs, hm2, hR, hb⟩ := hrel
    have HRB2 := Lib.hid hrb
    have HRS2 := Lib.hid hrs
    have HL2 := Lib.hid hL2
    clear hrb hrs hL2
    by_cases hlt : k < p
    · obtain ⟨adW, s, rfl, _, hd, hy, hc⟩ := RStrs.at_ (RStrs.below HRW.out hb) hlt
      have hsm := HWL.out s (List.mem_of_getElem? hy)
      obtain ⟨hw1, hw16⟩ := letB_16 hsm
      have HR := Lib.hid (show (if swG ms bs2 ss2 s then wcN ms (swB ms bs2 ss2 s) (swS ms bs2 ss2 s) (ws.drop (k + 1)) + 1 else 0) + k = wcN ms bs ss ws by rw [← hR, hd, wcN])
      clear hR hd hy hsm
      have a0 : _ = some (Value.slice A2 n2 cp2) := ha.cell 0
      have a1 : _ = some (Value.slice (some ad2) m2 cd2) := ha.cell 1
      go_wp2_with fail
      refine (setWord_impl ((RSrts.below HRF.out hb).more hb.size) hnf HV.out.symm HRB2.out hn2 hcp2 HL2.out HRS2.out hm2 (fun e => by cases e) hw1 hw16).mono ?_
      have hal := ha.lt
      rintro e1 w4 ⟨V, N, C, V9, M, C9, rfl, ho, hp, hN, hM, hn⟩
      have hsz4 := hn.size
      have HO := Lib.hid ho
      have HP := Lib.hid hp
      clear ho hp a0 a1 hc
      replace ha := ha.below hn ha.lt
      replace hb := hb.trans (hn.mono hb.size)
      clear hn
      obtain ⟨v, hv⟩ : ∃ v, v = swG ms bs2 ss2 s := ⟨_, rfl⟩; rw [← hv]; have HV4 := Lib.hid hv; clear hv
      cases v
      · have HE := Lib.hid (show wcV ms bs ss ws = (k : Int) by rw [wc_yes HG.out, ← HR.out, ← HV4.out]; simp)
        go_wp2_with fail
        go_ret2
        exact ⟨by rw [HG.out, HE.out]; rfl, hb.alloc hb.size _⟩
      · have HS := Lib.hid (sw_true HV4.out.symm hw1)
        have HN := Lib.hid (show wcN ms (swB ms bs2 ss2 s) (swS ms bs2 ss2 s) (ws.drop (k + 1)) + (k + 1) = wcN ms bs ss ws by rw [← HR.out, ← HV4.out]; simp; omega)
        have hM1 : (swS ms bs2 ss2 s).length = M := by have := HP.out.1; simpa using this
        have hM2 := HS.out.1
        have hM3 := HS.out.2.1
        obtain ⟨ad9, rfl⟩ : ∃ ad9, V9 = some ad9 := by
          obtain ⟨ad, _, e, _⟩ := RStrs.at_ (RStrs.of_own HP.out) (show 0 < M by omega)
          exact ⟨ad, e⟩
        have hM60 : M ≤ 60 := by omega
        clear hM1 hM2 hM3
        have hq := Blk.new' w4 31 #[.slice V N C, .slice (some ad9) M C9]
        have q0 : _ = some (Value.slice V N C) := hq.cell 0
        have q1 : _ = some (Value.slice (some ad9) M C9) := hq.cell 1
        have ha2 := ha.alloc (.cells #[.slice V N C, .slice (some ad9) M C9] 31)
        have b0 : _ = some (Value.slice A2 n2 cp2) := ha2.cell 0
        have b1 : _ = some (Value.slice (some ad2) m2 cd2) := ha2.cell 1
        have f0 := ha2.frozen 0
        have f1 := ha2.frozen 1
        have hb2 := hb.alloc hb.size (.cells #[.slice V N C, .slice (some ad9) M C9] 31)
        have HO2 := Lib.hid (row_set (u := .slice (some ad9) M C9) (i := 1) (row_set (u := .slice V N C) (i := 0) (row_alloc HO.out (.cells #[.slice V N C, .slice (some ad9) M C9] 31)) hal) hal)
        have HP2 := Lib.hid (row_set (u := .slice (some ad9) M C9) (i := 1) (row_set (u := .slice V N C) (i := 0) (row_alloc HP.out (.cells #[.slice V N C, .slice (some ad9) M C9] 31)) hal) hal)
        have ha3 := (ha2.set_ 0 (.slice V N C)).set_ 1 (.slice (some ad9) M C9)
        go_wp2_with fail
        clear b0 b1 f0 f1 q0 q1
        go_roundw
        case rel => exact ⟨k + 1, V, N, C, ad9, M, C9, swB ms bs2 ss2 s, swS ms bs2 ss2 s, by go_num, by omega, ha3, RBxs.of_own HO2.out, hN, own_cap HO2.out, by rw [HS.out.2.2]; exact movF_sizes HL2.out, RStrs.of_own HP2.out, hM60, HN.out, (hb2.setCell (by simp) _).setCell (by simp) _⟩
        case measure => simp [intOf]; omega
    · have hkp : k = p := by omega
      have HE := Lib.hid (show wcV ms bs ss ws = (p : Int) by rw [wc_yes HG.out, ← hR, drop_end HLw.out hlt, wcN]; simp; omega)
      clear hR
      go_wp2_with fail
      go_ret2
      exact ⟨by rw [HG.out, HE.out]; rfl, hb⟩
end Go.Proofs.Ytjcopempjanhhaa
