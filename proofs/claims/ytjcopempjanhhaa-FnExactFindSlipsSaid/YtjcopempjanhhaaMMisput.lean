/-
  The marks on lists of Misput, and their size. Printed by program.
-/
import Derived.Test.YtjcopempjanhhaaSMisput
import Derived.Test.YtjcopempjanhhaaMark
import Derived.Test.YtjcopempjanhhaaQuiet
namespace Go.Proofs.Ytjcopempjanhhaa
open Go.RowKit
def Msp.marked (k : Int) : Msp := ⟨markS (k), markS (k + 1), k + 2⟩
def seqMsp (k : Int) (n : Nat) : List Msp := (List.range n).map fun j : Nat => Msp.marked (k + 3 * (j : Int))
theorem seqMsp_len (k : Int) (n : Nat) : (seqMsp k n).length = n := by simp [seqMsp]
theorem seqMsp_get (k : Int) {n j : Nat} (h : j < n) : (seqMsp k n)[j]? = some (Msp.marked (k + 3 * (j : Int))) := by simp [seqMsp, h]
theorem grown_of_belowMsp {w w' : World} {row : Option Nat} (h : Below w.heap.size w w') : w.grownBy w' row := ⟨h.os, h.tape, h.output, h.size, fun i hi _ => h.block i hi⟩
set_option maxRecDepth 100000 in
theorem markMisputS_any (v : Value) (n B : Nat) (ms : List Msp) (k : Int) (w : World) (h : w.ownsRow B 106 3 v n (ms.map Msp.row).flatten) (hn : n ≤ 1048576) (hk : 1 ≤ k ∧ k ≤ 100000000) :
    Calls Try.prog 41 #[v, .int .i64 k] w fun e w' => e = .returned (.int .i64 (k + 3 * n)) ∧ w'.ownsRow B 106 3 v n ((seqMsp k n).map Msp.row).flatten ∧ w.grownBy w' v.ownBlock := by
  have hl := h.1
  obtain ⟨hlen, hform⟩ := h
  rcases hform with ⟨rfl, rfl⟩ | ⟨g, cap, cur, rfl, hB, hg, rest⟩
  · go_enter Try.func41, Try.ntmps41
    go_wp2
    go_loop [1, 5] (fun q i => i = .int .i64 0 ∧ q = .int .i64 k) (fun _ _ => 0)
    case atStart => exact ⟨rfl, rfl⟩
    case round =>
      obtain ⟨rfl, rfl⟩ := hrel
      go_wp2
      go_ret
      exact ⟨ret_int (by simp), World.ownsRow_nil _ _ _ _, grown_refl _ _⟩
  · have h : w.ownsRow B 106 3 (.slice (some ⟨g, 0, none⟩) n cap) n (ms.map Msp.row).flatten := ⟨hlen, .inr ⟨g, cap, cur, rfl, hB, hg, rest⟩⟩
    clear hlen hg rest
    have HL := Lib.hid hl; clear hl
    go_enter Try.func41, Try.ntmps41
    go_wp2
    go_loopw [1, 5] (fun q i wr => ∃ (j : Nat) (cs : List Value), j ≤ n ∧ i = .int .i64 j ∧ q = .int .i64 (k + 3 * j) ∧ wr.ownsRow B 106 3 (.slice (some ⟨g, 0, none⟩) n cap) n cs ∧ cs.take (j * 3) = ((seqMsp k n).map Msp.row).flatten.take (j * 3) ∧ w.grownBy wr (some g)) (fun _ i _ => n - (intOf i).toNat)
    case atStart => exact ⟨0, _, Nat.zero_le _, rfl, by simp, h, by simp, grown_refl _ _⟩
    case round =>
      obtain ⟨j, cs, hj, rfl, rfl, hown, htk, hgr⟩ := hrel
      have HT := Lib.hid htk; clear htk
      by_cases hlt : j < n
      · go_wp2_with fail
        have hkk : 1 ≤ k + 3 * (j : Int) ∧ k + 3 * (j : Int) ≤ 1000000000 := by omega
        refine (markText_any _ _ hkk).mono ?_
        rintro e1 w0 ⟨rfl, hn1⟩
        replace hown := row_step hown hn1
        replace hgr := grown_trans hgr (grown_of_belowMsp hn1)
        have HY0 := Lib.hid hown.1
        clear hn1 hkk
        obtain ⟨z0, d0⟩ : ∃ z, w0.cell? ⟨g, j * 3, none⟩ = some z := ⟨_, (hown.cellAt (j * 3) (by omega)).trans (List.getElem?_eq_getElem (by have := HY0.out; omega))⟩
        have y0 := hown.frozenAt (j * 3)
        go_wp2_with fail
        replace hgr := grown_trans hgr (hown.stored (j * 3) (.string (markS (k + 3 * ↑j)))).2
        replace hown := (hown.stored (j * 3) (.string (markS (k + 3 * ↑j)))).1
        clear d0 y0
        have hkk : 1 ≤ k + 3 * (j : Int) + 1 ∧ k + 3 * (j : Int) + 1 ≤ 1000000000 := by omega
        refine (markText_any _ _ hkk).mono ?_
        rintro e1 w1 ⟨rfl, hn1⟩
        replace hown := row_step hown hn1
        replace hgr := grown_trans hgr (grown_of_belowMsp hn1)
        have HY1 := Lib.hid hown.1
        clear hn1 hkk
        obtain ⟨z1, d1⟩ : ∃ z, w1.cell? ⟨g, j * 3 + 1, none⟩ = some z := ⟨_, (hown.cellAt (j * 3 + 1) (by omega)).trans (List.getElem?_eq_getElem (by have := HY1.out; omega))⟩
        obtain ⟨z2, d2⟩ : ∃ z, w1.cell? ⟨g, j * 3 + 2, none⟩ = some z := ⟨_, (hown.cellAt (j * 3 + 2) (by omega)).trans (List.getElem?_eq_getElem (by have := HY1.out; omega))⟩
        have y1 := hown.frozenAt (j * 3 + 1)
        have y2 := hown.frozenAt (j * 3 + 2)
        go_wp2_with fail
        go_roundw
        case rel =>
          refine ⟨j + 1, _, by omega, by go_num, by simp; omega, (((hown.stored _ _).1.stored _ _)).1, ?_, grown_trans (grown_trans (hgr) (hown.stored _ _).2) (((hown.stored _ _).1.stored _ _)).2⟩
          have hl := HY0.out
          have hr : ((seqMsp k n).map Msp.row)[j]? = some (Msp.marked (k + 3 * (j : Int))).row := by rw [List.getElem?_map, seqMsp_get k hlt]; rfl
          have hF : ∀ i, i < 3 → ((seqMsp k n).map Msp.row).flatten[j * 3 + i]? = (Msp.marked (k + 3 * (j : Int))).row[i]? := fun i hi => flatten_at (by simp [Msp.row]) hr i hi
          rw [show (j + 1) * 3 = j * 3 + 1 + 1 + 1 by omega]
          exact fill_step (fill_step (fill_step HT.out (by omega) (by rw [← Nat.add_zero (j * 3), hF 0 (by omega)]; simp [Msp.row, Msp.marked])) (by simp only [List.length_set]; omega) (by rw [hF 1 (by omega)]; simp [Msp.row, Msp.marked] <;> omega)) (by simp only [List.length_set]; omega) (by rw [hF 2 (by omega)]; simp [Msp.row, Msp.marked] <;> omega)
        case measure => simp [intOf]; omega
      · have HY := Lib.hid hown.1
        go_wp2_with fail
        go_ret
        have hjn : j = n := by omega
        subst hjn
        have h1 := HT.out
        have h2 : ((seqMsp k j).map Msp.row).flatten.length = j * 3 := by rw [flatten_len (size := 3) (by simp [Msp.row]), List.length_map, seqMsp_len]
        rw [List.take_of_length_le (by rw [HY.out]; omega), List.take_of_length_le (by rw [h2]; omega)] at h1
        rw [← h1]
        exact ⟨rfl, hown, hgr⟩
set_option maxRecDepth 100000 in
theorem heldMisputS_any (A : Option Addr) (n c : Nat) (k : Int) (w : World) (hr : RMsps w w.heap.size A n (seqMsp k n)) (hn : n ≤ 1048576) (hk : 1 ≤ k ∧ k ≤ 100000000) :
    Calls Try.prog 42 #[.slice A n c, .int .i64 k] w fun e w' => e = .returned (.int .i64 (k + 3 * n)) ∧ Below w.heap.size w w' := by
  go_enter Try.func42, Try.ntmps42
  go_wp2
  go_loopw [1, 5] (fun q i wr => ∃ j : Nat, j ≤ n ∧ i = .int .i64 j ∧ q = .int .i64 (k + 3 * j) ∧ Below w.heap.size w wr) (fun _ i _ => n - (intOf i).toNat)
  case atStart => exact ⟨0, Nat.zero_le _, rfl, by simp, Below.refl _ _⟩
  case round =>
    obtain ⟨j, hj, rfl, rfl, hb⟩ := hrel
    by_cases hlt : j < n
    · have l0 : (0 : Int) ≤ (j : Int) := by omega
      have l1 : (j : Int) < (n : Int) := by omega
      obtain ⟨bb, off, m, rfl, hbb, _, hy, c0, c1, c2⟩ := RMsps.at_ (RMsps.below hr hb) hlt
      rw [seqMsp_get k hlt] at hy
      injection hy with hy
      subst hy
      have hbz := hb.size
      simp only [Msp.marked] at c0 c1 c2
      have q0 : ∀ x : Later wr.heap.size wr, x.wx.cell? ⟨bb, off + j * 3, none⟩ = some (.string (markS (k + 3 * ↑j))) := fun x => x.cell (by omega) c0
      have f1 : ((markS (k + 3 * ↑j)).toList != (markS (k + 3 * ↑j)).toList) = false := by simp
      have f2 : ((markS (k + 3 * ↑j)).toList == (markS (k + 3 * ↑j)).toList) = true := by simp
      have hkk : 1 ≤ k + 3 * (j : Int) ∧ k + 3 * (j : Int) ≤ 1000000000 := by omega
      go_wp2_with fail
      refine quiet_start (wr.heap.size) (by kernel_rfl) (by kernel_rfl) ?_; (repeat (go_big_quiet_step ((go_at_call 75; exact later_call (Nat.le_refl _) (markText_any _ _ hkk))))); refine wpQuiet_nil ?_; rintro wx ⟨⟨wy, hn⟩, rfl⟩; (try dsimp only)
      obtain ⟨w0, rfl⟩ : ∃ y, y = wx := ⟨_, rfl⟩
      replace c0 := (hn.cell (by simp only []; omega)).trans c0
      replace c1 := (hn.cell (by simp only []; omega)).trans c1
      replace c2 := (hn.cell (by simp only []; omega)).trans c2
      replace hb := hb.trans (hn.mono hbz)
      have hbz0 := hn.size
      clear hn q0 f1 f2 hkk
      have hbz := hb.size
      have q0 : ∀ x : Later w0.heap.size w0, x.wx.cell? ⟨bb, off + j * 3 + 1, none⟩ = some (.string (markS (k + 3 * ↑j + 1))) := fun x => x.cell (by omega) c1
      have f1 : ((markS (k + 3 * ↑j + 1)).toList != (markS (k + 3 * ↑j + 1)).toList) = false := by simp
      have f2 : ((markS (k + 3 * ↑j + 1)).toList == (markS (k + 3 * ↑j + 1)).toList) = true := by simp
      have hkk : 1 ≤ k + 3 * (j : Int) + 1 ∧ k + 3 * (j : Int) + 1 ≤ 1000000000 := by omega
      go_wp2_with fail
      refine quiet_start (w0.heap.size) (by kernel_rfl) (by kernel_rfl) ?_; (repeat (go_big_quiet_step ((go_at_call 75; exact later_call (Nat.le_refl _) (markText_any _ _ hkk))))); refine wpQuiet_nil ?_; rintro wx ⟨⟨wy, hn⟩, rfl⟩; (try dsimp only)
      obtain ⟨w1, rfl⟩ : ∃ y, y = wx := ⟨_, rfl⟩
      replace c0 := (hn.cell (by simp only []; omega)).trans c0
      replace c1 := (hn.cell (by simp only []; omega)).trans c1
      replace c2 := (hn.cell (by simp only []; omega)).trans c2
      replace hb := hb.trans (hn.mono hbz)
      have hbz1 := hn.size
      clear hn q0 f1 f2 hkk
      have hbz := hb.size
      go_wp2_with fail
      go_roundw
      case rel => exact ⟨j + 1, by omega, by go_num, by go_num, hb⟩
      case measure => simp [intOf]; omega
    · have hjn : j = n := by omega
      subst hjn
      go_wp2
      go_ret
      exact ⟨rfl, hb⟩
def totMsp : List Msp → Nat
  | [] => 0
  | m :: r => (m.code.size + m.into.size) + totMsp r
def szMsp (n : Nat) (l : Int) : Int := if l < n then -1 else l - n
theorem szMisput_any (m : Msp) (l : Int) (w : World) (hs : m.code.size ≤ maxLen ∧ m.into.size ≤ maxLen) (hl : 0 ≤ l ∧ l ≤ 1048576) :
    Calls Try.prog 88 #[.agg #[.string m.code, .string m.into, .int .i64 m.nn], .int .i64 l] w fun e w' => e = .returned (.int .i64 (szMsp (m.code.size + m.into.size) l)) ∧ Below w.heap.size w w' := by
  unfold maxLen at hs
  by_cases h : l < m.code.size
  · have HZ := Lib.hid (show szMsp (m.code.size + m.into.size) l = -1 by rw [szMsp, if_pos (by omega)])
    go_enter Try.func88, Try.ntmps88
    go_wp2
    go_ret
    exact ⟨ret_int (by rw [HZ.out]), (by (repeat (first | exact Below.refl _ _ | exact hb | apply Below.drew | (refine Below.alloc ?_ (by first | (simp; done) | (simp; omega) | (have := hb.size; simp at this ⊢; omega)) _) | (refine Below.setCell ?_ (by simp) _))))⟩
  by_cases h2 : l - m.code.size < m.into.size
  · have HZ := Lib.hid (show szMsp (m.code.size + m.into.size) l = -1 by rw [szMsp, if_pos (by omega)])
    go_enter Try.func88, Try.ntmps88
    go_wp2
    go_ret
    exact ⟨ret_int (by rw [HZ.out]), (by (repeat (first | exact Below.refl _ _ | exact hb | apply Below.drew | (refine Below.alloc ?_ (by first | (simp; done) | (simp; omega) | (have := hb.size; simp at this ⊢; omega)) _) | (refine Below.setCell ?_ (by simp) _))))⟩
  · have HZ := Lib.hid (show szMsp (m.code.size + m.into.size) l = l - m.code.size - m.into.size by rw [szMsp, if_neg (by omega)]; omega)
    go_enter Try.func88, Try.ntmps88
    go_wp2
    go_ret
    exact ⟨ret_int (by rw [HZ.out]), (by (repeat (first | exact Below.refl _ _ | exact hb | apply Below.drew | (refine Below.alloc ?_ (by first | (simp; done) | (simp; omega) | (have := hb.size; simp at this ⊢; omega)) _) | (refine Below.setCell ?_ (by simp) _))))⟩
def szLMsp : List Msp → Int → Int
  | [], l => l
  | m :: r, l => if szMsp (m.code.size + m.into.size) l < 0 then -1 else szLMsp r (szMsp (m.code.size + m.into.size) l)
def szSMsp (ms : List Msp) (l : Int) : Int := if l < ms.length then -1 else szLMsp ms (l - ms.length)
theorem szMsp_ok {n : Nat} {l : Int} (h : 0 ≤ szMsp n l) : n ≤ l ∧ szMsp n l = l - n := by
  unfold szMsp at *
  split at h
  · omega
  · rw [if_neg (by omega)]; omega
theorem szLMsp_ok : ∀ {ms : List Msp} {l : Int}, 0 ≤ szLMsp ms l → 0 ≤ l → totMsp ms ≤ l ∧ szLMsp ms l = l - totMsp ms ∧ ∀ m ∈ ms, ((m.code.size + m.into.size : Nat) : Int) ≤ l
  | [], l, _, hl => by simp [totMsp, szLMsp]; omega
  | m :: r, l, h, hl => by
    unfold szLMsp at h
    split at h
    · omega
    · rename_i q
      have g := szMsp_ok (n := m.code.size + m.into.size) (l := l) (by omega)
      have ih := szLMsp_ok h (by omega)
      rw [szLMsp, if_neg q, totMsp]
      refine ⟨by omega, by omega, fun y hy => ?_⟩
      rcases List.mem_cons.1 hy with rfl | hy
      · omega
      · have := ih.2.2 y hy; omega
theorem szSMsp_ok {ms : List Msp} {l : Int} (h : 0 ≤ szSMsp ms l) (_ : 0 ≤ l) : ms.length ≤ l ∧ szSMsp ms l ≤ l ∧ ∀ m ∈ ms, ((m.code.size + m.into.size : Nat) : Int) ≤ l := by
  unfold szSMsp at *
  split at h
  · omega
  · rename_i q
    have g := szLMsp_ok h (by omega)
    rw [if_neg q]
    refine ⟨by omega, by omega, fun y hy => ?_⟩
    have := g.2.2 y hy
    omega
set_option maxRecDepth 100000 in
theorem szMisputS_any {A : Option Addr} {n cp : Nat} {ms : List Msp} {l : Int} {w : World} (hr : RMsps w w.heap.size A n ms) (hn : n ≤ 9223372036854775807) (hL : ∀ m ∈ ms, m.code.size ≤ maxLen ∧ m.into.size ≤ maxLen) (_ : 0 ≤ l ∧ l ≤ 1048576) :
    Calls Try.prog 43 #[.slice A n cp, .int .i64 l] w fun e w' => e = .returned (.int .i64 (szSMsp ms l)) ∧ Below w.heap.size w w' := by
  have HL := Lib.hid hr.len
  have HX := Lib.hid hL
  clear hL
  by_cases q : l < n
  · go_enter Try.func43, Try.ntmps43
    go_wp2_with fail
    go_ret
    exact ⟨ret_int (by rw [szSMsp, if_pos (by rw [HL.out]; exact q)]), Below.refl _ _⟩
  · have HF := Lib.hid (show szSMsp ms l = szLMsp ms (l - n) by rw [szSMsp, if_neg (by rw [HL.out]; exact q), HL.out])
    have l1 : 0 ≤ l - n ∧ l - n ≤ 1048576 := by omega
    go_enter Try.func43, Try.ntmps43
    go_wp2_with fail
    go_loopw [1, 5] (fun q i wr => ∃ (k : Nat) (t : Int), k ≤ n ∧ i = .int .i64 k ∧ q = .int .i64 t ∧ 0 ≤ t ∧ t ≤ 1048576 ∧ szLMsp (ms.drop k) t = szLMsp ms (l - n) ∧ Below w.heap.size w wr) (fun _ i _ => n - (intOf i).toNat)
    case atStart => exact ⟨0, l - n, Nat.zero_le _, rfl, rfl, by omega, by omega, rfl, Below.refl _ _⟩
    case round =>
      obtain ⟨k, t, hk, rfl, rfl, t0, t1, hR, hb⟩ := hrel
      by_cases hlt : k < n
      · obtain ⟨b, off, m, rfl, _, hd, hy, c0, c1, c2⟩ := RMsps.at_ (RMsps.below hr hb) hlt
        have hx := HX.out m (List.mem_of_getElem? hy)
        have HR := Lib.hid (show (if szMsp (m.code.size + m.into.size) t < 0 then -1 else szLMsp (ms.drop (k + 1)) (szMsp (m.code.size + m.into.size) t)) = szLMsp ms (l - n) by rw [← hR, hd, szLMsp])
        clear hR hd hy
        by_cases q1 : szMsp (m.code.size + m.into.size) t < 0
        · have HS := Lib.hid (show szLMsp ms (l - n) = -1 by rw [← HR.out, if_pos q1])
          go_wp2_with fail
          refine (szMisput_any m t _ hx (by omega)).mono ?_
          rintro e1 w1 ⟨rfl, hn1⟩
          replace hb := hb.trans (hn1.mono hb.size)
          clear c0 c1 c2 hn1
          go_wp2_with fail
          go_ret
          exact ⟨ret_int (by rw [HF.out, HS.out]), hb⟩
        · have HS := Lib.hid (show szLMsp (ms.drop (k + 1)) (szMsp (m.code.size + m.into.size) t) = szLMsp ms (l - n) by rw [← HR.out, if_neg q1])
          have g := szMsp_ok (n := m.code.size + m.into.size) (l := t) (by omega)
          have g2 : 0 ≤ szMsp (m.code.size + m.into.size) t ∧ szMsp (m.code.size + m.into.size) t ≤ 1048576 := by omega
          clear g
          go_wp2_with fail
          refine (szMisput_any m t _ hx (by omega)).mono ?_
          rintro e1 w1 ⟨rfl, hn1⟩
          replace hb := hb.trans (hn1.mono hb.size)
          clear c0 c1 c2 hn1
          go_wp2_with fail
          go_roundw
          case rel => exact ⟨k + 1, _, by omega, by go_num, rfl, by omega, by omega, HS.out, hb⟩
          case measure => simp [intOf]; omega
      · have HS := Lib.hid (show t = szLMsp ms (l - n) by rw [← hR, drop_end HL.out hlt]; rfl)
        clear hR
        go_wp2_with fail
        go_ret
        exact ⟨ret_int (by rw [HF.out, ← HS.out]), hb⟩
end Go.Proofs.Ytjcopempjanhhaa
