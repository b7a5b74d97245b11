/-
  The marks on lists of Box, and their size. Printed by program.
-/
import Derived.Test.YtfdmenhnejfhjaaSBox
import Derived.Test.YtfdmenhnejfhjaaMark
import Derived.Test.YtfdmenhnejfhjaaQuiet
namespace Go.Proofs.Ytfdmenhnejfhjaa
open Go.RowKit
def Bx.marked (k : Int) : Bx := ⟨markS (k), k + 1, k + 2, k + 3⟩
def seqBx (k : Int) (n : Nat) : List Bx := (List.range n).map fun j : Nat => Bx.marked (k + 4 * (j : Int))
theorem seqBx_len (k : Int) (n : Nat) : (seqBx k n).length = n := by simp [seqBx]
theorem seqBx_get (k : Int) {n j : Nat} (h : j < n) : (seqBx k n)[j]? = some (Bx.marked (k + 4 * (j : Int))) := by simp [seqBx, h]
theorem grown_of_belowBx {w w' : World} {row : Option Nat} (h : Below w.heap.size w w') : w.grownBy w' row := ⟨h.os, h.tape, h.output, h.size, fun i hi _ => h.block i hi⟩
set_option maxRecDepth 100000 in
theorem markBoxS_any (v : Value) (n B : Nat) (ms : List Bx) (k : Int) (w : World) (h : w.ownsRow B 71 4 v n (ms.map Bx.row).flatten) (hn : n ≤ 1048576) (hk : 1 ≤ k ∧ k ≤ 100000000) :
    Calls Try.prog 33 #[v, .int .i64 k] w fun e w' => e = .returned (.int .i64 (k + 4 * n)) ∧ w'.ownsRow B 71 4 v n ((seqBx k n).map Bx.row).flatten ∧ w.grownBy w' v.ownBlock := by
  have hl := h.1
  obtain ⟨hlen, hform⟩ := h
  rcases hform with ⟨rfl, rfl⟩ | ⟨g, cap, cur, rfl, hB, hg, rest⟩
  · go_enter Try.func33, Try.ntmps33
    go_wp2
    go_loop [1, 5] (fun q i => i = .int .i64 0 ∧ q = .int .i64 k) (fun _ _ => 0)
    case atStart => exact ⟨rfl, rfl⟩
    case round =>
      obtain ⟨rfl, rfl⟩ := hrel
      go_wp2
      go_ret
      exact ⟨ret_int (by simp), World.ownsRow_nil _ _ _ _, grown_refl _ _⟩
  · have h : w.ownsRow B 71 4 (.slice (some ⟨g, 0, none⟩) n cap) n (ms.map Bx.row).flatten := ⟨hlen, .inr ⟨g, cap, cur, rfl, hB, hg, rest⟩⟩
    clear hlen hg rest
    have HL := Lib.hid hl; clear hl
    go_enter Try.func33, Try.ntmps33
    go_wp2
    go_loopw [1, 5] (fun q i wr => ∃ (j : Nat) (cs : List Value), j ≤ n ∧ i = .int .i64 j ∧ q = .int .i64 (k + 4 * j) ∧ wr.ownsRow B 71 4 (.slice (some ⟨g, 0, none⟩) n cap) n cs ∧ cs.take (j * 4) = ((seqBx k n).map Bx.row).flatten.take (j * 4) ∧ w.grownBy wr (some g)) (fun _ i _ => n - (intOf i).toNat)
    case atStart => exact ⟨0, _, Nat.zero_le _, rfl, by simp, h, by simp, grown_refl _ _⟩
    case round =>
      obtain ⟨j, cs, hj, rfl, rfl, hown, htk, hgr⟩ := hrel
      have HT := Lib.hid htk; clear htk
      by_cases hlt : j < n
      · go_wp2_with fail
        have hkk : 1 ≤ k + 4 * (j : Int) ∧ k + 4 * (j : Int) ≤ 1000000000 := by omega
        refine (markText_any _ _ hkk).mono ?_
        rintro e1 w0 ⟨rfl, hn1⟩
        replace hown := row_step hown hn1
        replace hgr := grown_trans hgr (grown_of_belowBx hn1)
        have HY0 := Lib.hid hown.1
        clear hn1 hkk
        obtain ⟨z0, d0⟩ : ∃ z, w0.cell? ⟨g, j * 4, none⟩ = some z := ⟨_, (hown.cellAt (j * 4) (by omega)).trans (List.getElem?_eq_getElem (by have := HY0.out; omega))⟩
        obtain ⟨z1, d1⟩ : ∃ z, w0.cell? ⟨g, j * 4 + 1, none⟩ = some z := ⟨_, (hown.cellAt (j * 4 + 1) (by omega)).trans (List.getElem?_eq_getElem (by have := HY0.out; omega))⟩
        obtain ⟨z2, d2⟩ : ∃ z, w0.cell? ⟨g, j * 4 + 2, none⟩ = some z := ⟨_, (hown.cellAt (j * 4 + 2) (by omega)).trans (List.getElem?_eq_getElem (by have := HY0.out; omega))⟩
        obtain ⟨z3, d3⟩ : ∃ z, w0.cell? ⟨g, j * 4 + 3, none⟩ = some z := ⟨_, (hown.cellAt (j * 4 + 3) (by omega)).trans (List.getElem?_eq_getElem (by have := HY0.out; omega))⟩
        have y0 := hown.frozenAt (j * 4)
        have y1 := hown.frozenAt (j * 4 + 1)
        have y2 := hown.frozenAt (j * 4 + 2)
        have y3 := hown.frozenAt (j * 4 + 3)
        go_wp2_with fail
        go_roundw
        case rel =>
          refine ⟨j + 1, _, by omega, by go_num, by simp; omega, (((((((hown.stored _ _).1.stored _ _)).1.stored _ _)).1.stored _ _)).1, ?_, grown_trans (grown_trans (grown_trans (grown_trans (hgr) (hown.stored _ _).2) (((hown.stored _ _).1.stored _ _)).2) (((((hown.stored _ _).1.stored _ _)).1.stored _ _)).2) (((((((hown.stored _ _).1.stored _ _)).1.stored _ _)).1.stored _ _)).2⟩
          have hl := HY0.out
          have hr : ((seqBx k n).map Bx.row)[j]? = some (Bx.marked (k + 4 * (j : Int))).row := by rw [List.getElem?_map, seqBx_get k hlt]; rfl
          have hF : ∀ i, i < 4 → ((seqBx k n).map Bx.row).flatten[j * 4 + i]? = (Bx.marked (k + 4 * (j : Int))).row[i]? := fun i hi => flatten_at (by simp [Bx.row]) hr i hi
          rw [show (j + 1) * 4 = j * 4 + 1 + 1 + 1 + 1 by omega]
          exact fill_step (fill_step (fill_step (fill_step HT.out (by omega) (by rw [← Nat.add_zero (j * 4), hF 0 (by omega)]; simp [Bx.row, Bx.marked])) (by simp only [List.length_set]; omega) (by rw [hF 1 (by omega)]; simp [Bx.row, Bx.marked] <;> omega)) (by simp only [List.length_set]; omega) (by rw [hF 2 (by omega)]; simp [Bx.row, Bx.marked] <;> omega)) (by simp only [List.length_set]; omega) (by rw [hF 3 (by omega)]; simp [Bx.row, Bx.marked] <;> omega)
        case measure => simp [intOf]; omega
      · have HY := Lib.hid hown.1
        go_wp2_with fail
        go_ret
        have hjn : j = n := by omega
        subst hjn
        have h1 := HT.out
        have h2 : ((seqBx k j).map Bx.row).flatten.length = j * 4 := by rw [flatten_len (size := 4) (by simp [Bx.row]), List.length_map, seqBx_len]
        rw [List.take_of_length_le (by rw [HY.out]; omega), List.take_of_length_le (by rw [h2]; omega)] at h1
        rw [← h1]
        exact ⟨rfl, hown, hgr⟩
set_option maxRecDepth 100000 in
theorem heldBoxS_any (A : Option Addr) (n c : Nat) (k : Int) (w : World) (hr : RBxs w w.heap.size A n (seqBx k n)) (hn : n ≤ 1048576) (hk : 1 ≤ k ∧ k ≤ 100000000) :
    Calls Try.prog 35 #[.slice A n c, .int .i64 k] w fun e w' => e = .returned (.int .i64 (k + 4 * n)) ∧ Below w.heap.size w w' := by
  go_enter Try.func35, Try.ntmps35
  go_wp2
  go_loopw [1, 5] (fun q i wr => ∃ j : Nat, j ≤ n ∧ i = .int .i64 j ∧ q = .int .i64 (k + 4 * j) ∧ Below w.heap.size w wr) (fun _ i _ => n - (intOf i).toNat)
  case atStart => exact ⟨0, Nat.zero_le _, rfl, by simp, Below.refl _ _⟩
  case round =>
    obtain ⟨j, hj, rfl, rfl, hb⟩ := hrel
    by_cases hlt : j < n
    · have l0 : (0 : Int) ≤ (j : Int) := by omega
      have l1 : (j : Int) < (n : Int) := by omega
      obtain ⟨bb, off, m, rfl, hbb, _, hy, c0, c1, c2, c3⟩ := RBxs.at_ (RBxs.below hr hb) hlt
      rw [seqBx_get k hlt] at hy
      injection hy with hy
      subst hy
      have hbz := hb.size
      simp only [Bx.marked] at c0 c1 c2 c3
      have q0 : ∀ x : Later wr.heap.size wr, x.wx.cell? ⟨bb, off + j * 4, none⟩ = some (.string (markS (k + 4 * ↑j))) := fun x => x.cell (by omega) c0
      have f1 : ((markS (k + 4 * ↑j)).toList != (markS (k + 4 * ↑j)).toList) = false := by simp
      have f2 : ((markS (k + 4 * ↑j)).toList == (markS (k + 4 * ↑j)).toList) = true := by simp
      have hkk : 1 ≤ k + 4 * (j : Int) ∧ k + 4 * (j : Int) ≤ 1000000000 := by omega
      go_wp2_with fail
      refine quiet_start (wr.heap.size) (by kernel_rfl) (by kernel_rfl) ?_; (repeat (go_big_quiet_step ((go_at_call 32; exact later_call (Nat.le_refl _) (markText_any _ _ hkk))))); refine wpQuiet_nil ?_; rintro wx ⟨⟨wy, hn⟩, rfl⟩; (try dsimp only)
      obtain ⟨w0, rfl⟩ : ∃ y, y = wx := ⟨_, rfl⟩
      replace c0 := (hn.cell (by simp only []; omega)).trans c0
      replace c1 := (hn.cell (by simp only []; omega)).trans c1
      replace c2 := (hn.cell (by simp only []; omega)).trans c2
      replace c3 := (hn.cell (by simp only []; omega)).trans c3
      replace hb := hb.trans (hn.mono hbz)
      have hbz0 := hn.size
      clear hn q0 f1 f2 hkk
      have hbz := hb.size
      go_wp2_with fail
      go_roundw
      case rel => exact ⟨j + 1, by omega, by go_num, by go_num, hb⟩
      case measure => simp [intOf]; omega
    · have hjn : j = n := by omega
      subst hjn
      go_wp2
      go_ret
      exact ⟨rfl, hb⟩
def totBx : List Bx → Nat
  | [] => 0
  | m :: r => (m.code.size) + totBx r
def szBx (n : Nat) (l : Int) : Int := if l < n then -1 else l - n
theorem szBox_any (m : Bx) (l : Int) (w : World) (hs : m.code.size ≤ maxLen) (hl : 0 ≤ l ∧ l ≤ 1048576) :
    Calls Try.prog 37 #[.agg #[.string m.code, .int .i64 m.line, .int .i64 m.column, .int .i64 m.count], .int .i64 l] w fun e w' => e = .returned (.int .i64 (szBx (m.code.size) l)) ∧ Below w.heap.size w w' := by
  unfold maxLen at hs
  by_cases h : l < m.code.size
  · have HZ := Lib.hid (show szBx (m.code.size) l = -1 by rw [szBx, if_pos h])
    go_enter Try.func37, Try.ntmps37
    go_wp2
    go_ret
    exact ⟨ret_int (by rw [HZ.out]), (by (repeat (first | exact Below.refl _ _ | exact hb | apply Below.drew | (refine Below.alloc ?_ (by first | (simp; done) | (simp; omega) | (have := hb.size; simp at this ⊢; omega)) _) | (refine Below.setCell ?_ (by simp) _))))⟩
  · have HZ := Lib.hid (show szBx (m.code.size) l = l - m.code.size by rw [szBx, if_neg h])
    go_enter Try.func37, Try.ntmps37
    go_wp2
    go_ret
    exact ⟨ret_int (by rw [HZ.out]), (by (repeat (first | exact Below.refl _ _ | exact hb | apply Below.drew | (refine Below.alloc ?_ (by first | (simp; done) | (simp; omega) | (have := hb.size; simp at this ⊢; omega)) _) | (refine Below.setCell ?_ (by simp) _))))⟩
def szLBx : List Bx → Int → Int
  | [], l => l
  | m :: r, l => if szBx (m.code.size) l < 0 then -1 else szLBx r (szBx (m.code.size) l)
def szSBx (ms : List Bx) (l : Int) : Int := if l < ms.length then -1 else szLBx ms (l - ms.length)
theorem szBx_ok {n : Nat} {l : Int} (h : 0 ≤ szBx n l) : n ≤ l ∧ szBx n l = l - n := by
  unfold szBx at *
  split at h
  · omega
  · rw [if_neg (by omega)]; omega
theorem szLBx_ok : ∀ {ms : List Bx} {l : Int}, 0 ≤ szLBx ms l → 0 ≤ l → totBx ms ≤ l ∧ szLBx ms l = l - totBx ms ∧ ∀ m ∈ ms, ((m.code.size : Nat) : Int) ≤ l
  | [], l, _, hl => by simp [totBx, szLBx]; omega
  | m :: r, l, h, hl => by
    unfold szLBx at h
    split at h
    · omega
    · rename_i q
      have g := szBx_ok (n := m.code.size) (l := l) (by omega)
      have ih := szLBx_ok h (by omega)
      rw [szLBx, if_neg q, totBx]
      refine ⟨by omega, by omega, fun y hy => ?_⟩
      rcases List.mem_cons.1 hy with rfl | hy
      · omega
      · have := ih.2.2 y hy; omega
theorem szSBx_ok {ms : List Bx} {l : Int} (h : 0 ≤ szSBx ms l) (_ : 0 ≤ l) : ms.length ≤ l ∧ szSBx ms l ≤ l ∧ ∀ m ∈ ms, ((m.code.size : Nat) : Int) ≤ l := by
  unfold szSBx at *
  split at h
  · omega
  · rename_i q
    have g := szLBx_ok h (by omega)
    rw [if_neg q]
    refine ⟨by omega, by omega, fun y hy => ?_⟩
    have := g.2.2 y hy
    omega
set_option maxRecDepth 100000 in
theorem szBoxS_any {A : Option Addr} {n cp : Nat} {ms : List Bx} {l : Int} {w : World} (hr : RBxs w w.heap.size A n ms) (hn : n ≤ 9223372036854775807) (hL : ∀ m ∈ ms, m.code.size ≤ maxLen) (_ : 0 ≤ l ∧ l ≤ 1048576) :
    Calls Try.prog 16 #[.slice A n cp, .int .i64 l] w fun e w' => e = .returned (.int .i64 (szSBx ms l)) ∧ Below w.heap.size w w' := by
  have HL := Lib.hid hr.len
  have HX := Lib.hid hL
  clear hL
  by_cases q : l < n
  · go_enter Try.func16, Try.ntmps16
    go_wp2_with fail
    go_ret
    exact ⟨ret_int (by rw [szSBx, if_pos (by rw [HL.out]; exact q)]), Below.refl _ _⟩
  · have HF := Lib.hid (show szSBx ms l = szLBx ms (l - n) by rw [szSBx, if_neg (by rw [HL.out]; exact q), HL.out])
    have l1 : 0 ≤ l - n ∧ l - n ≤ 1048576 := by omega
    go_enter Try.func16, Try.ntmps16
    go_wp2_with fail
    go_loopw [1, 5] (fun q i wr => ∃ (k : Nat) (t : Int), k ≤ n ∧ i = .int .i64 k ∧ q = .int .i64 t ∧ 0 ≤ t ∧ t ≤ 1048576 ∧ szLBx (ms.drop k) t = szLBx ms (l - n) ∧ Below w.heap.size w wr) (fun _ i _ => n - (intOf i).toNat)
    case atStart => exact ⟨0, l - n, Nat.zero_le _, rfl, rfl, by omega, by omega, rfl, Below.refl _ _⟩
    case round =>
      obtain ⟨k, t, hk, rfl, rfl, t0, t1, hR, hb⟩ := hrel
      by_cases hlt : k < n
      · obtain ⟨b, off, m, rfl, _, hd, hy, c0, c1, c2, c3⟩ := RBxs.at_ (RBxs.below hr hb) hlt
        have hx := HX.out m (List.mem_of_getElem? hy)
        have HR := Lib.hid (show (if szBx (m.code.size) t < 0 then -1 else szLBx (ms.drop (k + 1)) (szBx (m.code.size) t)) = szLBx ms (l - n) by rw [← hR, hd, szLBx])
        clear hR hd hy
        by_cases q1 : szBx (m.code.size) t < 0
        · have HS := Lib.hid (show szLBx ms (l - n) = -1 by rw [← HR.out, if_pos q1])
          go_wp2_with fail
          refine (szBox_any m t _ hx (by omega)).mono ?_
          rintro e1 w1 ⟨rfl, hn1⟩
          replace hb := hb.trans (hn1.mono hb.size)
          clear c0 c1 c2 c3 hn1
          go_wp2_with fail
          go_ret
          exact ⟨ret_int (by rw [HF.out, HS.out]), hb⟩
        · have HS := Lib.hid (show szLBx (ms.drop (k + 1)) (szBx (m.code.size) t) = szLBx ms (l - n) by rw [← HR.out, if_neg q1])
          have g := szBx_ok (n := m.code.size) (l := t) (by omega)
          have g2 : 0 ≤ szBx (m.code.size) t ∧ szBx (m.code.size) t ≤ 1048576 := by omega
          clear g
          go_wp2_with fail
          refine (szBox_any m t _ hx (by omega)).mono ?_
          rintro e1 w1 ⟨rfl, hn1⟩
          replace hb := hb.trans (hn1.mono hb.size)
          clear c0 c1 c2 c3 hn1
          go_wp2_with fail
          go_roundw
          case rel => exact ⟨k + 1, _, by omega, by go_num, rfl, by omega, by omega, HS.out, hb⟩
          case measure => simp [intOf]; omega
      · have HS := Lib.hid (show t = szLBx ms (l - n) by rw [← hR, drop_end HL.out hlt]; rfl)
        clear hR
        go_wp2_with fail
        go_ret
        exact ⟨ret_int (by rw [HF.out, ← HS.out]), hb⟩
end Go.Proofs.Ytfdmenhnejfhjaa
