/-
  The marks on lists of Sort, and their size. Printed by program.
-/
import Derived.Test.YtfdmenhnejfhjaaSSort
import Derived.Test.YtfdmenhnejfhjaaMark
import Derived.Test.YtfdmenhnejfhjaaQuiet
namespace Go.Proofs.Ytfdmenhnejfhjaa
open Go.RowKit
def Srt.marked (k : Int) : Srt := ⟨markS (k), k + 1⟩
def seqSrt (k : Int) (n : Nat) : List Srt := (List.range n).map fun j : Nat => Srt.marked (k + 2 * (j : Int))
theorem seqSrt_len (k : Int) (n : Nat) : (seqSrt k n).length = n := by simp [seqSrt]
theorem seqSrt_get (k : Int) {n j : Nat} (h : j < n) : (seqSrt k n)[j]? = some (Srt.marked (k + 2 * (j : Int))) := by simp [seqSrt, h]
theorem grown_of_belowSrt {w w' : World} {row : Option Nat} (h : Below w.heap.size w w') : w.grownBy w' row := ⟨h.os, h.tape, h.output, h.size, fun i hi _ => h.block i hi⟩
set_option maxRecDepth 100000 in
theorem markSortS_any (v : Value) (n B : Nat) (ms : List Srt) (k : Int) (w : World) (h : w.ownsRow B 50 2 v n (ms.map Srt.row).flatten) (hn : n ≤ 1048576) (hk : 1 ≤ k ∧ k ≤ 100000000) :
    Calls Try.prog 12 #[v, .int .i64 k] w fun e w' => e = .returned (.int .i64 (k + 2 * n)) ∧ w'.ownsRow B 50 2 v n ((seqSrt k n).map Srt.row).flatten ∧ w.grownBy w' v.ownBlock := by
  have hl := h.1
  obtain ⟨hlen, hform⟩ := h
  rcases hform with ⟨rfl, rfl⟩ | ⟨g, cap, cur, rfl, hB, hg, rest⟩
  · go_enter Try.func12, Try.ntmps12
    go_wp2
    go_loop [1, 5] (fun q i => i = .int .i64 0 ∧ q = .int .i64 k) (fun _ _ => 0)
    case atStart => exact ⟨rfl, rfl⟩
    case round =>
      obtain ⟨rfl, rfl⟩ := hrel
      go_wp2
      go_ret
      exact ⟨ret_int (by simp), World.ownsRow_nil _ _ _ _, grown_refl _ _⟩
  · have h : w.ownsRow B 50 2 (.slice (some ⟨g, 0, none⟩) n cap) n (ms.map Srt.row).flatten := ⟨hlen, .inr ⟨g, cap, cur, rfl, hB, hg, rest⟩⟩
    clear hlen hg rest
    have HL := Lib.hid hl; clear hl
    go_enter Try.func12, Try.ntmps12
    go_wp2
    go_loopw [1, 5] (fun q i wr => ∃ (j : Nat) (cs : List Value), j ≤ n ∧ i = .int .i64 j ∧ q = .int .i64 (k + 2 * j) ∧ wr.ownsRow B 50 2 (.slice (some ⟨g, 0, none⟩) n cap) n cs ∧ cs.take (j * 2) = ((seqSrt k n).map Srt.row).flatten.take (j * 2) ∧ w.grownBy wr (some g)) (fun _ i _ => n - (intOf i).toNat)
    case atStart => exact ⟨0, _, Nat.zero_le _, rfl, by simp, h, by simp, grown_refl _ _⟩
    case round =>
      obtain ⟨j, cs, hj, rfl, rfl, hown, htk, hgr⟩ := hrel
      have HT := Lib.hid htk; clear htk
      by_cases hlt : j < n
      · go_wp2_with fail
        have hkk : 1 ≤ k + 2 * (j : Int) ∧ k + 2 * (j : Int) ≤ 1000000000 := by omega
        refine (markText_any _ _ hkk).mono ?_
        rintro e1 w0 ⟨rfl, hn1⟩
        replace hown := row_step hown hn1
        replace hgr := grown_trans hgr (grown_of_belowSrt hn1)
        have HY0 := Lib.hid hown.1
        clear hn1 hkk
        obtain ⟨z0, d0⟩ : ∃ z, w0.cell? ⟨g, j * 2, none⟩ = some z := ⟨_, (hown.cellAt (j * 2) (by omega)).trans (List.getElem?_eq_getElem (by have := HY0.out; omega))⟩
        obtain ⟨z1, d1⟩ : ∃ z, w0.cell? ⟨g, j * 2 + 1, none⟩ = some z := ⟨_, (hown.cellAt (j * 2 + 1) (by omega)).trans (List.getElem?_eq_getElem (by have := HY0.out; omega))⟩
        have y0 := hown.frozenAt (j * 2)
        have y1 := hown.frozenAt (j * 2 + 1)
        go_wp2_with fail
        go_roundw
        case rel =>
          refine ⟨j + 1, _, by omega, by go_num, by simp; omega, (((hown.stored _ _).1.stored _ _)).1, ?_, grown_trans (grown_trans (hgr) (hown.stored _ _).2) (((hown.stored _ _).1.stored _ _)).2⟩
          have hl := HY0.out
          have hr : ((seqSrt k n).map Srt.row)[j]? = some (Srt.marked (k + 2 * (j : Int))).row := by rw [List.getElem?_map, seqSrt_get k hlt]; rfl
          have hF : ∀ i, i < 2 → ((seqSrt k n).map Srt.row).flatten[j * 2 + i]? = (Srt.marked (k + 2 * (j : Int))).row[i]? := fun i hi => flatten_at (by simp [Srt.row]) hr i hi
          rw [show (j + 1) * 2 = j * 2 + 1 + 1 by omega]
          exact fill_step (fill_step HT.out (by omega) (by rw [← Nat.add_zero (j * 2), hF 0 (by omega)]; simp [Srt.row, Srt.marked])) (by simp only [List.length_set]; omega) (by rw [hF 1 (by omega)]; simp [Srt.row, Srt.marked] <;> omega)
        case measure => simp [intOf]; omega
      · have HY := Lib.hid hown.1
        go_wp2_with fail
        go_ret
        have hjn : j = n := by omega
        subst hjn
        have h1 := HT.out
        have h2 : ((seqSrt k j).map Srt.row).flatten.length = j * 2 := by rw [flatten_len (size := 2) (by simp [Srt.row]), List.length_map, seqSrt_len]
        rw [List.take_of_length_le (by rw [HY.out]; omega), List.take_of_length_le (by rw [h2]; omega)] at h1
        rw [← h1]
        exact ⟨rfl, hown, hgr⟩
def totSrt : List Srt → Nat
  | [] => 0
  | m :: r => (m.code.size) + totSrt r
def szSrt (n : Nat) (l : Int) : Int := if l < n then -1 else l - n
theorem szSort_any (m : Srt) (l : Int) (w : World) (hs : m.code.size ≤ maxLen) (hl : 0 ≤ l ∧ l ≤ 1048576) :
    Calls Try.prog 15 #[.agg #[.string m.code, .int .i64 m.set_], .int .i64 l] w fun e w' => e = .returned (.int .i64 (szSrt (m.code.size) l)) ∧ Below w.heap.size w w' := by
  unfold maxLen at hs
  by_cases h : l < m.code.size
  · have HZ := Lib.hid (show szSrt (m.code.size) l = -1 by rw [szSrt, if_pos h])
    go_enter Try.func15, Try.ntmps15
    go_wp2
    go_ret
    exact ⟨ret_int (by rw [HZ.out]), (by (repeat (first | exact Below.refl _ _ | exact hb | apply Below.drew | (refine Below.alloc ?_ (by first | (simp; done) | (simp; omega) | (have := hb.size; simp at this ⊢; omega)) _) | (refine Below.setCell ?_ (by simp) _))))⟩
  · have HZ := Lib.hid (show szSrt (m.code.size) l = l - m.code.size by rw [szSrt, if_neg h])
    go_enter Try.func15, Try.ntmps15
    go_wp2
    go_ret
    exact ⟨ret_int (by rw [HZ.out]), (by (repeat (first | exact Below.refl _ _ | exact hb | apply Below.drew | (refine Below.alloc ?_ (by first | (simp; done) | (simp; omega) | (have := hb.size; simp at this ⊢; omega)) _) | (refine Below.setCell ?_ (by simp) _))))⟩
def szLSrt : List Srt → Int → Int
  | [], l => l
  | m :: r, l => if szSrt (m.code.size) l < 0 then -1 else szLSrt r (szSrt (m.code.size) l)
def szSSrt (ms : List Srt) (l : Int) : Int := if l < ms.length then -1 else szLSrt ms (l - ms.length)
theorem szSrt_ok {n : Nat} {l : Int} (h : 0 ≤ szSrt n l) : n ≤ l ∧ szSrt n l = l - n := by
  unfold szSrt at *
  split at h
  · omega
  · rw [if_neg (by omega)]; omega
theorem szLSrt_ok : ∀ {ms : List Srt} {l : Int}, 0 ≤ szLSrt ms l → 0 ≤ l → totSrt ms ≤ l ∧ szLSrt ms l = l - totSrt ms ∧ ∀ m ∈ ms, ((m.code.size : Nat) : Int) ≤ l
  | [], l, _, hl => by simp [totSrt, szLSrt]; omega
  | m :: r, l, h, hl => by
    unfold szLSrt at h
    split at h
    · omega
    · rename_i q
      have g := szSrt_ok (n := m.code.size) (l := l) (by omega)
      have ih := szLSrt_ok h (by omega)
      rw [szLSrt, if_neg q, totSrt]
      refine ⟨by omega, by omega, fun y hy => ?_⟩
      rcases List.mem_cons.1 hy with rfl | hy
      · omega
      · have := ih.2.2 y hy; omega
theorem szSSrt_ok {ms : List Srt} {l : Int} (h : 0 ≤ szSSrt ms l) (_ : 0 ≤ l) : ms.length ≤ l ∧ szSSrt ms l ≤ l ∧ ∀ m ∈ ms, ((m.code.size : Nat) : Int) ≤ l := by
  unfold szSSrt at *
  split at h
  · omega
  · rename_i q
    have g := szLSrt_ok h (by omega)
    rw [if_neg q]
    refine ⟨by omega, by omega, fun y hy => ?_⟩
    have := g.2.2 y hy
    omega
set_option maxRecDepth 100000 in
theorem szSortS_any {A : Option Addr} {n cp : Nat} {ms : List Srt} {l : Int} {w : World} (hr : RSrts w w.heap.size A n ms) (hn : n ≤ 9223372036854775807) (hL : ∀ m ∈ ms, m.code.size ≤ maxLen) (_ : 0 ≤ l ∧ l ≤ 1048576) :
    Calls Try.prog 4 #[.slice A n cp, .int .i64 l] w fun e w' => e = .returned (.int .i64 (szSSrt ms l)) ∧ Below w.heap.size w w' := by
  have HL := Lib.hid hr.len
  have HX := Lib.hid hL
  clear hL
  by_cases q : l < n
  · go_enter Try.func4, Try.ntmps4
    go_wp2_with fail
    go_ret
    exact ⟨ret_int (by rw [szSSrt, if_pos (by rw [HL.out]; exact q)]), Below.refl _ _⟩
  · have HF := Lib.hid (show szSSrt ms l = szLSrt ms (l - n) by rw [szSSrt, if_neg (by rw [HL.out]; exact q), HL.out])
    have l1 : 0 ≤ l - n ∧ l - n ≤ 1048576 := by omega
    go_enter Try.func4, Try.ntmps4
    go_wp2_with fail
    go_loopw [1, 5] (fun q i wr => ∃ (k : Nat) (t : Int), k ≤ n ∧ i = .int .i64 k ∧ q = .int .i64 t ∧ 0 ≤ t ∧ t ≤ 1048576 ∧ szLSrt (ms.drop k) t = szLSrt ms (l - n) ∧ Below w.heap.size w wr) (fun _ i _ => n - (intOf i).toNat)
    case atStart => exact ⟨0, l - n, Nat.zero_le _, rfl, rfl, by omega, by omega, rfl, Below.refl _ _⟩
    case round =>
      obtain ⟨k, t, hk, rfl, rfl, t0, t1, hR, hb⟩ := hrel
      by_cases hlt : k < n
      · obtain ⟨b, off, m, rfl, _, hd, hy, c0, c1⟩ := RSrts.at_ (RSrts.below hr hb) hlt
        have hx := HX.out m (List.mem_of_getElem? hy)
        have HR := Lib.hid (show (if szSrt (m.code.size) t < 0 then -1 else szLSrt (ms.drop (k + 1)) (szSrt (m.code.size) t)) = szLSrt ms (l - n) by rw [← hR, hd, szLSrt])
        clear hR hd hy
        by_cases q1 : szSrt (m.code.size) t < 0
        · have HS := Lib.hid (show szLSrt ms (l - n) = -1 by rw [← HR.out, if_pos q1])
          go_wp2_with fail
          refine (szSort_any m t _ hx (by omega)).mono ?_
          rintro e1 w1 ⟨rfl, hn1⟩
          replace hb := hb.trans (hn1.mono hb.size)
          clear c0 c1 hn1
          go_wp2_with fail
          go_ret
          exact ⟨ret_int (by rw [HF.out, HS.out]), hb⟩
        · have HS := Lib.hid (show szLSrt (ms.drop (k + 1)) (szSrt (m.code.size) t) = szLSrt ms (l - n) by rw [← HR.out, if_neg q1])
          have g := szSrt_ok (n := m.code.size) (l := t) (by omega)
          have g2 : 0 ≤ szSrt (m.code.size) t ∧ szSrt (m.code.size) t ≤ 1048576 := by omega
          clear g
          go_wp2_with fail
          refine (szSort_any m t _ hx (by omega)).mono ?_
          rintro e1 w1 ⟨rfl, hn1⟩
          replace hb := hb.trans (hn1.mono hb.size)
          clear c0 c1 hn1
          go_wp2_with fail
          go_roundw
          case rel => exact ⟨k + 1, _, by omega, by go_num, rfl, by omega, by omega, HS.out, hb⟩
          case measure => simp [intOf]; omega
      · have HS := Lib.hid (show t = szLSrt ms (l - n) by rw [← hR, drop_end HL.out hlt]; rfl)
        clear hR
        go_wp2_with fail
        go_ret
        exact ⟨ret_int (by rw [HF.out, ← HS.out]), hb⟩
end Go.Proofs.Ytfdmenhnejfhjaa
