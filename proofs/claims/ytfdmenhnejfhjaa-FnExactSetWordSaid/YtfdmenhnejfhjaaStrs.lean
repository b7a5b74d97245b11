/-
  Slices of strings: their cells, and the contracts of the laws' own helpers on them.
-/
import Derived.Test.YtfdmenhnejfhjaaMark
import Derived.Test.YtfdmenhnejfhjaaQuiet
namespace Go.Proofs.Ytfdmenhnejfhjaa
open Go.RowKit
section
variable {w w' : World} {B B' g n : Nat} {A : Option Addr} {xs : List ByteArray}
def RStrs (w : World) (B : Nat) (A : Option Addr) (n : Nat) (xs : List ByteArray) : Prop := Reads w B 1 A n (xs.map Value.string)
theorem RStrs.len (h : RStrs w B A n xs) : xs.length = n := by have := h.1; simpa using this
theorem RStrs.at_ {k : Nat} (h : RStrs w B A n xs) (hk : k < n) : ∃ ad y, A = some ad ∧ ad.block < B ∧ xs.drop k = y :: xs.drop (k + 1) ∧ xs[k]? = some y ∧ w.cell? (ad.add k) = some (.string y) := by
  obtain ⟨ad, u, hA, hb, hx, hc⟩ := Reads.at_ h hk
  rw [List.getElem?_map] at hx
  have hl : k < xs.length := by rw [h.len]; exact hk
  rw [List.getElem?_eq_getElem hl] at hx
  injection hx with hx
  exact ⟨ad, xs[k], hA, hb, List.drop_eq_getElem_cons hl, List.getElem?_eq_getElem hl, by rw [hx]; exact hc⟩
theorem RStrs.below (h : RStrs w B A n xs) (hb : Below B w w') : RStrs w' B A n xs := Reads.below h hb
theorem RStrs.more (h : RStrs w B A n xs) (hB : B ≤ B') : RStrs w B' A n xs := Reads.more h hB
theorem RStrs.of_blk {t : TypeId} (h : Blk w g t (xs.map Value.string)) (hl : xs.length = n) : RStrs w w.heap.size (some ⟨g, 0, none⟩) n xs := h.reads (by simp [hl])
/-- An own slice of strings. -/
def OwnT (w : World) (B : Nat) (v : Value) (n : Nat) (xs : List ByteArray) : Prop := w.ownsRow B 9 1 v n (xs.map Value.string)
theorem OwnT.len {v : Value} (h : OwnT w B v n xs) : xs.length = n := by have := h.1; simpa using this
theorem RStrs.of_own {c : Nat} (h : OwnT w B (.slice A n c) n xs) : RStrs w w.heap.size A n xs := Reads.of_own h
end
theorem info9 : (Try.prog.info? 9).map (fun i => (i.zero, i.size, i.bytes)) = some (some (.string ⟨#[]⟩), 1, 16) := by kernel_rfl
theorem toStringS_any (A : Option Addr) (n c B : Nat) (xs : List ByteArray) (w : World) (hr : RStrs w B A n xs) (hB : B ≤ w.heap.size) (hn : n ≤ 1048576) :
    Calls Try.prog 24 #[.slice A n c] w fun e w' => ∃ g, e = .returned (.slice (some ⟨g, 0, none⟩) n n) ∧ w.heap.size ≤ g ∧ Blk w' g 9 (xs.map Value.string) ∧ Below w.heap.size w w' := by
  obtain ⟨i, hi, hz, hs, hby⟩ := info_parts info9
  have hmk := fun W : World => run_make (P := Try.prog) W 24 9 i _ Try.underlying24 hi hz .i64 .i64 n n (by omega) (by omega) (by rw [hby]; omega) (by omega)
  simp only [Int.toNat_natCast, hs] at hmk
  have HL := Lib.hid hr.len
  clear hi hz hs hby
  go_enter Try.func24, Try.ntmps24
  go_wp2
  go_loopw [4] (fun i wr => ∃ (k : Nat) (cs : List Value), k ≤ n ∧ i = .int .i64 k ∧ Blk wr w.heap.size 9 cs ∧ cs.length = n ∧ cs.take k = (xs.map Value.string).take k ∧ Below w.heap.size w wr) (fun i _ => n - (intOf i).toNat)
  case atStart =>
    refine ⟨0, _, Nat.zero_le _, rfl, Blk.new' _ _ _, ?_, rfl, (by (repeat (first | exact Below.refl _ _ | exact hb | apply Below.drew | (refine Below.alloc ?_ (by first | (simp; done) | (simp; omega) | (have := hb.size; simp at this ⊢; omega)) _) | (refine Below.setCell ?_ (by simp) _))))⟩
    simp [size_madeCells]
  case round =>
    obtain ⟨k, cs, hk, rfl, hblk, hlen, htk, hb⟩ := hrel
    have HLn := Lib.hid hlen
    have HTK := Lib.hid htk; clear htk
    by_cases hlt : k < n
    · obtain ⟨ad, y, rfl, _, _, hy, hc⟩ := RStrs.at_ ((hr.more hB).below hb) hlt
      obtain ⟨z, hd⟩ : ∃ z, wr.cell? ⟨w.heap.size, k, none⟩ = some z := ⟨_, (hblk.cell k).trans (List.getElem?_eq_getElem (by omega))⟩
      have hz := hblk.frozen k
      have HY := Lib.hid hy; clear hy hlen
      go_wp2
      go_roundw
      case rel => exact ⟨k + 1, _, by omega, by go_num, hblk.set_ k _, by rw [List.length_set]; exact HLn.out, fill_step HTK.out (by rw [HLn.out]; exact hlt) (by rw [List.getElem?_map, HY.out]; rfl), hb.setCell (by simp) _⟩
      case measure => simp [intOf]; omega
    · clear hlen
      go_wp2
      go_ret
      refine ⟨_, rfl, Nat.le_refl _, ?_, hb⟩
      have h1 := HTK.out
      rw [List.take_of_length_le (by rw [HLn.out]; omega), List.take_of_length_le (by rw [List.length_map, HL.out]; omega)] at h1
      rw [← h1]
      exact hblk
theorem eqStringS_any {A A' : Option Addr} {n c d : Nat} {xs : List ByteArray} {w : World} (hr : RStrs w w.heap.size A n xs) (hs : RStrs w w.heap.size A' n xs) (hn : n ≤ 1048576) :
    Calls Try.prog 30 #[.slice A n c, .slice A' n d] w fun e w' => e = .returned (.bool true) ∧ Below w.heap.size w w' := by
  go_enter Try.func30, Try.ntmps30
  go_wp2
  go_loopw [5] (fun i wr => ∃ k : Nat, k ≤ n ∧ i = .int .i64 k ∧ ∃ j, wr = w.drewN j) (fun i _ => n - (intOf i).toNat)
  case atStart => exact ⟨0, Nat.zero_le _, rfl, 0, rfl⟩
  case round =>
    obtain ⟨k, hk, rfl, j, rfl⟩ := hrel
    by_cases hlt : k < n
    · obtain ⟨ad, x, rfl, _, _, hx, hc⟩ := RStrs.at_ hr hlt
      obtain ⟨bd, y, rfl, _, _, hy, hd⟩ := RStrs.at_ hs hlt
      rw [hx] at hy
      injection hy with hy
      subst hy
      clear hx
      have l0 : (0 : Int) ≤ (k : Int) := by omega
      have l1 : (k : Int) < (n : Int) := by omega
      have ht : (!(x.toList == x.toList)) = false := by simp
      have ht' : (x.toList != x.toList) = false := by simp
      go_wp2
      go_quiet (fail)
      go_wp2
      go_roundw
      case rel => exact ⟨k + 1, by omega, by go_num, _, rfl⟩
      case measure => simp [intOf]; omega
    · go_wp2
      go_ret
      exact ⟨rfl, below_drewN (Below.refl _ _) _⟩
def seqT (k : Int) (n : Nat) : List ByteArray := (List.range n).map fun j : Nat => markS (k + (j : Int))
theorem seqT_len (k : Int) (n : Nat) : (seqT k n).length = n := by simp [seqT]
theorem seqT_get (k : Int) {n j : Nat} (h : j < n) : (seqT k n)[j]? = some (markS (k + (j : Int))) := by simp [seqT, h]
theorem grown_of_belowT {w w' : World} {row : Option Nat} (h : Below w.heap.size w w') : w.grownBy w' row := ⟨h.os, h.tape, h.output, h.size, fun i hi _ => h.block i hi⟩
theorem markStringS_any (v : Value) (n B : Nat) (xs : List ByteArray) (k : Int) (w : World) (h : OwnT w B v n xs) (hn : n ≤ 1048576) (hk : 1 ≤ k ∧ k ≤ 100000000) :
    Calls Try.prog 34 #[v, .int .i64 k] w fun e w' => e = .returned (.int .i64 (k + n)) ∧ OwnT w' B v n (seqT k n) ∧ w.grownBy w' v.ownBlock := by
  have hl := h.len
  obtain ⟨hlen, hform⟩ := h
  rcases hform with ⟨rfl, rfl⟩ | ⟨g, cap, cur, rfl, hB, hg, rest⟩
  · go_enter Try.func34, Try.ntmps34
    go_wp2
    go_loop [1, 5] (fun q i => i = .int .i64 0 ∧ q = .int .i64 k) (fun _ _ => 0)
    case atStart => exact ⟨rfl, rfl⟩
    case round =>
      obtain ⟨rfl, rfl⟩ := hrel
      go_wp2
      go_ret
      exact ⟨ret_int (by simp), World.ownsRow_nil _ _ _ _, grown_refl _ _⟩
  · have h : OwnT w B (.slice (some ⟨g, 0, none⟩) n cap) n xs := ⟨hlen, .inr ⟨g, cap, cur, rfl, hB, hg, rest⟩⟩
    clear hlen hg rest
    have HL := Lib.hid hl; clear hl
    go_enter Try.func34, Try.ntmps34
    go_wp2
    go_loopw [1, 5] (fun q i wr => ∃ (j : Nat) (ys : List ByteArray), j ≤ n ∧ i = .int .i64 j ∧ q = .int .i64 (k + j) ∧ OwnT wr B (.slice (some ⟨g, 0, none⟩) n cap) n ys ∧ ys.take j = (seqT k n).take j ∧ w.grownBy wr (some g)) (fun _ i _ => n - (intOf i).toNat)
    case atStart => exact ⟨0, xs, Nat.zero_le _, rfl, by simp, h, by simp, grown_refl _ _⟩
    case round =>
      obtain ⟨j, ys, hj, rfl, rfl, hown, htk, hgr⟩ := hrel
      have HT := Lib.hid htk; clear htk
      have HY := Lib.hid hown.len
      by_cases hlt : j < n
      · go_wp2_with fail
        refine (markText_any _ _ (by omega)).mono ?_
        rintro e1 w0 ⟨rfl, hn1⟩
        replace hown : OwnT w0 B (.slice (some ⟨g, 0, none⟩) n cap) n ys := row_step hown hn1
        replace hgr := grown_trans hgr (grown_of_belowT hn1)
        clear hn1
        obtain ⟨z, hd⟩ : ∃ z, w0.cell? ⟨g, j, none⟩ = some z := ⟨_, (hown.cellAt j (by omega)).trans (List.getElem?_eq_getElem (by rw [List.length_map, HY.out]; exact hlt))⟩
        have hz := hown.frozenAt j
        go_wp2_with fail
        go_roundw
        case rel =>
          obtain ⟨s1, s2⟩ := hown.stored j (.string (markS (k + j)))
          refine ⟨j + 1, ys.set j (markS (k + j)), by omega, by go_num, by go_num, ?_, ?_, grown_trans hgr s2⟩
          · rw [← List.map_set] at s1
            exact s1
          · rw [List.take_add_one, List.take_add_one, seqT_get k hlt, List.take_set_of_le (Nat.le_refl j), HT.out, List.getElem?_set_self (by rw [HY.out]; exact hlt)]
        case measure => simp [intOf]; omega
      · go_wp2_with fail
        go_ret
        have hjn : j = n := by omega
        subst hjn
        have h1 := HT.out
        rw [List.take_of_length_le (by rw [HY.out]; omega), List.take_of_length_le (by rw [seqT_len]; omega)] at h1
        rw [← h1]
        exact ⟨rfl, hown, hgr⟩
set_option maxRecDepth 100000 in
theorem heldStringS_any (A : Option Addr) (n c : Nat) (k : Int) (w : World) (hr : RStrs w w.heap.size A n (seqT k n)) (hn : n ≤ 1048576) (hk : 1 ≤ k ∧ k ≤ 100000000) :
    Calls Try.prog 36 #[.slice A n c, .int .i64 k] w fun e w' => e = .returned (.int .i64 (k + n)) ∧ Below w.heap.size w w' := by
  go_enter Try.func36, Try.ntmps36
  go_wp2
  go_loopw [1, 5] (fun q i wr => ∃ j : Nat, j ≤ n ∧ i = .int .i64 j ∧ q = .int .i64 (k + j) ∧ Below w.heap.size w wr) (fun _ i _ => n - (intOf i).toNat)
  case atStart => exact ⟨0, Nat.zero_le _, rfl, by simp, Below.refl _ _⟩
  case round =>
    obtain ⟨j, hj, rfl, rfl, hb⟩ := hrel
    by_cases hlt : j < n
    · have l0 : (0 : Int) ≤ (j : Int) := by omega
      have l1 : (j : Int) < (n : Int) := by omega
      obtain ⟨ad, m, rfl, had, _, hy, hc⟩ := RStrs.at_ (RStrs.below hr hb) hlt
      rw [seqT_get k hlt] at hy
      injection hy with hy
      subst hy
      have hbz := hb.size
      have q0 : ∀ x : Later wr.heap.size wr, x.wx.cell? (ad.add j) = some (.string (markS (k + ↑j))) := fun x => (x.ok.cell (by rw [block_of_add]; omega)).trans hc
      have f1 : ((markS (k + ↑j)).toList != (markS (k + ↑j)).toList) = false := by simp
      have f2 : ((markS (k + ↑j)).toList == (markS (k + ↑j)).toList) = true := by simp
      have hkk : 1 ≤ k + (j : Int) ∧ k + (j : Int) ≤ 1000000000 := by omega
      go_wp2_with fail
      refine quiet_start (wr.heap.size) (by kernel_rfl) (by kernel_rfl) ?_; (repeat (go_big_quiet_step ((go_at_call 32; exact later_call (Nat.le_refl _) (markText_any _ _ hkk))))); refine wpQuiet_nil ?_; rintro wx ⟨⟨wy, hn⟩, rfl⟩; (try dsimp only)
      replace hb := hb.trans (hn.mono hbz)
      clear hn q0 f1 f2 hkk hc
      go_wp2_with fail
      go_roundw
      case rel => exact ⟨j + 1, by omega, by go_num, by go_num, hb⟩
      case measure => simp [intOf]; omega
    · have hjn : j = n := by omega
      subst hjn
      go_wp2
      go_ret
      exact ⟨rfl, hb⟩
def totT : List ByteArray → Nat
  | [] => 0
  | s :: r => s.size + totT r
def szLT : List ByteArray → Int → Int
  | [], l => l
  | s :: r, l => if l < s.size then -1 else szLT r (l - s.size)
def szST (xs : List ByteArray) (l : Int) : Int := if l < xs.length then -1 else szLT xs (l - xs.length)
theorem szLT_ok : ∀ {xs : List ByteArray} {l : Int}, 0 ≤ szLT xs l → 0 ≤ l → szLT xs l ≤ l ∧ ∀ m ∈ xs, ((m.size : Nat) : Int) ≤ l
  | [], l, _, hl => by simp [szLT]
  | m :: r, l, h, hl => by
    unfold szLT at h ⊢
    split at h
    · omega
    · rename_i q
      have ih := szLT_ok h (by omega)
      rw [if_neg q]
      refine ⟨by omega, fun y hy => ?_⟩
      rcases List.mem_cons.1 hy with rfl | hy
      · omega
      · have := ih.2 y hy; omega
theorem szST_ok {xs : List ByteArray} {l : Int} (h : 0 ≤ szST xs l) (_ : 0 ≤ l) : xs.length ≤ l ∧ szST xs l ≤ l ∧ ∀ m ∈ xs, ((m.size : Nat) : Int) ≤ l := by
  unfold szST at *
  split at h
  · omega
  · rename_i q
    have g := szLT_ok h (by omega)
    rw [if_neg q]
    refine ⟨by omega, by omega, fun y hy => ?_⟩
    have := g.2 y hy
    omega
theorem szStringS_any {A : Option Addr} {n cp : Nat} {xs : List ByteArray} {l : Int} {w : World} (hr : RStrs w w.heap.size A n xs) (hn : n ≤ 9223372036854775807) (hL : ∀ m ∈ xs, m.size ≤ maxLen) (_ : 0 ≤ l ∧ l ≤ 1048576) :
    Calls Try.prog 17 #[.slice A n cp, .int .i64 l] w fun e w' => e = .returned (.int .i64 (szST xs l)) ∧ w = w' := by
  have HL := Lib.hid hr.len
  have HX := Lib.hid hL
  clear hL
  by_cases q : l < n
  · go_enter Try.func17, Try.ntmps17
    go_wp2_with fail
    go_ret
    exact ⟨ret_int (by rw [szST, if_pos (by rw [HL.out]; exact q)]), rfl⟩
  · have HF := Lib.hid (show szST xs l = szLT xs (l - n) by rw [szST, if_neg (by rw [HL.out]; exact q), HL.out])
    have l1 : 0 ≤ l - n ∧ l - n ≤ 1048576 := by omega
    go_enter Try.func17, Try.ntmps17
    go_wp2_with fail
    go_loop [1, 5] (fun q i => ∃ (k : Nat) (t : Int), k ≤ n ∧ i = .int .i64 k ∧ q = .int .i64 t ∧ 0 ≤ t ∧ t ≤ 1048576 ∧ szLT (xs.drop k) t = szLT xs (l - n)) (fun _ i => n - (intOf i).toNat)
    case atStart => exact ⟨0, l - n, Nat.zero_le _, rfl, rfl, by omega, by omega, rfl⟩
    case round =>
      obtain ⟨k, t, hk, rfl, rfl, t0, t1, hR⟩ := hrel
      by_cases hlt : k < n
      · obtain ⟨ad, m, rfl, _, hd, hy, hc⟩ := RStrs.at_ hr hlt
        have hx := HX.out m (List.mem_of_getElem? hy)
        unfold maxLen at hx
        have HR := Lib.hid (show (if t < m.size then -1 else szLT (xs.drop (k + 1)) (t - m.size)) = szLT xs (l - n) by rw [← hR, hd, szLT])
        clear hR hd hy
        by_cases q1 : t < m.size
        · have HS := Lib.hid (show szLT xs (l - n) = -1 by rw [← HR.out, if_pos q1])
          go_wp2_with fail
          go_ret
          exact ⟨ret_int (by rw [HF.out, HS.out]), rfl⟩
        · have HS := Lib.hid (show szLT (xs.drop (k + 1)) (t - m.size) = szLT xs (l - n) by rw [← HR.out, if_neg q1])
          go_wp2_with fail
          go_round
          case rel => exact ⟨k + 1, _, by omega, by go_num, rfl, by omega, by omega, HS.out⟩
          case measure => simp [intOf]; omega
      · have HS := Lib.hid (show t = szLT xs (l - n) by rw [← hR, drop_end HL.out hlt]; rfl)
        clear hR
        go_wp2_with fail
        go_ret
        exact ⟨ret_int (by rw [HF.out, ← HS.out]), rfl⟩
end Go.Proofs.Ytfdmenhnejfhjaa
