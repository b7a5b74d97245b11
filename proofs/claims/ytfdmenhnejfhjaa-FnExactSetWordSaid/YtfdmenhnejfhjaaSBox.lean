/-
  The lists of Box: their cells, and the contracts of the laws' own helpers on them. Printed by program.
-/
import Derived.Test.YtfdmenhnejfhjaaStr
import Derived.Deep.RegionHeld3
namespace Go.Proofs.Ytfdmenhnejfhjaa
open Go.RowKit
structure Bx where
  code : ByteArray
  line : Int
  column : Int
  count : Int

def Bx.row (m : Bx) : List Value := [.string m.code, .int .i64 m.line, .int .i64 m.column, .int .i64 m.count]
def Bx.agg (m : Bx) : Value := .agg #[.string m.code, .int .i64 m.line, .int .i64 m.column, .int .i64 m.count]
def RBxs (w : World) (B : Nat) (A : Option Addr) (n : Nat) (ms : List Bx) : Prop := RRow w B 4 A n (ms.map Bx.row)
theorem RBxs.at_ {w : World} {B : Nat} {A : Option Addr} {n k : Nat} {ms : List Bx} (h : RBxs w B A n ms) (hk : k < n) : ∃ b off m, A = some ⟨b, off, none⟩ ∧ b < B ∧ ms.drop k = m :: ms.drop (k + 1) ∧ ms[k]? = some m ∧
    w.cell? ⟨b, off + k * 4, none⟩ = some (.string m.code) ∧ w.cell? ⟨b, off + k * 4 + 1, none⟩ = some (.int .i64 m.line) ∧ w.cell? ⟨b, off + k * 4 + 2, none⟩ = some (.int .i64 m.column) ∧ w.cell? ⟨b, off + k * 4 + 3, none⟩ = some (.int .i64 m.count) := by
  obtain ⟨b, off, row, hA, hb, _, hr, _, hc⟩ := RRow.at_ h hk (by omega)
  have hl : k < ms.length := by have := h.1; simp at this; omega
  rw [List.getElem?_map, List.getElem?_eq_getElem hl] at hr
  injection hr with hr
  subst hr
  exact ⟨b, off, ms[k], hA, hb, List.drop_eq_getElem_cons hl, List.getElem?_eq_getElem hl, hc 0 _ rfl, hc 1 _ rfl, hc 2 _ rfl, hc 3 _ rfl⟩
theorem RBxs.len {w : World} {B : Nat} {A : Option Addr} {n : Nat} {ms : List Bx} (h : RBxs w B A n ms) : ms.length = n := by have := h.1; simpa using this
theorem RBxs.below {w w' : World} {B : Nat} {A : Option Addr} {n : Nat} {ms : List Bx} (h : RBxs w B A n ms) (hb : Below B w w') : RBxs w' B A n ms := RRow.below h hb
theorem RBxs.more {w : World} {B B' : Nat} {A : Option Addr} {n : Nat} {ms : List Bx} (h : RBxs w B A n ms) (hB : B ≤ B') : RBxs w B' A n ms := RRow.more h hB
theorem RBxs.of_blk {w : World} {g n : Nat} {ms : List Bx} (h : Blk w g 71 (ms.map Bx.row).flatten) (hl : ms.length = n) : RBxs w w.heap.size (some ⟨g, 0, none⟩) n ms := ⟨by simpa using hl, by simp [Bx.row], h.reads (by rw [flatten_len (size := 4) (by simp [Bx.row]), List.length_map, hl])⟩
theorem RBxs.of_own {w : World} {base n c : Nat} {A : Option Addr} {ms : List Bx} (h : w.ownsRow base 71 4 (.slice A n c) n (ms.map Bx.row).flatten) : RBxs w w.heap.size A n ms := ⟨by have := h.1; rw [flatten_len (size := 4) (by simp [Bx.row]), List.length_map] at this; rw [List.length_map]; omega, by simp [Bx.row], Reads.of_own h⟩
theorem infoBox : (Try.prog.info? 71).map (fun i => (i.zero, i.size, i.bytes)) = some (some (.agg #[.string ⟨#[]⟩, .int .i64 0, .int .i64 0, .int .i64 0]), 4, 40) := by kernel_rfl
theorem toBox_any (code : ByteArray) (line : Int) (column : Int) (count : Int) (w : World) : Calls Try.prog 45 #[.agg #[.string code, .int .i64 line, .int .i64 column, .int .i64 count]] w fun e w' => e = .returned (.agg #[.string code, .int .i64 line, .int .i64 column, .int .i64 count]) ∧ Below w.heap.size w w' := by
  go_enter Try.func45, Try.ntmps45
  go_wp2
  exact bodyPost_ret (v := .agg #[.string code, .int .i64 line, .int .i64 column, .int .i64 count]) (by simp [results, Try.results45, go_sem]) rfl ⟨rfl, (by (repeat (first | exact Below.refl _ _ | exact hb | apply Below.drew | (refine Below.alloc ?_ (by first | (simp; done) | (simp; omega) | (have := hb.size; simp at this ⊢; omega)) _) | (refine Below.setCell ?_ (by simp) _))))⟩
theorem toBoxS_any (A : Option Addr) (n c B : Nat) (ms : List Bx) (w : World) (hr : RBxs w B A n ms) (hB : B ≤ w.heap.size) (hn : n ≤ 1048576) :
    Calls Try.prog 23 #[.slice A n c] w fun e w' => ∃ g, e = .returned (.slice (some ⟨g, 0, none⟩) n n) ∧ w.heap.size ≤ g ∧ Blk w' g 71 (ms.map Bx.row).flatten ∧ Below w.heap.size w w' := by
  obtain ⟨i, hi, hz, hs, hby⟩ := info_parts infoBox
  have hmk := fun W : World => run_make (P := Try.prog) W 29 71 i _ Try.underlying29 hi hz .i64 .i64 n n (by omega) (by omega) (by rw [hby]; omega) (by omega)
  simp only [Int.toNat_natCast, hs] at hmk
  have HL := Lib.hid hr.len
  clear hi hz hs hby
  go_enter Try.func23, Try.ntmps23
  go_wp2
  go_loopw [4] (fun i wr => ∃ (k : Nat) (cs : List Value), k ≤ n ∧ i = .int .i64 k ∧ Blk wr w.heap.size 71 cs ∧ cs.length = n * 4 ∧ cs.take (k * 4) = (ms.map Bx.row).flatten.take (k * 4) ∧ Below w.heap.size w wr) (fun i _ => n - (intOf i).toNat)
  case atStart =>
    refine ⟨0, _, Nat.zero_le _, rfl, Blk.new' _ _ _, ?_, by simp, (by (repeat (first | exact Below.refl _ _ | exact hb | apply Below.drew | (refine Below.alloc ?_ (by first | (simp; done) | (simp; omega) | (have := hb.size; simp at this ⊢; omega)) _) | (refine Below.setCell ?_ (by simp) _))))⟩
    simp [size_madeCells]
  case round =>
    obtain ⟨k, cs, hk, rfl, hblk, hlen, htk, hb⟩ := hrel
    have HLn := Lib.hid hlen
    have HTK := Lib.hid htk; clear htk
    by_cases hlt : k < n
    · obtain ⟨b, off, m, rfl, _, _, hy, c0, c1, c2, c3⟩ := RBxs.at_ ((RRow.more hr hB).below hb) hlt
      have hf : ∀ j, j < 4 → (ms.map Bx.row).flatten[k * 4 + j]? = m.row[j]? := fun j hj => flatten_at hr.2.1 (by rw [List.getElem?_map, hy]; rfl) j hj
      have HF := Lib.hid hf; clear hf
      go_wp2_with fail; refine (toBox_any _ _ _ _ _).mono ?_; rintro e1 w1 ⟨rfl, hn1⟩; replace hb := hb.trans (hn1.mono hb.size); replace hblk := hblk.below hn1 hblk.lt; clear hn1 c0 c1 c2 c3
      obtain ⟨z0, d0⟩ : ∃ z, w1.cell? ⟨w.heap.size, k * 4, none⟩ = some z := ⟨_, (hblk.cell _).trans (List.getElem?_eq_getElem (by have := HLn.out; omega))⟩
      obtain ⟨z1, d1⟩ : ∃ z, w1.cell? ⟨w.heap.size, k * 4 + 1, none⟩ = some z := ⟨_, (hblk.cell _).trans (List.getElem?_eq_getElem (by have := HLn.out; omega))⟩
      obtain ⟨z2, d2⟩ : ∃ z, w1.cell? ⟨w.heap.size, k * 4 + 2, none⟩ = some z := ⟨_, (hblk.cell _).trans (List.getElem?_eq_getElem (by have := HLn.out; omega))⟩
      obtain ⟨z3, d3⟩ : ∃ z, w1.cell? ⟨w.heap.size, k * 4 + 3, none⟩ = some z := ⟨_, (hblk.cell _).trans (List.getElem?_eq_getElem (by have := HLn.out; omega))⟩
      have y0 := hblk.frozen (k * 4)
      have y1 := hblk.frozen (k * 4 + 1)
      have y2 := hblk.frozen (k * 4 + 2)
      have y3 := hblk.frozen (k * 4 + 3)
      clear hy
      go_wp2_with fail
      go_roundw
      case rel =>
        refine ⟨k + 1, _, by omega, by go_num, ((((hblk).set_ _ _).set_ _ _).set_ _ _).set_ _ _, by simp only [List.length_set]; exact HLn.out, ?_, ((((hb).setCell (by simp) _).setCell (by simp) _).setCell (by simp) _).setCell (by simp) _⟩
        have hl := HLn.out
        rw [show (k + 1) * 4 = k * 4 + 1 + 1 + 1 + 1 by omega]
        exact fill_step (fill_step (fill_step (fill_step HTK.out (by omega) (HF.out 0 (by omega))) (by simp only [List.length_set]; omega) (HF.out 1 (by omega))) (by simp only [List.length_set]; omega) (HF.out 2 (by omega))) (by simp only [List.length_set]; omega) (HF.out 3 (by omega))
      case measure => simp [intOf]; omega
    · go_wp2_with fail
      go_ret
      refine ⟨_, rfl, Nat.le_refl _, ?_, hb⟩
      have h1 := HTK.out
      have h2 : (ms.map Bx.row).flatten.length = n * 4 := hr.2.2.1
      rw [List.take_of_length_le (by rw [HLn.out]; omega), List.take_of_length_le (by rw [h2]; omega)] at h1
      rw [← h1]
      exact hblk
theorem eqBox_any (code : ByteArray) (line : Int) (column : Int) (count : Int) (w : World) : Calls Try.prog 52 #[.agg #[.string code, .int .i64 line, .int .i64 column, .int .i64 count], .agg #[.string code, .int .i64 line, .int .i64 column, .int .i64 count]] w fun e w' => e = .returned (.bool true) ∧ Below w.heap.size w w' := by
  have hx := (Blk.new' w 71 #[.string code, .int .i64 line, .int .i64 column, .int .i64 count]).alloc (.cells #[.string code, .int .i64 line, .int .i64 column, .int .i64 count] 71)
  have hy : Blk ((w.alloc (.cells #[.string code, .int .i64 line, .int .i64 column, .int .i64 count] 71)).alloc (.cells #[.string code, .int .i64 line, .int .i64 column, .int .i64 count] 71)) (w.heap.size + 1) 71 [.string code, .int .i64 line, .int .i64 column, .int .i64 count] := by simpa using Blk.new' (w.alloc (.cells #[.string code, .int .i64 line, .int .i64 column, .int .i64 count] 71)) 71 #[.string code, .int .i64 line, .int .i64 column, .int .i64 count]
  have c0 : _ = some (Value.string code) := hx.cell 0
  have d0 : _ = some (Value.string code) := hy.cell 0
  have c1 : _ = some (Value.int .i64 line) := hx.cell 1
  have d1 : _ = some (Value.int .i64 line) := hy.cell 1
  have c2 : _ = some (Value.int .i64 column) := hx.cell 2
  have d2 : _ = some (Value.int .i64 column) := hy.cell 2
  have c3 : _ = some (Value.int .i64 count) := hx.cell 3
  have d3 : _ = some (Value.int .i64 count) := hy.cell 3
  have n_code : (code.toList != code.toList) = false := by simp
  have q_code : (code.toList == code.toList) = true := by simp
  have n_line : (line != line) = false := by simp
  have q_line : (line == line) = true := by simp
  have n_column : (column != column) = false := by simp
  have q_column : (column == column) = true := by simp
  have n_count : (count != count) = false := by simp
  have q_count : (count == count) = true := by simp
  go_enter Try.func52, Try.ntmps52
  go_wp2
  all_goals exact bodyPost_ret (v := .bool true) (by simp [results, Try.results52, go_sem]) rfl ⟨rfl, (by (repeat (first | exact Below.refl _ _ | exact hb | apply Below.drew | (refine Below.alloc ?_ (by first | (simp; done) | (simp; omega) | (have := hb.size; simp at this ⊢; omega)) _) | (refine Below.setCell ?_ (by simp) _))))⟩
theorem eqBoxS_any (A A' : Option Addr) (n c d B C : Nat) (ms : List Bx) (w : World) (hr0 : RBxs w B A n ms) (hs0 : RBxs w C A' n ms) (hB : B ≤ w.heap.size) (hC : C ≤ w.heap.size) (hn : n ≤ 1048576) :
    Calls Try.prog 29 #[.slice A n c, .slice A' n d] w fun e w' => e = .returned (.bool true) ∧ Below w.heap.size w w' := by
  have hr := hr0.more hB
  have hs := hs0.more hC
  clear hr0 hs0 hB hC
  go_enter Try.func29, Try.ntmps29
  go_wp2
  go_loopw [5] (fun i wr => ∃ k : Nat, k ≤ n ∧ i = .int .i64 k ∧ Below w.heap.size w wr) (fun i _ => n - (intOf i).toNat)
  case atStart => exact ⟨0, Nat.zero_le _, rfl, Below.refl _ _⟩
  case round =>
    obtain ⟨k, hk, rfl, hb⟩ := hrel
    by_cases hlt : k < n
    · obtain ⟨b1, o1, m, rfl, hb1, _, hx, _⟩ := RBxs.at_ hr hlt
      obtain ⟨b2, o2, m', rfl, hb2, _, hy, _⟩ := RBxs.at_ hs hlt
      have hm : m = m' := by rw [hx] at hy; injection hy
      subst hm
      have hcells : ∀ wx, Below w.heap.size w wx → wx.cell? ⟨b1, o1 + k * 4, none⟩ = some (.string m.code) ∧ wx.cell? ⟨b1, o1 + k * 4 + 1, none⟩ = some (.int .i64 m.line) ∧ wx.cell? ⟨b1, o1 + k * 4 + 2, none⟩ = some (.int .i64 m.column) ∧ wx.cell? ⟨b1, o1 + k * 4 + 3, none⟩ = some (.int .i64 m.count) ∧ wx.cell? ⟨b2, o2 + k * 4, none⟩ = some (.string m.code) ∧ wx.cell? ⟨b2, o2 + k * 4 + 1, none⟩ = some (.int .i64 m.line) ∧ wx.cell? ⟨b2, o2 + k * 4 + 2, none⟩ = some (.int .i64 m.column) ∧ wx.cell? ⟨b2, o2 + k * 4 + 3, none⟩ = some (.int .i64 m.count) := by
        intro wx hbx
        obtain ⟨b1', o1', m1, e1, _, _, hx1, c0, c1, c2, c3⟩ := RBxs.at_ (RRow.below hr hbx) hlt
        obtain ⟨b2', o2', m2, e2, _, _, hx2, d0, d1, d2, d3⟩ := RBxs.at_ (RRow.below hs hbx) hlt
        simp only [Option.some.injEq, Addr.mk.injEq, and_true] at e1 e2
        obtain ⟨rfl, rfl⟩ := e1
        obtain ⟨rfl, rfl⟩ := e2
        rw [hx] at hx1 hx2
        injection hx1 with hx1
        injection hx2 with hx2
        subst hx1 hx2
        exact ⟨c0, c1, c2, c3, d0, d1, d2, d3⟩
      have HC := Lib.hid hcells
      clear hx hy hcells
      have l0 : (0 : Int) ≤ (k : Int) := by omega
      have l1 : (k : Int) < (n : Int) := by omega
      go_wp2_with fail
      go_region_held3 (fun wx => Below w.heap.size w wx ∧ wx.cell? ⟨b1, o1 + k * 4, none⟩ = some (.string m.code) ∧ wx.cell? ⟨b1, o1 + k * 4 + 1, none⟩ = some (.int .i64 m.line) ∧ wx.cell? ⟨b1, o1 + k * 4 + 2, none⟩ = some (.int .i64 m.column) ∧ wx.cell? ⟨b1, o1 + k * 4 + 3, none⟩ = some (.int .i64 m.count) ∧ wx.cell? ⟨b2, o2 + k * 4, none⟩ = some (.string m.code) ∧ wx.cell? ⟨b2, o2 + k * 4 + 1, none⟩ = some (.int .i64 m.line) ∧ wx.cell? ⟨b2, o2 + k * 4 + 2, none⟩ = some (.int .i64 m.column) ∧ wx.cell? ⟨b2, o2 + k * 4 + 3, none⟩ = some (.int .i64 m.count)) ((first | exact ⟨hb.drew, HC.out _ hb.drew⟩ | (have hh : Below _ _ _ ∧ _ := (by assumption); have hh0 := hh.1.trans (hn1.mono hh.1.size); exact ⟨hh0, HC.out _ hh0⟩) | assumption | go_keep))
        ((go_at_call 52; refine (eqBox_any _ _ _ _ _).mono ?_; rintro e1 w1 ⟨rfl, hn1⟩))
      have hh : Below _ _ _ ∧ _ := (by assumption)
      replace hb := hh.1
      clear hh
      go_wp2_with fail
      go_roundw
      case rel => exact ⟨k + 1, by omega, by go_num, hb⟩
      case measure => simp [intOf]; omega
    · go_wp2_with fail
      go_ret
      exact ⟨rfl, hb⟩
end Go.Proofs.Ytfdmenhnejfhjaa
