/-
  The lists of Misput: their cells, and the contracts of the laws' own helpers on them. Printed by program.
-/
import Derived.Test.YtjcopempjanhhaaStr
import Derived.Deep.RegionHeld3
namespace Go.Proofs.Ytjcopempjanhhaa
open Go.RowKit
structure Msp where
  code : ByteArray
  into : ByteArray
  nn : Int

def Msp.row (m : Msp) : List Value := [.string m.code, .string m.into, .int .i64 m.nn]
def Msp.agg (m : Msp) : Value := .agg #[.string m.code, .string m.into, .int .i64 m.nn]
def RMsps (w : World) (B : Nat) (A : Option Addr) (n : Nat) (ms : List Msp) : Prop := RRow w B 3 A n (ms.map Msp.row)
theorem RMsps.at_ {w : World} {B : Nat} {A : Option Addr} {n k : Nat} {ms : List Msp} (h : RMsps w B A n ms) (hk : k < n) : ∃ b off m, A = some ⟨b, off, none⟩ ∧ b < B ∧ ms.drop k = m :: ms.drop (k + 1) ∧ ms[k]? = some m ∧
    w.cell? ⟨b, off + k * 3, none⟩ = some (.string m.code) ∧ w.cell? ⟨b, off + k * 3 + 1, none⟩ = some (.string m.into) ∧ w.cell? ⟨b, off + k * 3 + 2, none⟩ = some (.int .i64 m.nn) := by
  obtain ⟨b, off, row, hA, hb, _, hr, _, hc⟩ := RRow.at_ h hk (by omega)
  have hl : k < ms.length := by have := h.1; simp at this; omega
  rw [List.getElem?_map, List.getElem?_eq_getElem hl] at hr
  injection hr with hr
  subst hr
  exact ⟨b, off, ms[k], hA, hb, List.drop_eq_getElem_cons hl, List.getElem?_eq_getElem hl, hc 0 _ rfl, hc 1 _ rfl, hc 2 _ rfl⟩
theorem RMsps.len {w : World} {B : Nat} {A : Option Addr} {n : Nat} {ms : List Msp} (h : RMsps w B A n ms) : ms.length = n := by have := h.1; simpa using this
theorem RMsps.below {w w' : World} {B : Nat} {A : Option Addr} {n : Nat} {ms : List Msp} (h : RMsps w B A n ms) (hb : Below B w w') : RMsps w' B A n ms := RRow.below h hb
theorem RMsps.more {w : World} {B B' : Nat} {A : Option Addr} {n : Nat} {ms : List Msp} (h : RMsps w B A n ms) (hB : B ≤ B') : RMsps w B' A n ms := RRow.more h hB
theorem RMsps.of_blk {w : World} {g n : Nat} {ms : List Msp} (h : Blk w g 106 (ms.map Msp.row).flatten) (hl : ms.length = n) : RMsps w w.heap.size (some ⟨g, 0, none⟩) n ms := ⟨by simpa using hl, by simp [Msp.row], h.reads (by rw [flatten_len (size := 3) (by simp [Msp.row]), List.length_map, hl])⟩
theorem RMsps.of_own {w : World} {base n c : Nat} {A : Option Addr} {ms : List Msp} (h : w.ownsRow base 106 3 (.slice A n c) n (ms.map Msp.row).flatten) : RMsps w w.heap.size A n ms := ⟨by have := h.1; rw [flatten_len (size := 3) (by simp [Msp.row]), List.length_map] at this; rw [List.length_map]; omega, by simp [Msp.row], Reads.of_own h⟩
theorem infoMisput : (Try.prog.info? 106).map (fun i => (i.zero, i.size, i.bytes)) = some (some (.agg #[.string ⟨#[]⟩, .string ⟨#[]⟩, .int .i64 0]), 3, 40) := by kernel_rfl
theorem toMisput_any (code : ByteArray) (into : ByteArray) (nn : Int) (w : World) : Calls Try.prog 92 #[.agg #[.string code, .string into, .int .i64 nn]] w fun e w' => e = .returned (.agg #[.string code, .string into, .int .i64 nn]) ∧ Below w.heap.size w w' := by
  go_enter Try.func92, Try.ntmps92
  go_wp2
  exact bodyPost_ret (v := .agg #[.string code, .string into, .int .i64 nn]) (by simp [results, Try.results92, go_sem]) rfl ⟨rfl, (by (repeat (first | exact Below.refl _ _ | exact hb | apply Below.drew | (refine Below.alloc ?_ (by first | (simp; done) | (simp; omega) | (have := hb.size; simp at this ⊢; omega)) _) | (refine Below.setCell ?_ (by simp) _))))⟩
theorem toMisputS_any (A : Option Addr) (n c B : Nat) (ms : List Msp) (w : World) (hr : RMsps w B A n ms) (hB : B ≤ w.heap.size) (hn : n ≤ 1048576) :
    Calls Try.prog 45 #[.slice A n c] w fun e w' => ∃ g, e = .returned (.slice (some ⟨g, 0, none⟩) n n) ∧ w.heap.size ≤ g ∧ Blk w' g 106 (ms.map Msp.row).flatten ∧ Below w.heap.size w w' := by
  obtain ⟨i, hi, hz, hs, hby⟩ := info_parts infoMisput
  have hmk := fun W : World => run_make (P := Try.prog) W 56 106 i _ Try.underlying56 hi hz .i64 .i64 n n (by omega) (by omega) (by rw [hby]; omega) (by omega)
  simp only [Int.toNat_natCast, hs] at hmk
  have HL := Lib.hid hr.len
  clear hi hz hs hby
  go_enter Try.func45, Try.ntmps45
  go_wp2
  go_loopw [4] (fun i wr => ∃ (k : Nat) (cs : List Value), k ≤ n ∧ i = .int .i64 k ∧ Blk wr w.heap.size 106 cs ∧ cs.length = n * 3 ∧ cs.take (k * 3) = (ms.map Msp.row).flatten.take (k * 3) ∧ Below w.heap.size w wr) (fun i _ => n - (intOf i).toNat)
  case atStart =>
    refine ⟨0, _, Nat.zero_le _, rfl, Blk.new' _ _ _, ?_, by simp, (by (repeat (first | exact Below.refl _ _ | exact hb | apply Below.drew | (refine Below.alloc ?_ (by first | (simp; done) | (simp; omega) | (have := hb.size; simp at this ⊢; omega)) _) | (refine Below.setCell ?_ (by simp) _))))⟩
    simp [size_madeCells]
  case round =>
    obtain ⟨k, cs, hk, rfl, hblk, hlen, htk, hb⟩ := hrel
    have HLn := Lib.hid hlen
    have HTK := Lib.hid htk; clear htk
    by_cases hlt : k < n
    · obtain ⟨b, off, m, rfl, _, _, hy, c0, c1, c2⟩ := RMsps.at_ ((RRow.more hr hB).below hb) hlt
      have hf : ∀ j, j < 3 → (ms.map Msp.row).flatten[k * 3 + j]? = m.row[j]? := fun j hj => flatten_at hr.2.1 (by rw [List.getElem?_map, hy]; rfl) j hj
      have HF := Lib.hid hf; clear hf
      go_wp2_with fail; refine (toMisput_any _ _ _ _).mono ?_; rintro e1 w1 ⟨rfl, hn1⟩; replace hb := hb.trans (hn1.mono hb.size); replace hblk := hblk.below hn1 hblk.lt; clear hn1 c0 c1 c2
      obtain ⟨z0, d0⟩ : ∃ z, w1.cell? ⟨w.heap.size, k * 3, none⟩ = some z := ⟨_, (hblk.cell _).trans (List.getElem?_eq_getElem (by have := HLn.out; omega))⟩
      obtain ⟨z1, d1⟩ : ∃ z, w1.cell? ⟨w.heap.size, k * 3 + 1, none⟩ = some z := ⟨_, (hblk.cell _).trans (List.getElem?_eq_getElem (by have := HLn.out; omega))⟩
      obtain ⟨z2, d2⟩ : ∃ z, w1.cell? ⟨w.heap.size, k * 3 + 2, none⟩ = some z := ⟨_, (hblk.cell _).trans (List.getElem?_eq_getElem (by have := HLn.out; omega))⟩
      have y0 := hblk.frozen (k * 3)
      have y1 := hblk.frozen (k * 3 + 1)
      have y2 := hblk.frozen (k * 3 + 2)
      clear hy
      go_wp2_with fail
      go_roundw
      case rel =>
        refine ⟨k + 1, _, by omega, by go_num, (((hblk).set_ _ _).set_ _ _).set_ _ _, by simp only [List.length_set]; exact HLn.out, ?_, (((hb).setCell (by simp) _).setCell (by simp) _).setCell (by simp) _⟩
        have hl := HLn.out
        rw [show (k + 1) * 3 = k * 3 + 1 + 1 + 1 by omega]
        exact fill_step (fill_step (fill_step HTK.out (by omega) (HF.out 0 (by omega))) (by simp only [List.length_set]; omega) (HF.out 1 (by omega))) (by simp only [List.length_set]; omega) (HF.out 2 (by omega))
      case measure => simp [intOf]; omega
    · go_wp2_with fail
      go_ret
      refine ⟨_, rfl, Nat.le_refl _, ?_, hb⟩
      have h1 := HTK.out
      have h2 : (ms.map Msp.row).flatten.length = n * 3 := hr.2.2.1
      rw [List.take_of_length_le (by rw [HLn.out]; omega), List.take_of_length_le (by rw [h2]; omega)] at h1
      rw [← h1]
      exact hblk
theorem eqMisput_any (code : ByteArray) (into : ByteArray) (nn : Int) (w : World) : Calls Try.prog 87 #[.agg #[.string code, .string into, .int .i64 nn], .agg #[.string code, .string into, .int .i64 nn]] w fun e w' => e = .returned (.bool true) ∧ Below w.heap.size w w' := by
  have hx := (Blk.new' w 106 #[.string code, .string into, .int .i64 nn]).alloc (.cells #[.string code, .string into, .int .i64 nn] 106)
  have hy : Blk ((w.alloc (.cells #[.string code, .string into, .int .i64 nn] 106)).alloc (.cells #[.string code, .string into, .int .i64 nn] 106)) (w.heap.size + 1) 106 [.string code, .string into, .int .i64 nn] := by simpa using Blk.new' (w.alloc (.cells #[.string code, .string into, .int .i64 nn] 106)) 106 #[.string code, .string into, .int .i64 nn]
  have c0 : _ = some (Value.string code) := hx.cell 0
  have d0 : _ = some (Value.string code) := hy.cell 0
  have c1 : _ = some (Value.string into) := hx.cell 1
  have d1 : _ = some (Value.string into) := hy.cell 1
  have c2 : _ = some (Value.int .i64 nn) := hx.cell 2
  have d2 : _ = some (Value.int .i64 nn) := hy.cell 2
  have n_code : (code.toList != code.toList) = false := by simp
  have q_code : (code.toList == code.toList) = true := by simp
  have n_into : (into.toList != into.toList) = false := by simp
  have q_into : (into.toList == into.toList) = true := by simp
  have n_nn : (nn != nn) = false := by simp
  have q_nn : (nn == nn) = true := by simp
  go_enter Try.func87, Try.ntmps87
  go_wp2
  all_goals exact bodyPost_ret (v := .bool true) (by simp [results, Try.results87, go_sem]) rfl ⟨rfl, (by (repeat (first | exact Below.refl _ _ | exact hb | apply Below.drew | (refine Below.alloc ?_ (by first | (simp; done) | (simp; omega) | (have := hb.size; simp at this ⊢; omega)) _) | (refine Below.setCell ?_ (by simp) _))))⟩
theorem eqMisputS_any (A A' : Option Addr) (n c d B C : Nat) (ms : List Msp) (w : World) (hr0 : RMsps w B A n ms) (hs0 : RMsps w C A' n ms) (hB : B ≤ w.heap.size) (hC : C ≤ w.heap.size) (hn : n ≤ 1048576) :
    Calls Try.prog 40 #[.slice A n c, .slice A' n d] w fun e w' => e = .returned (.bool true) ∧ Below w.heap.size w w' := by
  have hr := hr0.more hB
  have hs := hs0.more hC
  clear hr0 hs0 hB hC
  go_enter Try.func40, Try.ntmps40
  go_wp2
  go_loopw [5] (fun i wr => ∃ k : Nat, k ≤ n ∧ i = .int .i64 k ∧ Below w.heap.size w wr) (fun i _ => n - (intOf i).toNat)
  case atStart => exact ⟨0, Nat.zero_le _, rfl, Below.refl _ _⟩
  case round =>
    obtain ⟨k, hk, rfl, hb⟩ := hrel
    by_cases hlt : k < n
    · obtain ⟨b1, o1, m, rfl, hb1, _, hx, _⟩ := RMsps.at_ hr hlt
      obtain ⟨b2, o2, m', rfl, hb2, _, hy, _⟩ := RMsps.at_ hs hlt
      have hm : m = m' := by rw [hx] at hy; injection hy
      subst hm
      have hcells : ∀ wx, Below w.heap.size w wx → wx.cell? ⟨b1, o1 + k * 3, none⟩ = some (.string m.code) ∧ wx.cell? ⟨b1, o1 + k * 3 + 1, none⟩ = some (.string m.into) ∧ wx.cell? ⟨b1, o1 + k * 3 + 2, none⟩ = some (.int .i64 m.nn) ∧ wx.cell? ⟨b2, o2 + k * 3, none⟩ = some (.string m.code) ∧ wx.cell? ⟨b2, o2 + k * 3 + 1, none⟩ = some (.string m.into) ∧ wx.cell? ⟨b2, o2 + k * 3 + 2, none⟩ = some (.int .i64 m.nn) := by
        intro wx hbx
        obtain ⟨b1', o1', m1, e1, _, _, hx1, c0, c1, c2⟩ := RMsps.at_ (RRow.below hr hbx) hlt
        obtain ⟨b2', o2', m2, e2, _, _, hx2, d0, d1, d2⟩ := RMsps.at_ (RRow.below hs hbx) hlt
        simp only [Option.some.injEq, Addr.mk.injEq, and_true] at e1 e2
        obtain ⟨rfl, rfl⟩ := e1
        obtain ⟨rfl, rfl⟩ := e2
        rw [hx] at hx1 hx2
        injection hx1 with hx1
        injection hx2 with hx2
        subst hx1 hx2
        exact ⟨c0, c1, c2, d0, d1, d2⟩
      have HC := Lib.hid hcells
      clear hx hy hcells
      have l0 : (0 : Int) ≤ (k : Int) := by omega
      have l1 : (k : Int) < (n : Int) := by omega
      go_wp2_with fail
      go_region_held3 (fun wx => Below w.heap.size w wx ∧ wx.cell? ⟨b1, o1 + k * 3, none⟩ = some (.string m.code) ∧ wx.cell? ⟨b1, o1 + k * 3 + 1, none⟩ = some (.string m.into) ∧ wx.cell? ⟨b1, o1 + k * 3 + 2, none⟩ = some (.int .i64 m.nn) ∧ wx.cell? ⟨b2, o2 + k * 3, none⟩ = some (.string m.code) ∧ wx.cell? ⟨b2, o2 + k * 3 + 1, none⟩ = some (.string m.into) ∧ wx.cell? ⟨b2, o2 + k * 3 + 2, none⟩ = some (.int .i64 m.nn)) ((first | exact ⟨hb.drew, HC.out _ hb.drew⟩ | (have hh : Below _ _ _ ∧ _ := (by assumption); have hh0 := hh.1.trans (hn1.mono hh.1.size); exact ⟨hh0, HC.out _ hh0⟩) | assumption | go_keep))
        ((go_at_call 87; refine (eqMisput_any _ _ _ _).mono ?_; rintro e1 w1 ⟨rfl, hn1⟩))
      have hh : Below _ _ _ ∧ _ := (by assumption)
      replace hb := hh.1
      clear hh
      go_wp2_with fail
      go_roundw
      case rel => exact ⟨k + 1, by omega, by go_num, hb⟩
      case measure => simp [intOf]; omega
    · go_wp2_with fail
      go_ret
      exact ⟨rfl, hb⟩
end Go.Proofs.Ytjcopempjanhhaa
