/-
  The lists of Sort: their cells, and the contracts of the laws' own helpers on them. Printed by program.
-/
import Derived.Test.YtfdmenhnejfhjaaStr
import Derived.Deep.RegionHeld3
namespace Go.Proofs.Ytfdmenhnejfhjaa
open Go.RowKit
structure Srt where
  code : ByteArray
  set_ : Int

def Srt.row (m : Srt) : List Value := [.string m.code, .int .i64 m.set_]
def Srt.agg (m : Srt) : Value := .agg #[.string m.code, .int .i64 m.set_]
def RSrts (w : World) (B : Nat) (A : Option Addr) (n : Nat) (ms : List Srt) : Prop := RRow w B 2 A n (ms.map Srt.row)
theorem RSrts.at_ {w : World} {B : Nat} {A : Option Addr} {n k : Nat} {ms : List Srt} (h : RSrts w B A n ms) (hk : k < n) : ∃ b off m, A = some ⟨b, off, none⟩ ∧ b < B ∧ ms.drop k = m :: ms.drop (k + 1) ∧ ms[k]? = some m ∧
    w.cell? ⟨b, off + k * 2, none⟩ = some (.string m.code) ∧ w.cell? ⟨b, off + k * 2 + 1, none⟩ = some (.int .i64 m.set_) := by
  obtain ⟨b, off, row, hA, hb, _, hr, _, hc⟩ := RRow.at_ h hk (by omega)
  have hl : k < ms.length := by have := h.1; simp at this; omega
  rw [List.getElem?_map, List.getElem?_eq_getElem hl] at hr
  injection hr with hr
  subst hr
  exact ⟨b, off, ms[k], hA, hb, List.drop_eq_getElem_cons hl, List.getElem?_eq_getElem hl, hc 0 _ rfl, hc 1 _ rfl⟩
theorem RSrts.len {w : World} {B : Nat} {A : Option Addr} {n : Nat} {ms : List Srt} (h : RSrts w B A n ms) : ms.length = n := by have := h.1; simpa using this
theorem RSrts.below {w w' : World} {B : Nat} {A : Option Addr} {n : Nat} {ms : List Srt} (h : RSrts w B A n ms) (hb : Below B w w') : RSrts w' B A n ms := RRow.below h hb
theorem RSrts.more {w : World} {B B' : Nat} {A : Option Addr} {n : Nat} {ms : List Srt} (h : RSrts w B A n ms) (hB : B ≤ B') : RSrts w B' A n ms := RRow.more h hB
theorem RSrts.of_blk {w : World} {g n : Nat} {ms : List Srt} (h : Blk w g 50 (ms.map Srt.row).flatten) (hl : ms.length = n) : RSrts w w.heap.size (some ⟨g, 0, none⟩) n ms := ⟨by simpa using hl, by simp [Srt.row], h.reads (by rw [flatten_len (size := 2) (by simp [Srt.row]), List.length_map, hl])⟩
theorem RSrts.of_own {w : World} {base n c : Nat} {A : Option Addr} {ms : List Srt} (h : w.ownsRow base 50 2 (.slice A n c) n (ms.map Srt.row).flatten) : RSrts w w.heap.size A n ms := ⟨by have := h.1; rw [flatten_len (size := 2) (by simp [Srt.row]), List.length_map] at this; rw [List.length_map]; omega, by simp [Srt.row], Reads.of_own h⟩
theorem infoSort : (Try.prog.info? 50).map (fun i => (i.zero, i.size, i.bytes)) = some (some (.agg #[.string ⟨#[]⟩, .int .i64 0]), 2, 24) := by kernel_rfl
theorem toSort_any (code : ByteArray) (set_ : Int) (w : World) : Calls Try.prog 22 #[.agg #[.string code, .int .i64 set_]] w fun e w' => e = .returned (.agg #[.string code, .int .i64 set_]) ∧ Below w.heap.size w w' := by
  go_enter Try.func22, Try.ntmps22
  go_wp2
  exact bodyPost_ret (v := .agg #[.string code, .int .i64 set_]) (by simp [results, Try.results22, go_sem]) rfl ⟨rfl, (by (repeat (first | exact Below.refl _ _ | exact hb | apply Below.drew | (refine Below.alloc ?_ (by first | (simp; done) | (simp; omega) | (have := hb.size; simp at this ⊢; omega)) _) | (refine Below.setCell ?_ (by simp) _))))⟩
theorem toSortS_any (A : Option Addr) (n c B : Nat) (ms : List Srt) (w : World) (hr : RSrts w B A n ms) (hB : B ≤ w.heap.size) (hn : n ≤ 1048576) :
    Calls Try.prog 7 #[.slice A n c] w fun e w' => ∃ g, e = .returned (.slice (some ⟨g, 0, none⟩) n n) ∧ w.heap.size ≤ g ∧ Blk w' g 50 (ms.map Srt.row).flatten ∧ Below w.heap.size w w' := by
  obtain ⟨i, hi, hz, hs, hby⟩ := info_parts infoSort
  have hmk := fun W : World => run_make (P := Try.prog) W 34 50 i _ Try.underlying34 hi hz .i64 .i64 n n (by omega) (by omega) (by rw [hby]; omega) (by omega)
  simp only [Int.toNat_natCast, hs] at hmk
  have HL := Lib.hid hr.len
  clear hi hz hs hby
  go_enter Try.func7, Try.ntmps7
  go_wp2
  go_loopw [4] (fun i wr => ∃ (k : Nat) (cs : List Value), k ≤ n ∧ i = .int .i64 k ∧ Blk wr w.heap.size 50 cs ∧ cs.length = n * 2 ∧ cs.take (k * 2) = (ms.map Srt.row).flatten.take (k * 2) ∧ Below w.heap.size w wr) (fun i _ => n - (intOf i).toNat)
  case atStart =>
    refine ⟨0, _, Nat.zero_le _, rfl, Blk.new' _ _ _, ?_, by simp, (by (repeat (first | exact Below.refl _ _ | exact hb | apply Below.drew | (refine Below.alloc ?_ (by first | (simp; done) | (simp; omega) | (have := hb.size; simp at this ⊢; omega)) _) | (refine Below.setCell ?_ (by simp) _))))⟩
    simp [size_madeCells]
  case round =>
    obtain ⟨k, cs, hk, rfl, hblk, hlen, htk, hb⟩ := hrel
    have HLn := Lib.hid hlen
    have HTK := Lib.hid htk; clear htk
    by_cases hlt : k < n
    · obtain ⟨b, off, m, rfl, _, _, hy, c0, c1⟩ := RSrts.at_ ((RRow.more hr hB).below hb) hlt
      have hf : ∀ j, j < 2 → (ms.map Srt.row).flatten[k * 2 + j]? = m.row[j]? := fun j hj => flatten_at hr.2.1 (by rw [List.getElem?_map, hy]; rfl) j hj
      have HF := Lib.hid hf; clear hf
      go_wp2_with fail; refine (toSort_any _ _ _).mono ?_; rintro e1 w1 ⟨rfl, hn1⟩; replace hb := hb.trans (hn1.mono hb.size); replace hblk := hblk.below hn1 hblk.lt; clear hn1 c0 c1
      obtain ⟨z0, d0⟩ : ∃ z, w1.cell? ⟨w.heap.size, k * 2, none⟩ = some z := ⟨_, (hblk.cell _).trans (List.getElem?_eq_getElem (by have := HLn.out; omega))⟩
      obtain ⟨z1, d1⟩ : ∃ z, w1.cell? ⟨w.heap.size, k * 2 + 1, none⟩ = some z := ⟨_, (hblk.cell _).trans (List.getElem?_eq_getElem (by have := HLn.out; omega))⟩
      have y0 := hblk.frozen (k * 2)
      have y1 := hblk.frozen (k * 2 + 1)
      clear hy
      go_wp2_with fail
      go_roundw
      case rel =>
        refine ⟨k + 1, _, by omega, by go_num, ((hblk).set_ _ _).set_ _ _, by simp only [List.length_set]; exact HLn.out, ?_, ((hb).setCell (by simp) _).setCell (by simp) _⟩
        have hl := HLn.out
        rw [show (k + 1) * 2 = k * 2 + 1 + 1 by omega]
        exact fill_step (fill_step HTK.out (by omega) (HF.out 0 (by omega))) (by simp only [List.length_set]; omega) (HF.out 1 (by omega))
      case measure => simp [intOf]; omega
    · go_wp2_with fail
      go_ret
      refine ⟨_, rfl, Nat.le_refl _, ?_, hb⟩
      have h1 := HTK.out
      have h2 : (ms.map Srt.row).flatten.length = n * 2 := hr.2.2.1
      rw [List.take_of_length_le (by rw [HLn.out]; omega), List.take_of_length_le (by rw [h2]; omega)] at h1
      rw [← h1]
      exact hblk
theorem eqSort_any (code : ByteArray) (set_ : Int) (w : World) : Calls Try.prog 31 #[.agg #[.string code, .int .i64 set_], .agg #[.string code, .int .i64 set_]] w fun e w' => e = .returned (.bool true) ∧ Below w.heap.size w w' := by
  have hx := (Blk.new' w 50 #[.string code, .int .i64 set_]).alloc (.cells #[.string code, .int .i64 set_] 50)
  have hy : Blk ((w.alloc (.cells #[.string code, .int .i64 set_] 50)).alloc (.cells #[.string code, .int .i64 set_] 50)) (w.heap.size + 1) 50 [.string code, .int .i64 set_] := by simpa using Blk.new' (w.alloc (.cells #[.string code, .int .i64 set_] 50)) 50 #[.string code, .int .i64 set_]
  have c0 : _ = some (Value.string code) := hx.cell 0
  have d0 : _ = some (Value.string code) := hy.cell 0
  have c1 : _ = some (Value.int .i64 set_) := hx.cell 1
  have d1 : _ = some (Value.int .i64 set_) := hy.cell 1
  have n_code : (code.toList != code.toList) = false := by simp
  have q_code : (code.toList == code.toList) = true := by simp
  have n_set_ : (set_ != set_) = false := by simp
  have q_set_ : (set_ == set_) = true := by simp
  go_enter Try.func31, Try.ntmps31
  go_wp2
  all_goals exact bodyPost_ret (v := .bool true) (by simp [results, Try.results31, go_sem]) rfl ⟨rfl, (by (repeat (first | exact Below.refl _ _ | exact hb | apply Below.drew | (refine Below.alloc ?_ (by first | (simp; done) | (simp; omega) | (have := hb.size; simp at this ⊢; omega)) _) | (refine Below.setCell ?_ (by simp) _))))⟩
theorem eqSortS_any (A A' : Option Addr) (n c d B C : Nat) (ms : List Srt) (w : World) (hr0 : RSrts w B A n ms) (hs0 : RSrts w C A' n ms) (hB : B ≤ w.heap.size) (hC : C ≤ w.heap.size) (hn : n ≤ 1048576) :
    Calls Try.prog 11 #[.slice A n c, .slice A' n d] w fun e w' => e = .returned (.bool true) ∧ Below w.heap.size w w' := by
  have hr := hr0.more hB
  have hs := hs0.more hC
  clear hr0 hs0 hB hC
  go_enter Try.func11, Try.ntmps11
  go_wp2
  go_loopw [5] (fun i wr => ∃ k : Nat, k ≤ n ∧ i = .int .i64 k ∧ Below w.heap.size w wr) (fun i _ => n - (intOf i).toNat)
  case atStart => exact ⟨0, Nat.zero_le _, rfl, Below.refl _ _⟩
  case round =>
    obtain ⟨k, hk, rfl, hb⟩ := hrel
    by_cases hlt : k < n
    · obtain ⟨b1, o1, m, rfl, hb1, _, hx, _⟩ := RSrts.at_ hr hlt
      obtain ⟨b2, o2, m', rfl, hb2, _, hy, _⟩ := RSrts.at_ hs hlt
      have hm : m = m' := by rw [hx] at hy; injection hy
      subst hm
      have hcells : ∀ wx, Below w.heap.size w wx → wx.cell? ⟨b1, o1 + k * 2, none⟩ = some (.string m.code) ∧ wx.cell? ⟨b1, o1 + k * 2 + 1, none⟩ = some (.int .i64 m.set_) ∧ wx.cell? ⟨b2, o2 + k * 2, none⟩ = some (.string m.code) ∧ wx.cell? ⟨b2, o2 + k * 2 + 1, none⟩ = some (.int .i64 m.set_) := by
        intro wx hbx
        obtain ⟨b1', o1', m1, e1, _, _, hx1, c0, c1⟩ := RSrts.at_ (RRow.below hr hbx) hlt
        obtain ⟨b2', o2', m2, e2, _, _, hx2, d0, d1⟩ := RSrts.at_ (RRow.below hs hbx) hlt
        simp only [Option.some.injEq, Addr.mk.injEq, and_true] at e1 e2
        obtain ⟨rfl, rfl⟩ := e1
        obtain ⟨rfl, rfl⟩ := e2
        rw [hx] at hx1 hx2
        injection hx1 with hx1
        injection hx2 with hx2
        subst hx1 hx2
        exact ⟨c0, c1, d0, d1⟩
      have HC := Lib.hid hcells
      clear hx hy hcells
      have l0 : (0 : Int) ≤ (k : Int) := by omega
      have l1 : (k : Int) < (n : Int) := by omega
      go_wp2_with fail
      go_region_held3 (fun wx => Below w.heap.size w wx ∧ wx.cell? ⟨b1, o1 + k * 2, none⟩ = some (.string m.code) ∧ wx.cell? ⟨b1, o1 + k * 2 + 1, none⟩ = some (.int .i64 m.set_) ∧ wx.cell? ⟨b2, o2 + k * 2, none⟩ = some (.string m.code) ∧ wx.cell? ⟨b2, o2 + k * 2 + 1, none⟩ = some (.int .i64 m.set_)) ((first | exact ⟨hb.drew, HC.out _ hb.drew⟩ | (have hh : Below _ _ _ ∧ _ := (by assumption); have hh0 := hh.1.trans (hn1.mono hh.1.size); exact ⟨hh0, HC.out _ hh0⟩) | assumption | go_keep))
        ((go_at_call 31; refine (eqSort_any _ _ _).mono ?_; rintro e1 w1 ⟨rfl, hn1⟩))
      have hh : Below _ _ _ ∧ _ := (by assumption)
      replace hb := hh.1
      clear hh
      go_wp2_with fail
      go_roundw
      case rel => exact ⟨k + 1, by omega, by go_num, hb⟩
      case measure => simp [intOf]; omega
    · go_wp2_with fail
      go_ret
      exact ⟨rfl, hb⟩
end Go.Proofs.Ytfdmenhnejfhjaa
