/-
  The lists of Fold: their cells, and the contracts of the laws' own helpers on them. Printed by program.
-/
import Derived.Test.YtaalfmijpbnpkaaOwn
import Derived.Deep.RegionHeld3
namespace Go.Proofs.Ytaalfmijpbnpkaa
open Go.RowKit
structure Fld where
  along : Int
  over : Bool

def Fld.row (m : Fld) : List Value := [.int .i64 m.along, .bool m.over]
def Fld.agg (m : Fld) : Value := .agg #[.int .i64 m.along, .bool m.over]
def RFlds (w : World) (B : Nat) (A : Option Addr) (n : Nat) (ms : List Fld) : Prop := RRow w B 2 A n (ms.map Fld.row)
theorem RFlds.at_ {w : World} {B : Nat} {A : Option Addr} {n k : Nat} {ms : List Fld} (h : RFlds w B A n ms) (hk : k < n) : ∃ b off m, A = some ⟨b, off, none⟩ ∧ b < B ∧ ms.drop k = m :: ms.drop (k + 1) ∧ ms[k]? = some m ∧
    w.cell? ⟨b, off + k * 2, none⟩ = some (.int .i64 m.along) ∧ w.cell? ⟨b, off + k * 2 + 1, none⟩ = some (.bool m.over) := by
  obtain ⟨b, off, row, hA, hb, _, hr, _, hc⟩ := RRow.at_ h hk (by omega)
  have hl : k < ms.length := by have := h.1; simp at this; omega
  rw [List.getElem?_map, List.getElem?_eq_getElem hl] at hr
  injection hr with hr
  subst hr
  exact ⟨b, off, ms[k], hA, hb, List.drop_eq_getElem_cons hl, List.getElem?_eq_getElem hl, hc 0 _ rfl, hc 1 _ rfl⟩
theorem RFlds.len {w : World} {B : Nat} {A : Option Addr} {n : Nat} {ms : List Fld} (h : RFlds w B A n ms) : ms.length = n := by have := h.1; simpa using this
theorem RFlds.below {w w' : World} {B : Nat} {A : Option Addr} {n : Nat} {ms : List Fld} (h : RFlds w B A n ms) (hb : Below B w w') : RFlds w' B A n ms := RRow.below h hb
theorem RFlds.more {w : World} {B B' : Nat} {A : Option Addr} {n : Nat} {ms : List Fld} (h : RFlds w B A n ms) (hB : B ≤ B') : RFlds w B' A n ms := RRow.more h hB
theorem RFlds.of_blk {w : World} {g n : Nat} {ms : List Fld} (h : Blk w g 49 (ms.map Fld.row).flatten) (hl : ms.length = n) : RFlds w w.heap.size (some ⟨g, 0, none⟩) n ms := ⟨by simpa using hl, by simp [Fld.row], h.reads (by rw [flatten_len (size := 2) (by simp [Fld.row]), List.length_map, hl])⟩
theorem RFlds.of_own {w : World} {base n c : Nat} {A : Option Addr} {ms : List Fld} (h : w.ownsRow base 49 2 (.slice A n c) n (ms.map Fld.row).flatten) : RFlds w w.heap.size A n ms := ⟨by have := h.1; rw [flatten_len (size := 2) (by simp [Fld.row]), List.length_map] at this; rw [List.length_map]; omega, by simp [Fld.row], Reads.of_own h⟩
theorem infoFold : (Try.prog.info? 49).map (fun i => (i.zero, i.size, i.bytes)) = some (some (.agg #[.int .i64 0, .bool false]), 2, 16) := by kernel_rfl
theorem toFold_any (along : Int) (over : Bool) (w : World) : Calls Try.prog 27 #[.agg #[.int .i64 along, .bool over]] w fun e w' => e = .returned (.agg #[.int .i64 along, .bool over]) ∧ Below w.heap.size w w' := by
  go_enter Try.func27, Try.ntmps27
  go_wp2
  exact bodyPost_ret (v := .agg #[.int .i64 along, .bool over]) (by simp [results, Try.results27, go_sem]) rfl ⟨rfl, (by (repeat (first | exact Below.refl _ _ | exact hb | apply Below.drew | (refine Below.alloc ?_ (by first | (simp; done) | (simp; omega) | (have := hb.size; simp at this ⊢; omega)) _) | (refine Below.setCell ?_ (by simp) _))))⟩
theorem toFoldS_any (A : Option Addr) (n c B : Nat) (ms : List Fld) (w : World) (hr : RFlds w B A n ms) (hB : B ≤ w.heap.size) (hn : n ≤ 1048576) :
    Calls Try.prog 9 #[.slice A n c] w fun e w' => ∃ g, e = .returned (.slice (some ⟨g, 0, none⟩) n n) ∧ w.heap.size ≤ g ∧ Blk w' g 49 (ms.map Fld.row).flatten ∧ Below w.heap.size w w' := by
  obtain ⟨i, hi, hz, hs, hby⟩ := info_parts infoFold
  have hmk := fun W : World => run_make (P := Try.prog) W 26 49 i _ Try.underlying26 hi hz .i64 .i64 n n (by omega) (by omega) (by rw [hby]; omega) (by omega)
  simp only [Int.toNat_natCast, hs] at hmk
  have HL := Lib.hid hr.len
  clear hi hz hs hby
  go_enter Try.func9, Try.ntmps9
  go_wp2
  go_loopw [4] (fun i wr => ∃ (k : Nat) (cs : List Value), k ≤ n ∧ i = .int .i64 k ∧ Blk wr w.heap.size 49 cs ∧ cs.length = n * 2 ∧ cs.take (k * 2) = (ms.map Fld.row).flatten.take (k * 2) ∧ Below w.heap.size w wr) (fun i _ => n - (intOf i).toNat)
  case atStart =>
    refine ⟨0, _, Nat.zero_le _, rfl, Blk.new' _ _ _, ?_, by simp, (by (repeat (first | exact Below.refl _ _ | exact hb | apply Below.drew | (refine Below.alloc ?_ (by first | (simp; done) | (simp; omega) | (have := hb.size; simp at this ⊢; omega)) _) | (refine Below.setCell ?_ (by simp) _))))⟩
    simp [size_madeCells]
  case round =>
    obtain ⟨k, cs, hk, rfl, hblk, hlen, htk, hb⟩ := hrel
    have HLn := Lib.hid hlen
    have HTK := Lib.hid htk; clear htk
    by_cases hlt : k < n
    · obtain ⟨b, off, m, rfl, _, _, hy, c0, c1⟩ := RFlds.at_ ((RRow.more hr hB).below hb) hlt
      have hf : ∀ j, j < 2 → (ms.map Fld.row).flatten[k * 2 + j]? = m.row[j]? := fun j hj => flatten_at hr.2.1 (by rw [List.getElem?_map, hy]; rfl) j hj
      have HF := Lib.hid hf; clear hf
      go_wp2_with fail; refine (toFold_any _ _ _).mono ?_; rintro e1 w1 ⟨rfl, hn1⟩; replace hb := hb.trans (hn1.mono hb.size); replace hblk := hblk.below hn1 hblk.lt; clear hn1 c0 c1
      obtain ⟨z0, d0⟩ : ∃ z, w1.cell? ⟨w.heap.size, k * 2, none⟩ = some z := ⟨_, (hblk.cell _).trans (List.getElem?_eq_getElem (by have := HLn.out; omega))⟩
      obtain ⟨z1, d1⟩ : ∃ z, w1.cell? ⟨w.heap.size, k * 2 + 1, none⟩ = some z := ⟨_, (hblk.cell _).trans (List.getElem?_eq_getElem (by have := HLn.out; omega))⟩
      have y0 := hblk.frozen (k * 2)
      have y1 := hblk.frozen (k * 2 + 1)
      clear hy
      go_wp2_with fail
      go_roundw
      case rel =>
        refine ⟨k + 1, _, by omega, by go_num, ((hblk).set_ _ _).set_ _ _, by simp only [List.length_set]; exact HLn.out, ?_, ((hb).setCell (by simp) _).setCell (by simp) _⟩
        have hl := HLn.out
        rw [show (k + 1) * 2 = k * 2 + 1 + 1 by omega]
        exact fill_step (fill_step HTK.out (by omega) (HF.out 0 (by omega))) (by simp only [List.length_set]; omega) (HF.out 1 (by omega))
      case measure => simp [intOf]; omega
    · go_wp2_with fail
      go_ret
      refine ⟨_, rfl, Nat.le_refl _, ?_, hb⟩
      have h1 := HTK.out
      have h2 : (ms.map Fld.row).flatten.length = n * 2 := hr.2.2.1
      rw [List.take_of_length_le (by rw [HLn.out]; omega), List.take_of_length_le (by rw [h2]; omega)] at h1
      rw [← h1]
      exact hblk
theorem eqFold_any (along : Int) (over : Bool) (w : World) : Calls Try.prog 31 #[.agg #[.int .i64 along, .bool over], .agg #[.int .i64 along, .bool over]] w fun e w' => e = .returned (.bool true) ∧ Below w.heap.size w w' := by
  have hx := (Blk.new' w 49 #[.int .i64 along, .bool over]).alloc (.cells #[.int .i64 along, .bool over] 49)
  have hy : Blk ((w.alloc (.cells #[.int .i64 along, .bool over] 49)).alloc (.cells #[.int .i64 along, .bool over] 49)) (w.heap.size + 1) 49 [.int .i64 along, .bool over] := by simpa using Blk.new' (w.alloc (.cells #[.int .i64 along, .bool over] 49)) 49 #[.int .i64 along, .bool over]
  have c0 : _ = some (Value.int .i64 along) := hx.cell 0
  have d0 : _ = some (Value.int .i64 along) := hy.cell 0
  have c1 : _ = some (Value.bool over) := hx.cell 1
  have d1 : _ = some (Value.bool over) := hy.cell 1
  have n_along : (along != along) = false := by simp
  have q_along : (along == along) = true := by simp
  have n_over : (over != over) = false := by simp
  have q_over : (over == over) = true := by simp
  go_enter Try.func31, Try.ntmps31
  go_wp2
  all_goals exact bodyPost_ret (v := .bool true) (by simp [results, Try.results31, go_sem]) rfl ⟨rfl, (by (repeat (first | exact Below.refl _ _ | exact hb | apply Below.drew | (refine Below.alloc ?_ (by first | (simp; done) | (simp; omega) | (have := hb.size; simp at this ⊢; omega)) _) | (refine Below.setCell ?_ (by simp) _))))⟩
theorem eqFoldS_any (A A' : Option Addr) (n c d B C : Nat) (ms : List Fld) (w : World) (hr0 : RFlds w B A n ms) (hs0 : RFlds w C A' n ms) (hB : B ≤ w.heap.size) (hC : C ≤ w.heap.size) (hn : n ≤ 1048576) :
    Calls Try.prog 11 #[.slice A n c, .slice A' n d] w fun e w' => e = .returned (.bool true) ∧ Below w.heap.size w w' := by
  have hr := hr0.more hB
  have hs := hs0.more hC
  clear hr0 hs0 hB hC
  go_enter Try.func11, Try.ntmps11
  go_wp2
  go_loopw [5] (fun i wr => ∃ k : Nat, k ≤ n ∧ i = .int .i64 k ∧ Below w.heap.size w wr) (fun i _ => n - (intOf i).toNat)
  case atStart => exact ⟨0, Nat.zero_le _, rfl, Below.refl _ _⟩
  case round =>
    obtain ⟨k, hk, rfl, hb⟩ := hrel
    by_cases hlt : k < n
    · obtain ⟨b1, o1, m, rfl, hb1, _, hx, _⟩ := RFlds.at_ hr hlt
      obtain ⟨b2, o2, m', rfl, hb2, _, hy, _⟩ := RFlds.at_ hs hlt
      have hm : m = m' := by rw [hx] at hy; injection hy
      subst hm
      have hcells : ∀ wx, Below w.heap.size w wx → wx.cell? ⟨b1, o1 + k * 2, none⟩ = some (.int .i64 m.along) ∧ wx.cell? ⟨b1, o1 + k * 2 + 1, none⟩ = some (.bool m.over) ∧ wx.cell? ⟨b2, o2 + k * 2, none⟩ = some (.int .i64 m.along) ∧ wx.cell? ⟨b2, o2 + k * 2 + 1, none⟩ = some (.bool m.over) := by
        intro wx hbx
        obtain ⟨b1', o1', m1, e1, _, _, hx1, c0, c1⟩ := RFlds.at_ (RRow.below hr hbx) hlt
        obtain ⟨b2', o2', m2, e2, _, _, hx2, d0, d1⟩ := RFlds.at_ (RRow.below hs hbx) hlt
        simp only [Option.some.injEq, Addr.mk.injEq, and_true] at e1 e2
        obtain ⟨rfl, rfl⟩ := e1
        obtain ⟨rfl, rfl⟩ := e2
        rw [hx] at hx1 hx2
        injection hx1 with hx1
        injection hx2 with hx2
        subst hx1 hx2
        exact ⟨c0, c1, d0, d1⟩
      have HC := Lib.hid hcells
      clear hx hy hcells
      have l0 : (0 : Int) ≤ (k : Int) := by omega
      have l1 : (k : Int) < (n : Int) := by omega
      go_wp2_with fail
      go_region_held3 (fun wx => Below w.heap.size w wx ∧ wx.cell? ⟨b1, o1 + k * 2, none⟩ = some (.int .i64 m.along) ∧ wx.cell? ⟨b1, o1 + k * 2 + 1, none⟩ = some (.bool m.over) ∧ wx.cell? ⟨b2, o2 + k * 2, none⟩ = some (.int .i64 m.along) ∧ wx.cell? ⟨b2, o2 + k * 2 + 1, none⟩ = some (.bool m.over)) ((first | exact ⟨hb.drew, HC.out _ hb.drew⟩ | (have hh : Below _ _ _ ∧ _ := (by assumption); have hh0 := hh.1.trans (hn1.mono hh.1.size); exact ⟨hh0, HC.out _ hh0⟩) | assumption | go_keep))
        ((go_at_call 31; refine (eqFold_any _ _ _).mono ?_; rintro e1 w1 ⟨rfl, hn1⟩))
      have hh : Below _ _ _ ∧ _ := (by assumption)
      replace hb := hh.1
      clear hh
      go_wp2_with fail
      go_roundw
      case rel => exact ⟨k + 1, by omega, by go_num, hb⟩
      case measure => simp [intOf]; omega
    · go_wp2_with fail
      go_ret
      exact ⟨rfl, hb⟩
def Trv : Prop := True
theorem trv : Trv := trivial
theorem markFoldS_any (v : Value) (n B : Nat) (ms : List Fld) (k : Int) (w : World) (h : w.ownsRow B 49 2 v n (ms.map Fld.row).flatten) (hn : n ≤ 1048576) (hk : 0 ≤ k ∧ k ≤ 1000000000000) :
    Calls Try.prog 20 #[v, .int .i64 k] w fun e w' => e = .returned (.int .i64 (k + 2 * n)) ∧ Trv ∧ w.grownBy w' v.ownBlock := by
  have hl := h.1
  obtain ⟨hlen, hform⟩ := h
  rcases hform with ⟨rfl, rfl⟩ | ⟨g, cap, cur, rfl, hB, hg, rest⟩
  · go_enter Try.func20, Try.ntmps20
    go_wp2
    go_loop [1, 5] (fun q i => i = .int .i64 0 ∧ q = .int .i64 k) (fun _ _ => 0)
    case atStart => exact ⟨rfl, rfl⟩
    case round =>
      obtain ⟨rfl, rfl⟩ := hrel
      go_wp2
      go_ret
      exact ⟨ret_int (by simp), trv, grown_refl _ _⟩
  · have h : w.ownsRow B 49 2 (.slice (some ⟨g, 0, none⟩) n cap) n (ms.map Fld.row).flatten := ⟨hlen, .inr ⟨g, cap, cur, rfl, hB, hg, rest⟩⟩
    clear hlen hg rest
    have HL := Lib.hid hl; clear hl
    go_enter Try.func20, Try.ntmps20
    go_wp2
    go_loopw [1, 5] (fun q i wr => ∃ (j : Nat) (cs : List Value), j ≤ n ∧ i = .int .i64 j ∧ q = .int .i64 (k + 2 * j) ∧ wr.ownsRow B 49 2 (.slice (some ⟨g, 0, none⟩) n cap) n cs ∧ w.grownBy wr (some g)) (fun _ i _ => n - (intOf i).toNat)
    case atStart => exact ⟨0, _, Nat.zero_le _, rfl, by simp, h, grown_refl _ _⟩
    case round =>
      obtain ⟨j, cs, hj, rfl, rfl, hown, hgr⟩ := hrel
      have HY := Lib.hid hown.1
      by_cases hlt : j < n
      · obtain ⟨z0, d0⟩ : ∃ z, wr.cell? ⟨g, j * 2, none⟩ = some z := ⟨_, (hown.cellAt (j * 2) (by omega)).trans (List.getElem?_eq_getElem (by rw [HY.out]; omega))⟩
        obtain ⟨z1, d1⟩ : ∃ z, wr.cell? ⟨g, j * 2 + 1, none⟩ = some z := ⟨_, (hown.cellAt (j * 2 + 1) (by omega)).trans (List.getElem?_eq_getElem (by rw [HY.out]; omega))⟩
        have y0 := hown.frozenAt (j * 2)
        have y1 := hown.frozenAt (j * 2 + 1)
        go_wp2_with fail
        go_roundw
        case rel => exact ⟨j + 1, _, by omega, by go_num, by simp; omega, (((hown.stored _ _).1.stored _ _)).1, grown_trans (grown_trans (hgr) (hown.stored _ _).2) (((hown.stored _ _).1.stored _ _)).2⟩
        case measure => simp [intOf]; omega
      · go_wp2_with fail
        go_ret
        have hjn : j = n := by omega
        subst hjn
        exact ⟨rfl, trv, hgr⟩
end Go.Proofs.Ytaalfmijpbnpkaa
