/-
  The lists of PressJob: their cells, and the contracts of the laws' own helpers on them. Printed by program.
-/
import Derived.Test.YtfjkmocjlmcjdaaOwn
import Derived.Deep.RegionHeld3
namespace Go.Proofs.Ytfjkmocjlmcjdaa
open Go.RowKit
structure PJob where
  ink : Int
  sheets : Int
  due : Int

def PJob.row (m : PJob) : List Value := [.int .i64 m.ink, .int .i64 m.sheets, .int .i64 m.due]
def PJob.agg (m : PJob) : Value := .agg #[.int .i64 m.ink, .int .i64 m.sheets, .int .i64 m.due]
def RPJobs (w : World) (B : Nat) (A : Option Addr) (n : Nat) (ms : List PJob) : Prop := RRow w B 3 A n (ms.map PJob.row)
theorem RPJobs.at_ {w : World} {B : Nat} {A : Option Addr} {n k : Nat} {ms : List PJob} (h : RPJobs w B A n ms) (hk : k < n) : ∃ b off m, A = some ⟨b, off, none⟩ ∧ b < B ∧ ms.drop k = m :: ms.drop (k + 1) ∧ ms[k]? = some m ∧
    w.cell? ⟨b, off + k * 3, none⟩ = some (.int .i64 m.ink) ∧ w.cell? ⟨b, off + k * 3 + 1, none⟩ = some (.int .i64 m.sheets) ∧ w.cell? ⟨b, off + k * 3 + 2, none⟩ = some (.int .i64 m.due) := by
  obtain ⟨b, off, row, hA, hb, _, hr, _, hc⟩ := RRow.at_ h hk (by omega)
  have hl : k < ms.length := by have := h.1; simp at this; omega
  rw [List.getElem?_map, List.getElem?_eq_getElem hl] at hr
  injection hr with hr
  subst hr
  exact ⟨b, off, ms[k], hA, hb, List.drop_eq_getElem_cons hl, List.getElem?_eq_getElem hl, hc 0 _ rfl, hc 1 _ rfl, hc 2 _ rfl⟩
theorem RPJobs.len {w : World} {B : Nat} {A : Option Addr} {n : Nat} {ms : List PJob} (h : RPJobs w B A n ms) : ms.length = n := by have := h.1; simpa using this
theorem RPJobs.below {w w' : World} {B : Nat} {A : Option Addr} {n : Nat} {ms : List PJob} (h : RPJobs w B A n ms) (hb : Below B w w') : RPJobs w' B A n ms := RRow.below h hb
theorem RPJobs.more {w : World} {B B' : Nat} {A : Option Addr} {n : Nat} {ms : List PJob} (h : RPJobs w B A n ms) (hB : B ≤ B') : RPJobs w B' A n ms := RRow.more h hB
theorem RPJobs.of_blk {w : World} {g n : Nat} {ms : List PJob} (h : Blk w g 46 (ms.map PJob.row).flatten) (hl : ms.length = n) : RPJobs w w.heap.size (some ⟨g, 0, none⟩) n ms := ⟨by simpa using hl, by simp [PJob.row], h.reads (by rw [flatten_len (size := 3) (by simp [PJob.row]), List.length_map, hl])⟩
theorem RPJobs.of_own {w : World} {base n c : Nat} {A : Option Addr} {ms : List PJob} (h : w.ownsRow base 46 3 (.slice A n c) n (ms.map PJob.row).flatten) : RPJobs w w.heap.size A n ms := ⟨by have := h.1; rw [flatten_len (size := 3) (by simp [PJob.row]), List.length_map] at this; rw [List.length_map]; omega, by simp [PJob.row], Reads.of_own h⟩
theorem infoPressJob : (Try.prog.info? 46).map (fun i => (i.zero, i.size, i.bytes)) = some (some (.agg #[.int .i64 0, .int .i64 0, .int .i64 0]), 3, 24) := by kernel_rfl
theorem toPressJob_any (ink : Int) (sheets : Int) (due : Int) (w : World) : Calls Try.prog 25 #[.agg #[.int .i64 ink, .int .i64 sheets, .int .i64 due]] w fun e w' => e = .returned (.agg #[.int .i64 ink, .int .i64 sheets, .int .i64 due]) ∧ Below w.heap.size w w' := by
  go_enter Try.func25, Try.ntmps25
  go_wp2
  exact bodyPost_ret (v := .agg #[.int .i64 ink, .int .i64 sheets, .int .i64 due]) (by simp [results, Try.results25, go_sem]) rfl ⟨rfl, (by (repeat (first | exact Below.refl _ _ | exact hb | apply Below.drew | (refine Below.alloc ?_ (by first | (simp; done) | (simp; omega) | (have := hb.size; simp at this ⊢; omega)) _) | (refine Below.setCell ?_ (by simp) _))))⟩
theorem toPressJobS_any (A : Option Addr) (n c B : Nat) (ms : List PJob) (w : World) (hr : RPJobs w B A n ms) (hB : B ≤ w.heap.size) (hn : n ≤ 1048576) :
    Calls Try.prog 9 #[.slice A n c] w fun e w' => ∃ g, e = .returned (.slice (some ⟨g, 0, none⟩) n n) ∧ w.heap.size ≤ g ∧ Blk w' g 46 (ms.map PJob.row).flatten ∧ Below w.heap.size w w' := by
  obtain ⟨i, hi, hz, hs, hby⟩ := info_parts infoPressJob
  have hmk := fun W : World => run_make (P := Try.prog) W 32 46 i _ Try.underlying32 hi hz .i64 .i64 n n (by omega) (by omega) (by rw [hby]; omega) (by omega)
  simp only [Int.toNat_natCast, hs] at hmk
  have HL := Lib.hid hr.len
  clear hi hz hs hby
  go_enter Try.func9, Try.ntmps9
  go_wp2
  go_loopw [4] (fun i wr => ∃ (k : Nat) (cs : List Value), k ≤ n ∧ i = .int .i64 k ∧ Blk wr w.heap.size 46 cs ∧ cs.length = n * 3 ∧ cs.take (k * 3) = (ms.map PJob.row).flatten.take (k * 3) ∧ Below w.heap.size w wr) (fun i _ => n - (intOf i).toNat)
  case atStart =>
    refine ⟨0, _, Nat.zero_le _, rfl, Blk.new' _ _ _, ?_, by simp, (by (repeat (first | exact Below.refl _ _ | exact hb | apply Below.drew | (refine Below.alloc ?_ (by first | (simp; done) | (simp; omega) | (have := hb.size; simp at this ⊢; omega)) _) | (refine Below.setCell ?_ (by simp) _))))⟩
    simp [size_madeCells]
  case round =>
    obtain ⟨k, cs, hk, rfl, hblk, hlen, htk, hb⟩ := hrel
    have HLn := Lib.hid hlen
    have HTK := Lib.hid htk; clear htk
    by_cases hlt : k < n
    · obtain ⟨b, off, m, rfl, _, _, hy, c0, c1, c2⟩ := RPJobs.at_ ((RRow.more hr hB).below hb) hlt
      have hf : ∀ j, j < 3 → (ms.map PJob.row).flatten[k * 3 + j]? = m.row[j]? := fun j hj => flatten_at hr.2.1 (by rw [List.getElem?_map, hy]; rfl) j hj
      have HF := Lib.hid hf; clear hf
      go_wp2_with fail; refine (toPressJob_any _ _ _ _).mono ?_; rintro e1 w1 ⟨rfl, hn1⟩; replace hb := hb.trans (hn1.mono hb.size); replace hblk := hblk.below hn1 hblk.lt; clear hn1 c0 c1 c2
      obtain ⟨z0, d0⟩ : ∃ z, w1.cell? ⟨w.heap.size, k * 3, none⟩ = some z := ⟨_, (hblk.cell _).trans (List.getElem?_eq_getElem (by have := HLn.out; omega))⟩
      obtain ⟨z1, d1⟩ : ∃ z, w1.cell? ⟨w.heap.size, k * 3 + 1, none⟩ = some z := ⟨_, (hblk.cell _).trans (List.getElem?_eq_getElem (by have := HLn.out; omega))⟩
      obtain ⟨z2, d2⟩ : ∃ z, w1.cell? ⟨w.heap.size, k * 3 + 2, none⟩ = some z := ⟨_, (hblk.cell _).trans (List.getElem?_eq_getElem (by have := HLn.out; omega))⟩
      have y0 := hblk.frozen (k * 3)
      have y1 := hblk.frozen (k * 3 + 1)
      have y2 := hblk.frozen (k * 3 + 2)
      clear hy
      go_wp2_with fail
      go_roundw
      case rel =>
        refine ⟨k + 1, _, by omega, by go_num, (((hblk).set_ _ _).set_ _ _).set_ _ _, by simp only [List.length_set]; exact HLn.out, ?_, (((hb).setCell (by simp) _).setCell (by simp) _).setCell (by simp) _⟩
        have hl := HLn.out
        rw [show (k + 1) * 3 = k * 3 + 1 + 1 + 1 by omega]
        exact fill_step (fill_step (fill_step HTK.out (by omega) (HF.out 0 (by omega))) (by simp only [List.length_set]; omega) (HF.out 1 (by omega))) (by simp only [List.length_set]; omega) (HF.out 2 (by omega))
      case measure => simp [intOf]; omega
    · go_wp2_with fail
      go_ret
      refine ⟨_, rfl, Nat.le_refl _, ?_, hb⟩
      have h1 := HTK.out
      have h2 : (ms.map PJob.row).flatten.length = n * 3 := hr.2.2.1
      rw [List.take_of_length_le (by rw [HLn.out]; omega), List.take_of_length_le (by rw [h2]; omega)] at h1
      rw [← h1]
      exact hblk
theorem eqPressJob_any (ink : Int) (sheets : Int) (due : Int) (w : World) : Calls Try.prog 30 #[.agg #[.int .i64 ink, .int .i64 sheets, .int .i64 due], .agg #[.int .i64 ink, .int .i64 sheets, .int .i64 due]] w fun e w' => e = .returned (.bool true) ∧ Below w.heap.size w w' := by
  have hx := (Blk.new' w 46 #[.int .i64 ink, .int .i64 sheets, .int .i64 due]).alloc (.cells #[.int .i64 ink, .int .i64 sheets, .int .i64 due] 46)
  have hy : Blk ((w.alloc (.cells #[.int .i64 ink, .int .i64 sheets, .int .i64 due] 46)).alloc (.cells #[.int .i64 ink, .int .i64 sheets, .int .i64 due] 46)) (w.heap.size + 1) 46 [.int .i64 ink, .int .i64 sheets, .int .i64 due] := by simpa using Blk.new' (w.alloc (.cells #[.int .i64 ink, .int .i64 sheets, .int .i64 due] 46)) 46 #[.int .i64 ink, .int .i64 sheets, .int .i64 due]
  have c0 : _ = some (Value.int .i64 ink) := hx.cell 0
  have d0 : _ = some (Value.int .i64 ink) := hy.cell 0
  have c1 : _ = some (Value.int .i64 sheets) := hx.cell 1
  have d1 : _ = some (Value.int .i64 sheets) := hy.cell 1
  have c2 : _ = some (Value.int .i64 due) := hx.cell 2
  have d2 : _ = some (Value.int .i64 due) := hy.cell 2
  have n_ink : (ink != ink) = false := by simp
  have q_ink : (ink == ink) = true := by simp
  have n_sheets : (sheets != sheets) = false := by simp
  have q_sheets : (sheets == sheets) = true := by simp
  have n_due : (due != due) = false := by simp
  have q_due : (due == due) = true := by simp
  go_enter Try.func30, Try.ntmps30
  go_wp2
  all_goals exact bodyPost_ret (v := .bool true) (by simp [results, Try.results30, go_sem]) rfl ⟨rfl, (by (repeat (first | exact Below.refl _ _ | exact hb | apply Below.drew | (refine Below.alloc ?_ (by first | (simp; done) | (simp; omega) | (have := hb.size; simp at this ⊢; omega)) _) | (refine Below.setCell ?_ (by simp) _))))⟩
theorem eqPressJobS_any (A A' : Option Addr) (n c d B C : Nat) (ms : List PJob) (w : World) (hr0 : RPJobs w B A n ms) (hs0 : RPJobs w C A' n ms) (hB : B ≤ w.heap.size) (hC : C ≤ w.heap.size) (hn : n ≤ 1048576) :
    Calls Try.prog 13 #[.slice A n c, .slice A' n d] w fun e w' => e = .returned (.bool true) ∧ Below w.heap.size w w' := by
  have hr := hr0.more hB
  have hs := hs0.more hC
  clear hr0 hs0 hB hC
  go_enter Try.func13, Try.ntmps13
  go_wp2
  go_loopw [5] (fun i wr => ∃ k : Nat, k ≤ n ∧ i = .int .i64 k ∧ Below w.heap.size w wr) (fun i _ => n - (intOf i).toNat)
  case atStart => exact ⟨0, Nat.zero_le _, rfl, Below.refl _ _⟩
  case round =>
    obtain ⟨k, hk, rfl, hb⟩ := hrel
    by_cases hlt : k < n
    · obtain ⟨b1, o1, m, rfl, hb1, _, hx, _⟩ := RPJobs.at_ hr hlt
      obtain ⟨b2, o2, m', rfl, hb2, _, hy, _⟩ := RPJobs.at_ hs hlt
      have hm : m = m' := by rw [hx] at hy; injection hy
      subst hm
      have hcells : ∀ wx, Below w.heap.size w wx → wx.cell? ⟨b1, o1 + k * 3, none⟩ = some (.int .i64 m.ink) ∧ wx.cell? ⟨b1, o1 + k * 3 + 1, none⟩ = some (.int .i64 m.sheets) ∧ wx.cell? ⟨b1, o1 + k * 3 + 2, none⟩ = some (.int .i64 m.due) ∧ wx.cell? ⟨b2, o2 + k * 3, none⟩ = some (.int .i64 m.ink) ∧ wx.cell? ⟨b2, o2 + k * 3 + 1, none⟩ = some (.int .i64 m.sheets) ∧ wx.cell? ⟨b2, o2 + k * 3 + 2, none⟩ = some (.int .i64 m.due) := by
        intro wx hbx
        obtain ⟨b1', o1', m1, e1, _, _, hx1, c0, c1, c2⟩ := RPJobs.at_ (RRow.below hr hbx) hlt
        obtain ⟨b2', o2', m2, e2, _, _, hx2, d0, d1, d2⟩ := RPJobs.at_ (RRow.below hs hbx) hlt
        simp only [Option.some.injEq, Addr.mk.injEq, and_true] at e1 e2
        obtain ⟨rfl, rfl⟩ := e1
        obtain ⟨rfl, rfl⟩ := e2
        rw [hx] at hx1 hx2
        injection hx1 with hx1
        injection hx2 with hx2
        subst hx1 hx2
        exact ⟨c0, c1, c2, d0, d1, d2⟩
      have HC := Lib.hid hcells
      clear hx hy hcells
      have l0 : (0 : Int) ≤ (k : Int) := by omega
      have l1 : (k : Int) < (n : Int) := by omega
      go_wp2_with fail
      go_region_held3 (fun wx => Below w.heap.size w wx ∧ wx.cell? ⟨b1, o1 + k * 3, none⟩ = some (.int .i64 m.ink) ∧ wx.cell? ⟨b1, o1 + k * 3 + 1, none⟩ = some (.int .i64 m.sheets) ∧ wx.cell? ⟨b1, o1 + k * 3 + 2, none⟩ = some (.int .i64 m.due) ∧ wx.cell? ⟨b2, o2 + k * 3, none⟩ = some (.int .i64 m.ink) ∧ wx.cell? ⟨b2, o2 + k * 3 + 1, none⟩ = some (.int .i64 m.sheets) ∧ wx.cell? ⟨b2, o2 + k * 3 + 2, none⟩ = some (.int .i64 m.due)) ((first | exact ⟨hb.drew, HC.out _ hb.drew⟩ | (have hh : Below _ _ _ ∧ _ := (by assumption); have hh0 := hh.1.trans (hn1.mono hh.1.size); exact ⟨hh0, HC.out _ hh0⟩) | assumption | go_keep))
        ((go_at_call 30; refine (eqPressJob_any _ _ _ _).mono ?_; rintro e1 w1 ⟨rfl, hn1⟩))
      have hh : Below _ _ _ ∧ _ := (by assumption)
      replace hb := hh.1
      clear hh
      go_wp2_with fail
      go_roundw
      case rel => exact ⟨k + 1, by omega, by go_num, hb⟩
      case measure => simp [intOf]; omega
    · go_wp2_with fail
      go_ret
      exact ⟨rfl, hb⟩
def PJob.marked (k : Int) : PJob := ⟨k, k + 1, k + 2⟩
def seqPJob (k : Int) (n : Nat) : List PJob := (List.range n).map fun j : Nat => PJob.marked (k + 3 * (j : Int))
theorem seqPJob_len (k : Int) (n : Nat) : (seqPJob k n).length = n := by simp [seqPJob]
theorem seqPJob_get (k : Int) {n j : Nat} (h : j < n) : (seqPJob k n)[j]? = some (PJob.marked (k + 3 * (j : Int))) := by simp [seqPJob, h]
theorem markPressJobS_any (v : Value) (n B : Nat) (ms : List PJob) (k : Int) (w : World) (h : w.ownsRow B 46 3 v n (ms.map PJob.row).flatten) (hn : n ≤ 1048576) (hk : 0 ≤ k ∧ k ≤ 1000000000000) :
    Calls Try.prog 15 #[v, .int .i64 k] w fun e w' => e = .returned (.int .i64 (k + 3 * n)) ∧ w'.ownsRow B 46 3 v n ((seqPJob k n).map PJob.row).flatten ∧ w.grownBy w' v.ownBlock := by
  have hl := h.1
  obtain ⟨hlen, hform⟩ := h
  rcases hform with ⟨rfl, rfl⟩ | ⟨g, cap, cur, rfl, hB, hg, rest⟩
  · go_enter Try.func15, Try.ntmps15
    go_wp2
    go_loop [1, 5] (fun q i => i = .int .i64 0 ∧ q = .int .i64 k) (fun _ _ => 0)
    case atStart => exact ⟨rfl, rfl⟩
    case round =>
      obtain ⟨rfl, rfl⟩ := hrel
      go_wp2
      go_ret
      exact ⟨ret_int (by simp), World.ownsRow_nil _ _ _ _, grown_refl _ _⟩
  · have h : w.ownsRow B 46 3 (.slice (some ⟨g, 0, none⟩) n cap) n (ms.map PJob.row).flatten := ⟨hlen, .inr ⟨g, cap, cur, rfl, hB, hg, rest⟩⟩
    clear hlen hg rest
    have HL := Lib.hid hl; clear hl
    go_enter Try.func15, Try.ntmps15
    go_wp2
    go_loopw [1, 5] (fun q i wr => ∃ (j : Nat) (cs : List Value), j ≤ n ∧ i = .int .i64 j ∧ q = .int .i64 (k + 3 * j) ∧ wr.ownsRow B 46 3 (.slice (some ⟨g, 0, none⟩) n cap) n cs ∧ cs.take (j * 3) = ((seqPJob k n).map PJob.row).flatten.take (j * 3) ∧ w.grownBy wr (some g)) (fun _ i _ => n - (intOf i).toNat)
    case atStart => exact ⟨0, _, Nat.zero_le _, rfl, by simp, h, by simp, grown_refl _ _⟩
    case round =>
      obtain ⟨j, cs, hj, rfl, rfl, hown, htk, hgr⟩ := hrel
      have HT := Lib.hid htk; clear htk
      have HY := Lib.hid hown.1
      by_cases hlt : j < n
      · obtain ⟨z0, d0⟩ : ∃ z, wr.cell? ⟨g, j * 3, none⟩ = some z := ⟨_, (hown.cellAt (j * 3) (by omega)).trans (List.getElem?_eq_getElem (by rw [HY.out]; omega))⟩
        obtain ⟨z1, d1⟩ : ∃ z, wr.cell? ⟨g, j * 3 + 1, none⟩ = some z := ⟨_, (hown.cellAt (j * 3 + 1) (by omega)).trans (List.getElem?_eq_getElem (by rw [HY.out]; omega))⟩
        obtain ⟨z2, d2⟩ : ∃ z, wr.cell? ⟨g, j * 3 + 2, none⟩ = some z := ⟨_, (hown.cellAt (j * 3 + 2) (by omega)).trans (List.getElem?_eq_getElem (by rw [HY.out]; omega))⟩
        have y0 := hown.frozenAt (j * 3)
        have y1 := hown.frozenAt (j * 3 + 1)
        have y2 := hown.frozenAt (j * 3 + 2)
        go_wp2_with fail
        go_roundw
        case rel =>
          refine ⟨j + 1, _, by omega, by go_num, by simp; omega, (((((hown.stored _ _).1.stored _ _)).1.stored _ _)).1, ?_, grown_trans (grown_trans (grown_trans (hgr) (hown.stored _ _).2) (((hown.stored _ _).1.stored _ _)).2) (((((hown.stored _ _).1.stored _ _)).1.stored _ _)).2⟩
          have hl := HY.out
          have hr : ((seqPJob k n).map PJob.row)[j]? = some (PJob.marked (k + 3 * (j : Int))).row := by rw [List.getElem?_map, seqPJob_get k hlt]; rfl
          have hF : ∀ i, i < 3 → ((seqPJob k n).map PJob.row).flatten[j * 3 + i]? = (PJob.marked (k + 3 * (j : Int))).row[i]? := fun i hi => flatten_at (by simp [PJob.row]) hr i hi
          rw [show (j + 1) * 3 = j * 3 + 1 + 1 + 1 by omega]
          exact fill_step (fill_step (fill_step HT.out (by omega) (by rw [← Nat.add_zero (j * 3), hF 0 (by omega)]; simp [PJob.row, PJob.marked])) (by simp only [List.length_set]; omega) (by rw [hF 1 (by omega)]; simp [PJob.row, PJob.marked] <;> omega)) (by simp only [List.length_set]; omega) (by rw [hF 2 (by omega)]; simp [PJob.row, PJob.marked] <;> omega)
        case measure => simp [intOf]; omega
      · go_wp2_with fail
        go_ret
        have hjn : j = n := by omega
        subst hjn
        have h1 := HT.out
        have h2 : ((seqPJob k j).map PJob.row).flatten.length = j * 3 := by rw [flatten_len (size := 3) (by simp [PJob.row]), List.length_map, seqPJob_len]
        rw [List.take_of_length_le (by rw [HY.out]; omega), List.take_of_length_le (by rw [h2]; omega)] at h1
        rw [← h1]
        exact ⟨rfl, hown, hgr⟩
end Go.Proofs.Ytfjkmocjlmcjdaa
