/-
  Contracts: the pile behind all folds has as many leaves as the sheet has cells; the number of pages (impl).
-/
import Derived.Test.YtaalfmijpbnpkaaMg3
namespace Go.Proofs.Ytaalfmijpbnpkaa
open Go.RowKit
theorem new_pile (w : World) (c : Int) (b : Bool) : PileV (w.alloc (.cells #[.int .i64 c, .bool b] 69)) (w.alloc (.cells #[.int .i64 c, .bool b] 69)).heap.size 1 (.slice (some ⟨w.heap.size, 0, none⟩) 1 1) := by
  refine ⟨_, _, [⟨c, b⟩], rfl, ⟨rfl, fun _ => ⟨w.heap.size, 0, #[.int .i64 c, .bool b], (0, 0), rfl, by simp, heap_alloc_new w _, fun j u hu => ?_⟩⟩, rfl⟩
  rw [Nat.zero_add, ← Array.getElem?_toList]
  exact hu
theorem prod_bd {y c : Nat} (hy : y ≤ 16) (hc : c ≤ 16) : 0 ≤ (y : Int) * (c : Int) ∧ (y : Int) * (c : Int) ≤ 256 := by
  have h1 : y * c ≤ 16 * 16 := Nat.mul_le_mul hy hc
  have h2 : ((y * c : Nat) : Int) = (y : Int) * (c : Int) := Int.natCast_mul y c
  omega
set_option maxRecDepth 100000 in
set_option maxHeartbeats 1000000 in
theorem folded_any {A : Option Addr} {n cp : Nat} {fs : List Fld} {w : World} (hr : RFlds w w.heap.size A n fs) (hn4 : n ≤ 4) (hal : ∀ f ∈ fs, f.along = 1 ∨ f.along = 2) :
    Calls Try.prog 46 #[.slice A n cp] w fun e w' => ∃ V C, e = .returned (.slice V (lfN n) C) ∧ Below w.heap.size w w' := by
  obtain ⟨ip, hip, hp0, hp1, hp2⟩ := info_parts infoPile
  obtain ⟨ir, hir, hr0, hr1, hr2⟩ := info_parts infoRow
  have HL := Lib.hid hr.len
  have HA := Lib.hid hal
  have hbd := size_bd (fs := fs) (by have := hr.len; omega)
  obtain ⟨c, hc⟩ : ∃ c, c = colN fs := ⟨_, rfl⟩
  obtain ⟨r, hrr⟩ : ∃ r, r = rowN fs := ⟨_, rfl⟩
  have hcp := colN_pos fs
  have hrp := rowN_pos fs
  rw [← hc] at hcp
  rw [← hrr] at hrp
  rw [← hc, ← hrr] at hbd
  have HC := Lib.hid hc
  have HR := Lib.hid hrr
  clear hal hc hrr
  go_enter Try.func46, Try.ntmps46
  go_wp2_with fail
  refine (sheetSize_any hr hn4).mono ?_
  rintro e1 wb ⟨rfl, hbw⟩
  rw [← HC.out, ← HR.out]
  have h0 := row_empty wb wb.heap.size 67 1 (Nat.le_refl _)
  go_wp2_with fail
  go_loopw [5, 6] (fun v u wr => ∃ (y : Nat) (rs : List Value), y ≤ r ∧ u = .int .i64 y ∧ wr.ownsRow wb.heap.size 67 1 v y rs ∧ (∀ r ∈ rs, RowV wr wr.heap.size c 1 r) ∧ Below wb.heap.size wb wr) (fun _ u _ => r - (intOf u).toNat)
  case atStart => exact ⟨0, [], Nat.zero_le _, rfl, h0, by simp, (Below.refl _ _).alloc (Nat.le_refl _) _⟩
  case round =>
    clear h0
    obtain ⟨wo, rfl⟩ : ∃ wo, wo = wr := ⟨_, rfl⟩
    obtain ⟨y, rs, hy, rfl, hrow, hrs, hbo⟩ := hrel
    have HRS := Lib.hid hrs
    have hso := hbo.size
    clear hrs
    by_cases hlt : y < r
    · have h0 := row_empty wo wo.heap.size 64 1 (Nat.le_refl _)
      have pb := prod_bd (y := y) (c := c) (by omega) hbd.1
      go_wp2_with fail
      go_loopw [7, 8] (fun v u wr => ∃ (x : Nat) (ps : List Value), x ≤ c ∧ u = .int .i64 x ∧ wr.ownsRow wo.heap.size 64 1 v x ps ∧ (∀ p ∈ ps, PileV wr wr.heap.size 1 p) ∧ Below wo.heap.size wo wr) (fun _ u _ => c - (intOf u).toNat)
      case atStart => exact ⟨0, [], Nat.zero_le _, rfl, h0, by simp, (Below.refl _ _).alloc (Nat.le_refl _) _⟩
      case round =>
        clear h0
        obtain ⟨x, ps, hx, rfl, hrowi, hps, hbi⟩ := hrel
        have HPS := Lib.hid hps
        have hsi := hbi.size
        clear hps
        by_cases hxl : x < c
        · have hrl := World.ownsRow.alloc hrowi (.cells #[.int .i64 ((y : Int) * (c : Int) + (x : Int)), .bool true] 69)
          go_wp2_with (at_builtin; refine wpList_append_lies _ rfl (.tmp 28) (.tmp 36) 67 rfl wo.heap.size 64 ip (.slice none 0 0) 1 24 Try.underlying67 hip hp0 hp1 hp2 rfl (by decide) _ x _ (by rfl) (World.ownsRow.alloc hrl _) _ 1 1 [.slice (some ⟨wr.heap.size, 0, none⟩) 1 1] rfl rfl (new_cells (by simp)) (by intro u hu; simp at hu; subst hu; rfl) (by omega) (by unfold maxLen; omega) (by omega) (by simp <;> omega) _ rfl ?_)
          intro g9 cap w9 hown9 hgr9 _ _
          have hnw : Below wr.heap.size wr (wr.alloc (.cells #[.int .i64 ((y : Int) * (c : Int) + (x : Int)), .bool true] 69)) := (Below.refl _ _).alloc (Nat.le_refl _) _
          have hkb : Below wo.heap.size _ w9 := grown_below hgr9 (by simp <;> omega) (fun q hq => (hrl.lt q hq).1)
          have HP9 := Lib.hid (piles_on HPS.out hnw (new_pile wr _ _) hrl hgr9)
          have HN := Lib.hid hown9
          have hbi9 := hbi.trans (((hnw.mono hsi).alloc (by simp <;> omega) _).trans hkb)
          clear hown9 hgr9 hkb hrl
          go_wp2_with fail
          go_roundw
          case rel => exact ⟨x + 1, _, by omega, by go_num, HN.out, HP9.out, hbi9⟩
          case measure => simp [intOf] <;> omega
        · have hxn : x = c := by omega
          subst hxn
          obtain ⟨Ar, Cr, rfl⟩ := own_slice hrowi
          have hV : RowV wr wr.heap.size x 1 (.slice Ar x Cr) := ⟨Ar, Cr, ps, rfl, TR.of_own hrowi, HPS.out⟩
          have hrow2 := row_step hrow hbi
          have HV := Lib.hid hV
          have HR9 := Lib.hid (show ∀ r ∈ rs, RowV wr wr.heap.size x 1 r from fun r hr => ((HRS.out r hr).below hbi).more hsi)
          clear hV hrowi
          go_wp2_with (at_builtin; refine wpList_append_lies _ rfl (.tmp 38) (.tmp 40) 66 rfl wb.heap.size 67 ir (.slice none 0 0) 1 24 Try.underlying66 hir hr0 hr1 hr2 rfl (by decide) _ y _ (by rfl) (World.ownsRow.alloc hrow2 _) _ 1 1 [.slice Ar x Cr] rfl rfl (new_cells rfl) (by intro u hu; simp at hu; subst hu; rfl) (by omega) (by unfold maxLen; omega) (by omega) (by simp <;> omega) _ rfl ?_)
          intro g9 cap w9 hown9 hgr9 _ _
          have hkb := grown_below hgr9 (by simp <;> omega) (fun q hq => (hrow2.lt q hq).1)
          have hb9 := ((hbo.trans (hbi.mono hso)).alloc (by omega) _).trans hkb
          have HR10 := Lib.hid (rows_on HR9.out HV.out hrow2 hgr9)
          have HN := Lib.hid hown9
          clear hown9 hgr9 hrow2 hkb
          go_wp2_with fail
          go_roundw
          case rel => exact ⟨y + 1, _, by omega, by go_num, HN.out, HR10.out, hb9⟩
          case measure => simp [intOf] <;> omega
    · have hyn : y = r := by omega
      subst hyn
      obtain ⟨Vr, Cr, rfl⟩ := own_slice hrow
      have HG := Lib.hid (show GridV wo wo.heap.size y c 1 (.slice Vr y Cr) from ⟨Vr, Cr, rs, rfl, TR.of_own hrow, HRS.out⟩)
      clear hrow
      have hball := hbw.trans (hbo.mono hbw.size)
      have hsb := hbw.size
      go_wp2_with fail
      go_loopw [5, 44] (fun v u wr => ∃ k : Nat, k ≤ n ∧ u = .int .i64 k ∧ GridV wr wr.heap.size (rowN (fs.drop k)) (colN (fs.drop k)) (lfN k) v ∧ Below w.heap.size w wr) (fun _ u _ => n - (intOf u).toNat)
      case atStart => exact ⟨0, Nat.zero_le _, rfl, by rw [List.drop_zero, ← HC.out, ← HR.out]; exact HG.out, hball⟩
      case round =>
        obtain ⟨k, hk, rfl, hgr, hb⟩ := hrel
        by_cases hkn : k < n
        · obtain ⟨bb, off, x, rfl, _, hd, hyx, c0, c1⟩ := RFlds.at_ (RFlds.below hr hb) hkn
          have ha := HA.out x (List.mem_of_getElem? hyx)
          have hdb := drop_bd (fs := fs) (by have := HL.out; omega) k
          have hlb := lfN_bd (n := k) (by omega)
          have hp1c := colN_pos (fs.drop (k + 1))
          have hp1r := rowN_pos (fs.drop (k + 1))
          obtain ⟨al, ov⟩ := x
          simp only at ha c0 c1
          rw [hd, rowN, colN] at hgr
          rw [hd, rowN, colN] at hdb
          have hbz := hb.size
          clear hd hyx
          rcases ha with rfl | rfl
          · simp only [if_true] at hgr hdb
            have HGR := Lib.hid ((hgr.below ((Below.refl _ _).alloc (Nat.le_refl _) (.cells #[.int .i64 1, .bool ov] 49))).more (B' := (wr.alloc (.cells #[.int .i64 1, .bool ov] 49)).heap.size) (by simp))
            clear hgr
            go_wp2_with fail
            refine (foldOnce_w HGR.out rfl (by omega) (by omega) (by omega) (by omega) (by omega) (by omega) (by omega)).mono ?_
            rintro e1 w2 ⟨V, C, rfl, hG2, hn2⟩
            have HG2 := Lib.hid hG2
            have hb9 := (hb.alloc hbz (.cells #[.int .i64 1, .bool ov] 49)).trans (hn2.mono (by simp; omega))
            clear hG2 c0 c1 hn2
            go_wp2_with fail
            go_roundw
            case rel => exact ⟨k + 1, by omega, by go_num, HG2.out, hb9⟩
            case measure => simp [intOf] <;> omega
          · have e21 : ¬ (2 : Int) = 1 := by omega
            simp only [e21, if_false] at hgr hdb
            have HGR := Lib.hid ((hgr.below ((Below.refl _ _).alloc (Nat.le_refl _) (.cells #[.int .i64 2, .bool ov] 49))).more (B' := (wr.alloc (.cells #[.int .i64 2, .bool ov] 49)).heap.size) (by simp))
            clear hgr e21
            go_wp2_with fail
            refine (foldOnce_h HGR.out rfl (by omega) (by omega) (by omega) (by omega) (by omega) (by omega)).mono ?_
            rintro e1 w2 ⟨V, C, rfl, hG2, hn2⟩
            have HG2 := Lib.hid hG2
            have hb9 := (hb.alloc hbz (.cells #[.int .i64 2, .bool ov] 49)).trans (hn2.mono (by simp; omega))
            clear hG2 c0 c1 hn2
            go_wp2_with fail
            go_roundw
            case rel => exact ⟨k + 1, by omega, by go_num, HG2.out, hb9⟩
            case measure => simp [intOf] <;> omega
        · have hkn2 : k = n := by omega
          rw [drop_end HL.out hkn, rowN, colN] at hgr
          obtain ⟨g, off, Cg, A1, C1, rfl, _, hcy, hr1y⟩ := hgr.at_ (y := 0) (by omega)
          obtain ⟨g1, o1, D1, P1, E1, e1, _, hcx, _⟩ := hr1y.at_ (x := 0) (by omega)
          rw [e1] at hcy
          simp only [Nat.add_zero] at hcy hcx
          have HK := Lib.hid hkn2
          clear e1 hkn2 hgr hr1y
          go_wp2_with fail
          go_ret
          have hkn2 := HK.out
          subst hkn2
          exact ⟨_, _, rfl, hb⟩
theorem pageCount_any {A : Option Addr} {n cp : Nat} {fs : List Fld} {w : World} (hr : RFlds w w.heap.size A n fs) (hn4 : n ≤ 4) (hal : ∀ f ∈ fs, f.along = 1 ∨ f.along = 2) :
    Calls Try.prog 43 #[.slice A n cp] w fun e w' => e = .returned (.int .i64 (pgN n)) ∧ Below w.heap.size w w' := by
  have HA := Lib.hid hal
  have hb := lfN_bd hn4
  have HP := Lib.hid (show (2 * (lfN n : Int)) = (pgN n : Int) by rw [pgN]; omega)
  clear hal
  go_enter Try.func43, Try.ntmps43
  go_wp2_with fail
  refine (folded_any hr hn4 HA.out).mono ?_
  rintro e1 w1 ⟨V, C, rfl, hb1⟩
  go_wp2_with fail
  go_ret
  exact ⟨ret_int HP.out, hb1⟩
end Go.Proofs.Ytaalfmijpbnpkaa
