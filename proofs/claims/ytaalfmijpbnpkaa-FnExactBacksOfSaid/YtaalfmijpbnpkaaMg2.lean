/-
  Contracts: one fold of a grid of piles.
-/
import Derived.Test.YtaalfmijpbnpkaaMg1
import Derived.WalkLawsBesides
import Derived.Deep.QuietTactic
import Derived.BigQuiet
namespace Go.Proofs.Ytaalfmijpbnpkaa
open Go.RowKit
theorem piles_on {wr wl w9 : World} {B0 k L : Nat} {v V : Value} {ps : List Value} {ob : Obj} (hps : ∀ p ∈ ps, PileV wr wr.heap.size L p) (hn : Below wr.heap.size wr wl) (hV : PileV wl wl.heap.size L V)
    (hrow : wl.ownsRow B0 64 1 v k ps) (hg : (wl.alloc ob).grownBy w9 v.ownBlock) : ∀ p ∈ ps ++ [V], PileV w9 w9.heap.size L p := by
  have hs : wl.heap.size + 1 ≤ w9.heap.size := by have := hg.size; simpa using this
  have up : ∀ p, PileV wl wl.heap.size L p → PileV w9 w9.heap.size L p := fun p h => ((h.below ((Below.refl _ _).alloc (Nat.le_refl _) ob)).grown (World.ownsRow.alloc hrow ob) (by decide) hg).more (by omega)
  intro p hp
  rcases List.mem_append.1 hp with h | h
  · exact up p (((hps p h).below hn).more hn.size)
  · simp at h
    subst h
    exact up _ hV
theorem rows_on {wr w9 : World} {B0 k n L : Nat} {v V : Value} {rs : List Value} {ob : Obj} (hrs : ∀ p ∈ rs, RowV wr wr.heap.size n L p) (hV : RowV wr wr.heap.size n L V)
    (hrow : wr.ownsRow B0 67 1 v k rs) (hg : (wr.alloc ob).grownBy w9 v.ownBlock) : ∀ p ∈ rs ++ [V], RowV w9 w9.heap.size n L p := by
  have hs : wr.heap.size + 1 ≤ w9.heap.size := by have := hg.size; simpa using this
  have up : ∀ p, RowV wr wr.heap.size n L p → RowV w9 w9.heap.size n L p := fun p h => ((h.below ((Below.refl _ _).alloc (Nat.le_refl _) ob)).grown (World.ownsRow.alloc hrow ob) (by decide) (by decide) hg).more (by omega)
  intro p hp
  rcases List.mem_append.1 hp with h | h
  · exact up p (hrs p h)
  · simp at h
    subst h
    exact up _ hV

set_option maxRecDepth 100000 in
set_option maxHeartbeats 2000000 in
theorem foldOnce_w {vg : Value} {m n n2 L : Nat} {a : Int} {ov : Bool} {w : World} (hg : GridV w w.heap.size m n L vg) (hm : n = n2 + n2) (hm0 : 0 < m) (hn0 : 0 < n2) (ha : a ≠ 2) (hL0 : 0 < L) (hL : L ≤ 1024) (hml : m ≤ 1024) (hnl : n ≤ 1024) :
    Calls Try.prog 48 #[vg, .agg #[.int .i64 a, .bool ov]] w fun e w' => ∃ V C, e = .returned (.slice V m C) ∧ GridV w' w'.heap.size m n2 (L + L) (.slice V m C) ∧ Below w.heap.size w w' := by
  obtain ⟨ip, hip, hp0, hp1, hp2⟩ := info_parts infoPile
  obtain ⟨ir, hir, hr0, hr1, hr2⟩ := info_parts infoRow
  have HM := Lib.hid hm
  obtain ⟨g, off, Cg, A0, C0, rfl, hgb, hc0, _⟩ := hg.at_ (y := 0) (by omega)
  have HG := Lib.hid hg
  have hF0 := Blk.new' w 49 #[.int .i64 a, .bool ov]
  have k0 : (w.alloc (.cells #[.int .i64 a, .bool ov] 49)).cell? ⟨g, off, none⟩ = some (.slice A0 n C0) := (World.cell?_alloc_lt _ _ _ hgb).trans hc0
  have l0 : (0 : Int) < (m : Int) := by omega
  clear hc0 hg hm
  go_enter Try.func48, Try.ntmps48
  go_wp2_with fail
  go_quiet (fail)
  clear k0 l0
  have hbw : Below w.heap.size w ((w.alloc (.cells #[.int .i64 a, .bool ov] 49)).drewN nq) := below_drewN ((Below.refl _ _).alloc (Nat.le_refl _) _) _
  have hF : Blk ((w.alloc (.cells #[.int .i64 a, .bool ov] 49)).drewN nq) w.heap.size 49 [.int .i64 a, .bool ov] := hF0
  have hsb : ((w.alloc (.cells #[.int .i64 a, .bool ov] 49)).drewN nq).heap.size = w.heap.size + 1 := World.size_alloc w _
  obtain ⟨wb, hwb⟩ : ∃ wb, wb = ((w.alloc (.cells #[.int .i64 a, .bool ov] 49)).drewN nq) := ⟨_, rfl⟩
  rw [← hwb] at hbw hF hsb ⊢
  have HSB := Lib.hid hsb
  clear hwb hF0 hsb
  have k1 : _ = some (.int .i64 a : Value) := hF.cell 0
  have k1' : (wb.alloc (.cells #[] 67)).cell? ⟨w.heap.size, 0, none⟩ = some (.int .i64 a : Value) := (World.cell?_alloc_lt _ _ _ hF.lt).trans k1
  have ea : (a == 2) = false := by simp [ha]
  have h0 := row_empty wb (w.heap.size + 1) 67 1 (by rw [HSB.out]; exact Nat.le_refl _)
  have hbw0 : Below (w.heap.size + 1) wb (wb.alloc (.cells #[] 67)) := (Below.refl _ _).alloc (by rw [HSB.out]; exact Nat.le_refl _) _
  have hwb1 : w.heap.size + 1 ≤ wb.heap.size := by rw [HSB.out]; exact Nat.le_refl _
  go_wp2_with fail
  clear k1 k1'

  have ed : (n : Int) / 2 = (n2 : Int) := by have := HM.out; omega
  go_loopw [7, 71] (fun v u wr => ∃ (y : Nat) (rs : List Value), y ≤ m ∧ u = .int .i64 y ∧ wr.ownsRow (w.heap.size + 1) 67 1 v y rs ∧ (∀ r ∈ rs, RowV wr wr.heap.size n2 (L + L) r) ∧ Below (w.heap.size + 1) wb wr) (fun _ u _ => m - (intOf u).toNat)
  case atStart => exact ⟨0, [], Nat.zero_le _, rfl, h0, by simp, hbw0⟩
  case round =>
    clear h0 hbw0
    obtain ⟨wo, rfl⟩ : ∃ wo, wo = wr := ⟨_, rfl⟩
    obtain ⟨y, rs, hy, rfl, hrow, hrs, hbo⟩ := hrel
    have HRS := Lib.hid hrs
    have hbo2 := hbw.trans (hbo.mono (by omega))
    have hso := hbo.size
    clear hrs
    by_cases hlt : y < m
    · obtain ⟨g', off', Cg', A1, C1, eG, _, hcy, hr1y⟩ := (HG.out.below hbo2).at_ (y := y) (by have := HM.out; omega)
      simp only [Value.slice.injEq, Option.some.injEq, Addr.mk.injEq, and_true, true_and] at eG
      obtain ⟨⟨rfl, rfl⟩, rfl⟩ := eG
      obtain ⟨g1, o1, D1, _, _, e1, hg1, _, _⟩ := hr1y.at_ (x := 0) (by have := HM.out; omega)
      simp only [Value.slice.injEq, Option.some.injEq, Addr.mk.injEq, and_true, true_and] at e1
      obtain ⟨rfl, rfl⟩ := e1
      have HR1 := Lib.hid hr1y
      have hgo : g < wo.heap.size := by omega
      have k2 : wo.cell? ⟨g, off + y, none⟩ = some (.slice (some ⟨g1, o1, none⟩) n C1) := hcy
      have ly0 : (0 : Int) ≤ (y : Int) := by omega
      have ly1 : (y : Int) < (m : Int) := by have := HM.out; omega
      have hcyo := Lib.hid hcy
      clear hr1y hcy
      have h0 := row_empty wo wo.heap.size 64 1 (Nat.le_refl _)
      go_wp2_with fail
      clear k2

      go_loopw [13, 14] (fun v u wr => ∃ (x : Nat) (ps : List Value), x ≤ n2 ∧ u = .int .i64 x ∧ wr.ownsRow wo.heap.size 64 1 v x ps ∧ (∀ p ∈ ps, PileV wr wr.heap.size (L + L) p) ∧ Below wo.heap.size wo wr) (fun _ u _ => n2 - (intOf u).toNat)
      case atStart => exact ⟨0, [], Nat.zero_le _, rfl, h0, by simp, (Below.refl _ _).alloc (Nat.le_refl _) _⟩
      case round =>
        clear h0
        obtain ⟨x, ps, hx, rfl, hrowi, hps, hbi⟩ := hrel
        have HPS := Lib.hid hps
        have hsi := hbi.size
        have hbw2 := hbo.trans (hbi.mono (by omega))
        have hball := hbw.trans (hbw2.mono (by omega))
        clear hps
        by_cases hxl : x < n2
        · have hR1 := (HR1.out.below (hbi.mono (by omega)))
          obtain ⟨g1', o1', D1', P1, E1, e1, _, hp1, hP1⟩ := hR1.at_ (x := x) (by have := HM.out; omega)
          simp only [Value.slice.injEq, Option.some.injEq, Addr.mk.injEq, and_true, true_and] at e1
          obtain ⟨⟨rfl, rfl⟩, rfl⟩ := e1
          obtain ⟨g1', o1', D2', P2, E2, e1, _, hp2, hP2⟩ := hR1.at_ (x := n - 1 - x) (by have := HM.out; omega)
          simp only [Value.slice.injEq, Option.some.injEq, Addr.mk.injEq, and_true, true_and] at e1
          obtain ⟨⟨rfl, rfl⟩, rfl⟩ := e1
          have w1 : IntKind.i64.wrap ((n : Int) - 1) = (n : Int) - 1 := wrapI (by omega) (by omega)
          obtain ⟨z, hz⟩ : ∃ z : Nat, z = n - 1 - x := ⟨_, rfl⟩
          have hzi : (z : Int) = (n : Int) - 1 - (x : Int) := by have := HM.out; omega
          have w2 : IntKind.i64.wrap ((n : Int) - 1 - (x : Int)) = (z : Int) := by rw [wrapI (by omega) (by omega), hzi]
          have w3 : (0 : Int) ≤ (z : Int) := by omega
          have w5 : (z : Int) < (n : Int) := by omega
          have w6 : z < n := by omega
          rw [← hz] at hp2
          clear hz hzi
          have hFr := hF.below hbw2 (by omega)
          have ov1 : wr.cell? ⟨w.heap.size, 1, none⟩ = some (.bool ov) := hFr.cell 1
          have hcells : ∀ wx, Below (w.heap.size + 1) wr wx → wx.cell? ⟨g1, o1 + x, none⟩ = some (.slice P1 L E1) ∧ wx.cell? ⟨g1, o1 + z, none⟩ = some (.slice P2 L E2) ∧ wx.cell? ⟨w.heap.size, 1, none⟩ = some (.bool ov) := fun wx h => ⟨(h.cell (p := ⟨g1, o1 + x, none⟩) (by simp only []; omega)).trans hp1, (h.cell (p := ⟨g1, o1 + z, none⟩) (by simp only []; omega)).trans hp2, (h.cell (p := ⟨w.heap.size, 1, none⟩) (by simp only []; omega)).trans ov1⟩
          have HC := Lib.hid hcells
          have hS0 : Below (w.heap.size + 1) wr wr.drew ∧ _ := ⟨(Below.refl _ _).drew, HC.out _ (Below.refl _ _).drew⟩
          have lx0 : (0 : Int) ≤ (x : Int) := by omega
          have lx1 : (x : Int) < (n : Int) := by have := HM.out; omega
          have HRI := Lib.hid hrowi
          clear hcells ov1 hp1 hp2
          go_wp2_with fail
          go_region_held3 (fun wx => Below (w.heap.size + 1) wr wx ∧ wx.cell? ⟨g1, o1 + x, none⟩ = some (.slice P1 L E1) ∧ wx.cell? ⟨g1, o1 + z, none⟩ = some (.slice P2 L E2) ∧ wx.cell? ⟨w.heap.size, 1, none⟩ = some (.bool ov)) ((first | exact hS0 | (have hh : Below _ _ _ ∧ _ := (by assumption); exact ⟨hh.1.trans (hn.mono (Nat.le_trans (by omega) hh.1.size)), HC.out _ (hh.1.trans (hn.mono (Nat.le_trans (by omega) hh.1.size)))⟩) | exact hS9 | (have hh : Below _ _ _ ∧ _ := (by assumption); exact ⟨hh.1.alloc (Nat.le_trans (by omega) hh.1.size) _, HC.out _ (hh.1.alloc (Nat.le_trans (by omega) hh.1.size) _)⟩) | assumption | go_keep)) (first
            | (go_at_call 49; (have hh : Below _ _ _ ∧ _ := (by assumption)); refine (lay_any ((hP1.below (hh.1.mono (by omega))).more (by have := hh.1.size; omega)) ((hP2.below (hh.1.mono (by omega))).more (by have := hh.1.size; omega)) hL0 (by omega)).mono ?_; rintro e1 wl ⟨V, C, rfl, hpl, hn⟩; have hrowl := row_step HRI.out (show Below wr.heap.size wr wl from ⟨hn.os, hn.tape, hn.output, hn.size, hn.block⟩))
            | (refine step_append_lies _ rfl (.tmp 82) (.tmp 97) 67 rfl wo.heap.size 64 ip (.slice none 0 0) 1 24 Try.underlying67 hip hp0 hp1 hp2 rfl (by decide) _ x _ (by rfl) (World.ownsRow.alloc hrowl _) _ 1 1 [.slice V (L + L) C] rfl rfl (new_cells rfl) (by intro u hu; simp at hu; subst hu; rfl) (by omega) (by unfold maxLen; omega) (by omega) (by have := hn.size; simp at this ⊢; omega) _ rfl ?_; intro g9 cap w9 hown9 hgr9 _ _; (have hh : Below _ _ _ ∧ _ := (by assumption)); have hnw : Below wr.heap.size wr wl := ⟨hn.os, hn.tape, hn.output, hn.size, hn.block⟩; have hkb : Below wo.heap.size (wl.alloc (.cells #[.slice V (L + L) C] 64)) w9 := grown_below hgr9 (by have := hn.size; simp at this ⊢; omega) (fun q hq => (hrowl.lt q hq).1); have hb9 := hh.1.trans (hkb.mono (by omega)); have hS9 := And.intro hb9 (HC.out _ hb9); have HP9 := Lib.hid (piles_on HPS.out hnw hpl hrowl hgr9); have HN := Lib.hid hown9; have hbi9 := hbi.trans (((hnw.mono hsi).alloc (by have := hnw.size; omega) _).trans hkb); clear hown9 hgr9))
          clear hS0 hS9
          go_wp2_with fail
          go_roundw
          case rel => exact ⟨x + 1, _, by omega, by go_num, HN.out, HP9.out, hbi9⟩
          case measure => simp [intOf] <;> omega
        · have hxn : x = n2 := by omega
          subst hxn
          obtain ⟨Ar, Cr, rfl⟩ := own_slice hrowi
          have hV : RowV wr wr.heap.size x (L + L) (.slice Ar x Cr) := ⟨Ar, Cr, ps, rfl, TR.of_own hrowi, HPS.out⟩
          have hrow2 := row_step hrow hbi
          have HV := Lib.hid hV
          have HR9 := Lib.hid (show ∀ r ∈ rs, RowV wr wr.heap.size x (L + L) r from fun r hr => ((HRS.out r hr).below hbi).more hsi)
          clear hV hrowi
          go_wp2_with (at_builtin; refine wpList_append_lies _ rfl (.tmp 99) (.tmp 101) 66 rfl (w.heap.size + 1) 67 ir (.slice none 0 0) 1 24 Try.underlying66 hir hr0 hr1 hr2 rfl (by decide) _ y _ (by rfl) (World.ownsRow.alloc hrow2 _) _ 1 1 [.slice Ar x Cr] rfl rfl (new_cells rfl) (by intro u hu; simp at hu; subst hu; rfl) (by omega) (by unfold maxLen; omega) (by omega) (by simp <;> omega) _ rfl ?_)
          intro g9 cap w9 hown9 hgr9 _ _
          have hkb := grown_below hgr9 (by simp <;> omega) (fun q hq => (hrow2.lt q hq).1)
          have hb9 := (hbw2.alloc (by omega) _).trans hkb
          have HR10 := Lib.hid (rows_on HR9.out HV.out hrow2 hgr9)
          have HN := Lib.hid hown9
          clear hown9 hgr9 hrow2 hkb
          go_wp2_with fail
          go_roundw
          case rel => exact ⟨y + 1, _, by omega, by go_num, HN.out, HR10.out, hb9⟩
          case measure => simp [intOf] <;> omega
    · have hyn : y = m := by omega
      subst hyn
      obtain ⟨Vr, Cr, rfl⟩ := own_slice hrow
      have HT := Lib.hid (TR.of_own hrow)
      clear hrow
      go_wp2_with fail
      go_ret
      exact ⟨Vr, Cr, rfl, ⟨Vr, Cr, rs, rfl, HT.out, HRS.out⟩, hbo2⟩
set_option maxRecDepth 100000 in
set_option maxHeartbeats 2000000 in
theorem foldOnce_h {vg : Value} {m m2 n L : Nat} {ov : Bool} {w : World} (hg : GridV w w.heap.size m n L vg) (hm : m = m2 + m2) (hm0 : 0 < m2) (hn0 : 0 < n) (hL0 : 0 < L) (hL : L ≤ 1024) (hml : m ≤ 1024) (hnl : n ≤ 1024) :
    Calls Try.prog 48 #[vg, .agg #[.int .i64 2, .bool ov]] w fun e w' => ∃ V C, e = .returned (.slice V m2 C) ∧ GridV w' w'.heap.size m2 n (L + L) (.slice V m2 C) ∧ Below w.heap.size w w' := by
  obtain ⟨ip, hip, hp0, hp1, hp2⟩ := info_parts infoPile
  obtain ⟨ir, hir, hr0, hr1, hr2⟩ := info_parts infoRow
  have HM := Lib.hid hm
  obtain ⟨g, off, Cg, A0, C0, rfl, hgb, hc0, _⟩ := hg.at_ (y := 0) (by omega)
  have HG := Lib.hid hg
  have hF0 := Blk.new' w 49 #[.int .i64 2, .bool ov]
  have k0 : (w.alloc (.cells #[.int .i64 2, .bool ov] 49)).cell? ⟨g, off, none⟩ = some (.slice A0 n C0) := (World.cell?_alloc_lt _ _ _ hgb).trans hc0
  have l0 : (0 : Int) < (m : Int) := by omega
  clear hc0 hg hm
  go_enter Try.func48, Try.ntmps48
  go_wp2_with fail
  go_quiet (fail)
  clear k0 l0
  have hbw : Below w.heap.size w ((w.alloc (.cells #[.int .i64 2, .bool ov] 49)).drewN nq) := below_drewN ((Below.refl _ _).alloc (Nat.le_refl _) _) _
  have hF : Blk ((w.alloc (.cells #[.int .i64 2, .bool ov] 49)).drewN nq) w.heap.size 49 [.int .i64 2, .bool ov] := hF0
  have hsb : ((w.alloc (.cells #[.int .i64 2, .bool ov] 49)).drewN nq).heap.size = w.heap.size + 1 := World.size_alloc w _
  obtain ⟨wb, hwb⟩ : ∃ wb, wb = ((w.alloc (.cells #[.int .i64 2, .bool ov] 49)).drewN nq) := ⟨_, rfl⟩
  rw [← hwb] at hbw hF hsb ⊢
  have HSB := Lib.hid hsb
  clear hwb hF0 hsb
  have k1 : _ = some (.int .i64 2 : Value) := hF.cell 0
  have k1' : (wb.alloc (.cells #[] 67)).cell? ⟨w.heap.size, 0, none⟩ = some (.int .i64 2 : Value) := (World.cell?_alloc_lt _ _ _ hF.lt).trans k1
  have h0 := row_empty wb (w.heap.size + 1) 67 1 (by rw [HSB.out]; exact Nat.le_refl _)
  have hbw0 : Below (w.heap.size + 1) wb (wb.alloc (.cells #[] 67)) := (Below.refl _ _).alloc (by rw [HSB.out]; exact Nat.le_refl _) _
  have hwb1 : w.heap.size + 1 ≤ wb.heap.size := by rw [HSB.out]; exact Nat.le_refl _
  go_wp2_with fail
  clear k1 k1'

  have ed : (m : Int) / 2 = (m2 : Int) := by have := HM.out; omega
  go_loopw [7, 8] (fun v u wr => ∃ (y : Nat) (rs : List Value), y ≤ m2 ∧ u = .int .i64 y ∧ wr.ownsRow (w.heap.size + 1) 67 1 v y rs ∧ (∀ r ∈ rs, RowV wr wr.heap.size n (L + L) r) ∧ Below (w.heap.size + 1) wb wr) (fun _ u _ => m2 - (intOf u).toNat)
  case atStart => exact ⟨0, [], Nat.zero_le _, rfl, h0, by simp, hbw0⟩
  case round =>
    clear h0 hbw0
    obtain ⟨wo, rfl⟩ : ∃ wo, wo = wr := ⟨_, rfl⟩
    obtain ⟨y, rs, hy, rfl, hrow, hrs, hbo⟩ := hrel
    have HRS := Lib.hid hrs
    have hbo2 := hbw.trans (hbo.mono (by omega))
    have hso := hbo.size
    clear hrs
    by_cases hlt : y < m2
    · obtain ⟨g', off', Cg', A1, C1, eG, _, hcy, hr1y⟩ := (HG.out.below hbo2).at_ (y := y) (by have := HM.out; omega)
      simp only [Value.slice.injEq, Option.some.injEq, Addr.mk.injEq, and_true, true_and] at eG
      obtain ⟨⟨rfl, rfl⟩, rfl⟩ := eG
      obtain ⟨g1, o1, D1, _, _, e1, hg1, _, _⟩ := hr1y.at_ (x := 0) (by have := HM.out; omega)
      simp only [Value.slice.injEq, Option.some.injEq, Addr.mk.injEq, and_true, true_and] at e1
      obtain ⟨rfl, rfl⟩ := e1
      have HR1 := Lib.hid hr1y
      have hgo : g < wo.heap.size := by omega
      have k2 : (wo.alloc (.cells #[] 64)).cell? ⟨g, off + y, none⟩ = some (.slice (some ⟨g1, o1, none⟩) n C1) := (World.cell?_alloc_lt _ _ _ hgo).trans hcy
      have ly0 : (0 : Int) ≤ (y : Int) := by omega
      have ly1 : (y : Int) < (m : Int) := by have := HM.out; omega
      have hcyo := Lib.hid hcy
      clear hr1y hcy
      have h0 := row_empty wo wo.heap.size 64 1 (Nat.le_refl _)
      go_wp2_with fail
      clear k2

      go_loopw [9, 37] (fun v u wr => ∃ (x : Nat) (ps : List Value), x ≤ n ∧ u = .int .i64 x ∧ wr.ownsRow wo.heap.size 64 1 v x ps ∧ (∀ p ∈ ps, PileV wr wr.heap.size (L + L) p) ∧ Below wo.heap.size wo wr) (fun _ u _ => n - (intOf u).toNat)
      case atStart => exact ⟨0, [], Nat.zero_le _, rfl, h0, by simp, (Below.refl _ _).alloc (Nat.le_refl _) _⟩
      case round =>
        clear h0
        obtain ⟨x, ps, hx, rfl, hrowi, hps, hbi⟩ := hrel
        have HPS := Lib.hid hps
        have hsi := hbi.size
        have hbw2 := hbo.trans (hbi.mono (by omega))
        have hball := hbw.trans (hbw2.mono (by omega))
        clear hps
        by_cases hxl : x < n
        · have hR1 := (HR1.out.below (hbi.mono (by omega)))
          obtain ⟨g1', o1', D1', P1, E1, e1, _, hp1, hP1⟩ := hR1.at_ (x := x) hxl
          simp only [Value.slice.injEq, Option.some.injEq, Addr.mk.injEq, and_true, true_and] at e1
          obtain ⟨⟨rfl, rfl⟩, rfl⟩ := e1
          obtain ⟨g', off', Cg', A2, C2, eG, _, hcz, hr2z⟩ := (HG.out.below hball).at_ (y := m - 1 - y) (by have := HM.out; omega)
          simp only [Value.slice.injEq, Option.some.injEq, Addr.mk.injEq, and_true, true_and] at eG
          obtain ⟨⟨rfl, rfl⟩, rfl⟩ := eG
          obtain ⟨g2, o2, D2, P2, E2, e1, hg2, hp2, hP2⟩ := hr2z.at_ (x := x) hxl
          simp only [Value.slice.injEq, Option.some.injEq, Addr.mk.injEq, and_true, true_and] at e1
          obtain ⟨rfl, rfl⟩ := e1
          obtain ⟨g1', o1', D1', _, _, e1, _, hcy, _⟩ := (HG.out.below hball).at_ (y := y) (by have := HM.out; omega)
          simp only [Value.slice.injEq, Option.some.injEq, Addr.mk.injEq, and_true, true_and] at e1
          obtain ⟨⟨rfl, rfl⟩, rfl⟩ := e1
          have hcy2 : wr.cell? ⟨g, off + y, none⟩ = some (.slice (some ⟨g1, o1, none⟩) n C1) := by
            have := (hbi.cell (p := ⟨g, off + y, none⟩) hgo).trans hcyo.out
            exact this
          have w1 : IntKind.i64.wrap ((m : Int) - 1) = (m : Int) - 1 := wrapI (by omega) (by omega)
          obtain ⟨z, hz⟩ : ∃ z : Nat, z = m - 1 - y := ⟨_, rfl⟩
          have hzi : (z : Int) = (m : Int) - 1 - (y : Int) := by have := HM.out; omega
          have w2 : IntKind.i64.wrap ((m : Int) - 1 - (y : Int)) = (z : Int) := by rw [wrapI (by omega) (by omega), hzi]
          have w3 : (0 : Int) ≤ (z : Int) := by omega
          have w5 : (z : Int) < (m : Int) := by omega
          have w6 : z < m := by omega
          rw [← hz] at hcz
          clear hz hzi
          have hFr := hF.below hbw2 (by omega)
          have ov1 : wr.cell? ⟨w.heap.size, 1, none⟩ = some (.bool ov) := hFr.cell 1
          have hcells : ∀ wx, Below (w.heap.size + 1) wr wx → wx.cell? ⟨g, off + y, none⟩ = some (.slice (some ⟨g1, o1, none⟩) n C1) ∧ wx.cell? ⟨g1, o1 + x, none⟩ = some (.slice P1 L E1) ∧ wx.cell? ⟨g, off + z, none⟩ = some (.slice (some ⟨g2, o2, none⟩) n C2) ∧ wx.cell? ⟨g2, o2 + x, none⟩ = some (.slice P2 L E2) ∧ wx.cell? ⟨w.heap.size, 1, none⟩ = some (.bool ov) := fun wx h => ⟨(h.cell (p := ⟨g, off + y, none⟩) (by simp only []; omega)).trans hcy2, (h.cell (p := ⟨g1, o1 + x, none⟩) (by simp only []; omega)).trans hp1, (h.cell (p := ⟨g, off + z, none⟩) (by simp only []; omega)).trans hcz, (h.cell (p := ⟨g2, o2 + x, none⟩) (by simp only []; omega)).trans hp2, (h.cell (p := ⟨w.heap.size, 1, none⟩) (by simp only []; omega)).trans ov1⟩
          have HC := Lib.hid hcells
          have hS0 : Below (w.heap.size + 1) wr wr.drew ∧ _ := ⟨(Below.refl _ _).drew, HC.out _ (Below.refl _ _).drew⟩
          have lx0 : (0 : Int) ≤ (x : Int) := by omega
          have lx1 : (x : Int) < (n : Int) := by have := HM.out; omega
          have HRI := Lib.hid hrowi
          clear hcells ov1 hp1 hp2 hcz hcy2
          go_wp2_with fail
          go_region_held3 (fun wx => Below (w.heap.size + 1) wr wx ∧ wx.cell? ⟨g, off + y, none⟩ = some (.slice (some ⟨g1, o1, none⟩) n C1) ∧ wx.cell? ⟨g1, o1 + x, none⟩ = some (.slice P1 L E1) ∧ wx.cell? ⟨g, off + z, none⟩ = some (.slice (some ⟨g2, o2, none⟩) n C2) ∧ wx.cell? ⟨g2, o2 + x, none⟩ = some (.slice P2 L E2) ∧ wx.cell? ⟨w.heap.size, 1, none⟩ = some (.bool ov)) ((first | exact hS0 | (have hh : Below _ _ _ ∧ _ := (by assumption); exact ⟨hh.1.trans (hn.mono (Nat.le_trans (by omega) hh.1.size)), HC.out _ (hh.1.trans (hn.mono (Nat.le_trans (by omega) hh.1.size)))⟩) | exact hS9 | (have hh : Below _ _ _ ∧ _ := (by assumption); exact ⟨hh.1.alloc (Nat.le_trans (by omega) hh.1.size) _, HC.out _ (hh.1.alloc (Nat.le_trans (by omega) hh.1.size) _)⟩) | assumption | go_keep)) (first
            | (go_at_call 49; (have hh : Below _ _ _ ∧ _ := (by assumption)); refine (lay_any ((hP1.below (hh.1.mono (by omega))).more (by have := hh.1.size; omega)) ((hP2.below (hh.1.mono (by omega))).more (by have := hh.1.size; omega)) hL0 (by omega)).mono ?_; rintro e1 wl ⟨V, C, rfl, hpl, hn⟩; have hrowl := row_step HRI.out (show Below wr.heap.size wr wl from ⟨hn.os, hn.tape, hn.output, hn.size, hn.block⟩))
            | (refine step_append_lies _ rfl (.tmp 40) (.tmp 61) 67 rfl wo.heap.size 64 ip (.slice none 0 0) 1 24 Try.underlying67 hip hp0 hp1 hp2 rfl (by decide) _ x _ (by rfl) (World.ownsRow.alloc hrowl _) _ 1 1 [.slice V (L + L) C] rfl rfl (new_cells rfl) (by intro u hu; simp at hu; subst hu; rfl) (by omega) (by unfold maxLen; omega) (by omega) (by have := hn.size; simp at this ⊢; omega) _ rfl ?_; intro g9 cap w9 hown9 hgr9 _ _; (have hh : Below _ _ _ ∧ _ := (by assumption)); have hnw : Below wr.heap.size wr wl := ⟨hn.os, hn.tape, hn.output, hn.size, hn.block⟩; have hkb : Below wo.heap.size (wl.alloc (.cells #[.slice V (L + L) C] 64)) w9 := grown_below hgr9 (by have := hn.size; simp at this ⊢; omega) (fun q hq => (hrowl.lt q hq).1); have hb9 := hh.1.trans (hkb.mono (by omega)); have hS9 := And.intro hb9 (HC.out _ hb9); have HP9 := Lib.hid (piles_on HPS.out hnw hpl hrowl hgr9); have HN := Lib.hid hown9; have hbi9 := hbi.trans (((hnw.mono hsi).alloc (by have := hnw.size; omega) _).trans hkb); clear hown9 hgr9))
          clear hS0 hS9
          go_wp2_with fail
          go_roundw
          case rel => exact ⟨x + 1, _, by omega, by go_num, HN.out, HP9.out, hbi9⟩
          case measure => simp [intOf] <;> omega
        · have hxn : x = n := by omega
          subst hxn
          obtain ⟨Ar, Cr, rfl⟩ := own_slice hrowi
          have hV : RowV wr wr.heap.size x (L + L) (.slice Ar x Cr) := ⟨Ar, Cr, ps, rfl, TR.of_own hrowi, HPS.out⟩
          have hrow2 := row_step hrow hbi
          have HV := Lib.hid hV
          have HR9 := Lib.hid (show ∀ r ∈ rs, RowV wr wr.heap.size x (L + L) r from fun r hr => ((HRS.out r hr).below hbi).more hsi)
          clear hV hrowi
          go_wp2_with (at_builtin; refine wpList_append_lies _ rfl (.tmp 64) (.tmp 66) 66 rfl (w.heap.size + 1) 67 ir (.slice none 0 0) 1 24 Try.underlying66 hir hr0 hr1 hr2 rfl (by decide) _ y _ (by rfl) (World.ownsRow.alloc hrow2 _) _ 1 1 [.slice Ar x Cr] rfl rfl (new_cells rfl) (by intro u hu; simp at hu; subst hu; rfl) (by omega) (by unfold maxLen; omega) (by omega) (by simp <;> omega) _ rfl ?_)
          intro g9 cap w9 hown9 hgr9 _ _
          have hkb := grown_below hgr9 (by simp <;> omega) (fun q hq => (hrow2.lt q hq).1)
          have hb9 := (hbw2.alloc (by omega) _).trans hkb
          have HR10 := Lib.hid (rows_on HR9.out HV.out hrow2 hgr9)
          have HN := Lib.hid hown9
          clear hown9 hgr9 hrow2 hkb
          go_wp2_with fail
          go_roundw
          case rel => exact ⟨y + 1, _, by omega, by go_num, HN.out, HR10.out, hb9⟩
          case measure => simp [intOf] <;> omega
    · have hyn : y = m2 := by omega
      subst hyn
      obtain ⟨Vr, Cr, rfl⟩ := own_slice hrow
      have HT := Lib.hid (TR.of_own hrow)
      clear hrow
      go_wp2_with fail
      go_ret
      exact ⟨Vr, Cr, rfl, ⟨Vr, Cr, rs, rfl, HT.out, HRS.out⟩, hbo2⟩
end Go.Proofs.Ytaalfmijpbnpkaa
