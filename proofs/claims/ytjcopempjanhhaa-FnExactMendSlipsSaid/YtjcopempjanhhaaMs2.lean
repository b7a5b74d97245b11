/-
  Contracts: MendSlips.
-/
import Derived.Test.YtjcopempjanhhaaMs1
import Derived.Test.YtjcopempjanhhaaMv1
namespace Go.Proofs.Ytjcopempjanhhaa
open Go.RowKit
def mend1 (x : Msp) (l : List Bx) : Option (List Bx) :=
  if findL x.into l 0 < 0 then none else if findL x.code l 0 < 0 then none else
  if caseB (addC x.nn (addC (-x.nn) l (findL x.into l 0).toNat) (findL x.code l 0).toNat) then some (addC x.nn (addC (-x.nn) l (findL x.into l 0).toNat) (findL x.code l 0).toNat) else none
def mendL : List Msp → List Bx → Option (List Bx)
  | [], l => some l
  | x :: r, l => (mend1 x l).bind (mendL r)
def meR (bs : List Bx) (xs : List Msp) : Option (List Bx) := if caseB bs && slipsB xs then mendL xs bs else none
def meG (bs : List Bx) (xs : List Msp) : Bool := (meR bs xs).isSome
def meV (bs : List Bx) (xs : List Msp) : List Bx := (meR bs xs).getD []
theorem me_none {bs : List Bx} {xs : List Msp} (h : meR bs xs = none) : meG bs xs = false ∧ meV bs xs = [] := by rw [meG, meV, h]; exact ⟨rfl, rfl⟩
theorem me_some {bs l : List Bx} {xs : List Msp} (h : meR bs xs = some l) : meG bs xs = true ∧ meV bs xs = l := by rw [meG, meV, h]; exact ⟨rfl, rfl⟩
theorem caFind_is {A : Option Addr} {n cp : Nat} {ms : List Bx} {c : ByteArray} {w : World} {v : Int} (hr : RBxs w w.heap.size A n ms) (hn : n ≤ 1048576) (hv : findL c ms 0 = v) :
    Calls Try.prog 91 #[.slice A n cp, .string c] w fun e w' => e = .returned (.int .i64 v) ∧ Below w.heap.size w w' := by subst hv; exact caFind_any hr hn
theorem boxAt_is {A : Option Addr} {n cp : Nat} {ms : List Bx} {c : ByteArray} {w : World} {v : Int} (hr : RBxs w w.heap.size A n ms) (hn : n ≤ 1048576) (hv : findL c ms 0 = v) :
    Calls Try.prog 95 #[.slice A n cp, .string c] w fun e w' => e = .returned (.int .i64 v) ∧ Below w.heap.size w w' := by subst hv; exact boxAt_any hr hn
set_option maxRecDepth 100000 in
set_option maxHeartbeats 1000000 in
theorem mendSlips_spec {A A' : Option Addr} {n cp m cq : Nat} {bs : List Bx} {xs : List Msp} {w : World} (hr : RBxs w w.heap.size A n bs) (hn0 : n ≤ 1048576) (hcp : n ≤ cp) (hL : ∀ b ∈ bs, b.code.size ≤ 1048576) (hs : RMsps w w.heap.size A' m xs) (hm0 : m ≤ 1048576) (_ : m ≤ cq) (hM : ∀ x ∈ xs, x.code.size ≤ 1048576 ∧ x.into.size ≤ 1048576) :
    Calls Try.prog 44 #[.slice A n cp, .slice A' m cq] w fun e w' => ∃ V N C, e = .returned (.tuple #[.slice V N C, .bool (meG bs xs)]) ∧ w'.ownsRow w.heap.size 98 4 (.slice V N C) N ((meV bs xs).map Bx.row).flatten ∧ N ≤ 1048576 ∧ Below w.heap.size w w' := by
  cases h1 : caseB bs
  · have HG := Lib.hid (me_none (bs := bs) (xs := xs) (by rw [meR, h1]; rfl))
    go_enter Try.func44, Try.ntmps44
    go_wp2_with fail
    refine (caGood_any hr hn0 hcp hL).mono ?_
    rintro e1 w1 ⟨rfl, hb1⟩
    rw [h1]
    clear h1
    go_wp2_with fail
    go_ret2
    exact ⟨none, 0, 0, by rw [HG.out.1]; rfl, by rw [HG.out.2]; exact World.ownsRow_nil _ _ _ _, by omega, hb1⟩
  have H1 := Lib.hid h1
  cases h2 : slipsB xs
  · have HG := Lib.hid (me_none (bs := bs) (xs := xs) (by rw [meR, h2]; simp))
    go_enter Try.func44, Try.ntmps44
    go_wp2_with fail
    refine (caGood_any hr hn0 hcp hL).mono ?_
    rintro e1 w1 ⟨rfl, hb1⟩
    rw [h1]
    clear h1
    go_wp2_with fail
    refine (diSlips_any ((RMsps.below hs hb1).more hb1.size) hm0 hM).mono ?_
    rintro e1 w2 ⟨rfl, hn⟩
    rw [h2]
    clear h2
    replace hb1 := hb1.trans (hn.mono hb1.size)
    clear hn
    go_wp2_with fail
    go_ret2
    exact ⟨none, 0, 0, by rw [HG.out.1]; rfl, by rw [HG.out.2]; exact World.ownsRow_nil _ _ _ _, by omega, hb1⟩
  · have HME := Lib.hid (show meR bs xs = mendL xs bs by rw [meR, h1, h2]; rfl)
    obtain ⟨hnn, hml⟩ := slipsB_true h2
    have HNN := Lib.hid hnn
    obtain ⟨hcl, _⟩ := caseB_true h1
    have HL := Lib.hid hr.len
    have HLs := Lib.hid hs.len
    have hn32 : n ≤ 32 := by have := hr.len; omega
    have hn1 : 1 ≤ n := by have := hr.len; omega
    have hm20 : m ≤ 20 := by have := hs.len; omega
    have HX := Lib.hid hL
    clear hnn hml hcl
    obtain ⟨i0, hi, hz0, hz1, hz2⟩ := info_parts infoBox
    go_enter Try.func44, Try.ntmps44
    go_wp2_with fail
    refine (caGood_any hr hn0 hcp hL).mono ?_
    rintro e1 w1 ⟨rfl, hb1⟩
    rw [h1]
    clear h1
    go_wp2_with fail
    refine (diSlips_any ((RMsps.below hs hb1).more hb1.size) hm0 hM).mono ?_
    rintro e1 w2 ⟨rfl, hn⟩
    rw [h2]
    clear h2
    replace hb1 := hb1.trans (hn.mono hb1.size)
    clear hn
    have hr1 := (RBxs.below hr hb1).more hb1.size
    have h0 := own_emptyB w2 w.heap.size hb1.size
    obtain ⟨ad, hA, hcell⟩ : ∃ ad, A = some ad ∧ ∀ j u, ((bs.map Bx.row).flatten)[j]? = some u → (w2.alloc (.cells #[] 98)).cell? (ad.add j) = some u := by
      obtain ⟨ad, e, hb, hc⟩ := hr1.2.2.2 (by omega)
      exact ⟨ad, e, fun j u hu => by rw [World.cell?_alloc_lt w2 _ _ (by rw [block_of_add]; exact hb)]; exact hc j u hu⟩
    have HC := Lib.hid hcell
    have HLL := Lib.hid (show ((bs.map Bx.row).flatten).length = n * 4 from hr1.2.2.1)
    have HR0 := Lib.hid hr
    have HS := Lib.hid hs
    have HMM := Lib.hid hM
    clear hcell hr hs hr1 hL hM
    subst hA
    go_wp2_with (at_builtin; refine wpList_append_own _ rfl _ _ 29 rfl w.heap.size 98 i0 _ 4 40 Try.underlying29 hi hz0 hz1 hz2 rfl (by decide) _ 0 _ rfl h0 ad n _ ((bs.map Bx.row).flatten) rfl HLL.out HC.out (by intro u hu; obtain ⟨r, h1, h2⟩ := List.mem_flatten.1 hu; obtain ⟨x, _, rfl⟩ := List.mem_map.1 h1; simp [Bx.row] at h2; rcases h2 with rfl | rfl | rfl | rfl <;> rfl) (by unfold maxLen; omega) (by omega) (by simp <;> (have := hb1.size; omega)) ?_)
    intro v' w3 hown hgrow _
    have hkb := below_grown h0 (by simp <;> (have := hb1.size; omega)) hgrow
    have hb2 : Below w.heap.size w w3 := (hb1.alloc hb1.size _).trans hkb
    have hown2 : w3.ownsRow w.heap.size 98 4 v' n ((bs.map Bx.row).flatten) := by simpa using hown
    obtain ⟨g, cap, rfl⟩ : ∃ g cap, v' = .slice (some ⟨g, 0, none⟩) n cap := by
      rcases hown2.2 with ⟨_, h2⟩ | ⟨g, cap, cur, h1, _⟩
      · omega
      · exact ⟨g, cap, h1⟩
    have hcap := own_cap hown2
    clear hown hgrow hkb h0 hb1
    go_wp2_with fail
    go_loopw [24] (fun u wr => ∃ (k : Nat) (l : List Bx), k ≤ m ∧ u = .int .i64 k ∧ wr.ownsRow w.heap.size 98 4 (.slice (some ⟨g, 0, none⟩) n cap) n ((l.map Bx.row).flatten) ∧ mendL (xs.drop k) l = mendL xs bs ∧ l.map Bx.code = bs.map Bx.code ∧ caseB l = true ∧ Below w.heap.size w wr) (fun u _ => m - (intOf u).toNat)
    case atStart => exact ⟨0, bs, Nat.zero_le _, rfl, hown2, rfl, rfl, H1.out, hb2⟩
    case round =>
      clear hown2 hb2
      obtain ⟨k, l, hk, rfl, hown, hR, hcd, hct, hb⟩ := hrel
      have HO := Lib.hid hown
      have HCD := Lib.hid hcd
      have HCT := Lib.hid hct
      have hlen : l.length = n := (len_codes hcd).trans HL.out
      have HLE := Lib.hid hlen
      clear hct hlen
      by_cases hlt : k < m
      · obtain ⟨b2, o2, x, rfl, _, hd, hy, c0, c1, c2⟩ := RMsps.at_ (RMsps.below HS.out hb) hlt
        have hxn := HNN.out x (List.mem_of_getElem? hy)
        have hR2 : (mend1 x l).bind (mendL (xs.drop (k + 1))) = mendL xs bs := by rw [← hR, hd, mendL]
        have hRl := RBxs.of_own hown
        have HRx := Lib.hid (show ∀ y : Later (wr.heap.size + 1) (wr.alloc (.cells #[.string x.code, .string x.into, .int .i64 x.nn] 106)), RBxs y.wx y.wx.heap.size _ n _ from fun y => (RBxs.below ((RRow.alloc hRl (Nat.le_refl _) (.cells #[.string x.code, .string x.into, .int .i64 x.nn] 106)).more (B' := wr.heap.size + 1) (by omega)) y.ok).more (by have := y.ok.size; simp at this; omega))
        have hbox := Blk.new' wr 106 #[.string x.code, .string x.into, .int .i64 x.nn]
        have q0 : ∀ y : Later (wr.heap.size + 1) (wr.alloc (.cells #[.string x.code, .string x.into, .int .i64 x.nn] 106)), y.wx.cell? ⟨wr.heap.size, 0, none⟩ = some (.string x.code) := fun y => y.cell (by omega) (hbox.cell 0)
        have q1 : ∀ y : Later (wr.heap.size + 1) (wr.alloc (.cells #[.string x.code, .string x.into, .int .i64 x.nn] 106)), y.wx.cell? ⟨wr.heap.size, 1, none⟩ = some (.string x.into) := fun y => y.cell (by omega) (hbox.cell 1)
        have q2 : ∀ y : Later (wr.heap.size + 1) (wr.alloc (.cells #[.string x.code, .string x.into, .int .i64 x.nn] 106)), y.wx.cell? ⟨wr.heap.size, 2, none⟩ = some (.int .i64 x.nn) := fun y => y.cell (by omega) (hbox.cell 2)
        clear hR hd hy hown hcd hRl
        obtain ⟨vi, hvi⟩ : ∃ v, findL x.into l 0 = v := ⟨_, rfl⟩
        obtain ⟨vc, hvc⟩ : ∃ v, findL x.code l 0 = v := ⟨_, rfl⟩
        have HVI := Lib.hid hvi
        have HVC := Lib.hid hvc
        rcases (by omega : vi < 0 ∨ (0 ≤ vi ∧ vc < 0) ∨ (0 ≤ vi ∧ 0 ≤ vc)) with g1 | ⟨g1, g2⟩ | ⟨g1, g2⟩
        · have HG := Lib.hid (me_none (bs := bs) (xs := xs) (by rw [HME.out, ← hR2, mend1, if_pos (by omega)]; rfl))
          clear hR2 hvi hvc
          rcases (by omega : vc < 0 ∨ 0 ≤ vc) with g2 | g2
          all_goals
            go_wp2_with fail
            refine quiet_start (wr.heap.size + 1) (by kernel_rfl) (by kernel_rfl) ?_; (repeat (go_big_quiet_step ((first | (go_at_call 91; rename_i x; exact later_call (by simp) (caFind_is (HRx.out x) hn0 HVI.out)) | (go_at_call 91; rename_i x; exact later_call (by simp) (caFind_is (HRx.out x) hn0 HVC.out)))))); refine wpQuiet_nil ?_; rintro wx ⟨⟨wy, hn⟩, rfl⟩; (try dsimp only)
            have hbx := (hb.alloc hb.size (.cells #[.string x.code, .string x.into, .int .i64 x.nn] 106)).trans (hn.mono (by have := hb.size; omega))
            clear q0 q1 q2
            go_wp2_with fail
            go_ret2
            exact ⟨none, 0, 0, by rw [HG.out.1]; rfl, by rw [HG.out.2]; exact World.ownsRow_nil _ _ _ _, by omega, hbx⟩
        · have HG := Lib.hid (me_none (bs := bs) (xs := xs) (by rw [HME.out, ← hR2, mend1, if_neg (by omega), if_pos (by omega)]; rfl))
          clear hR2 hvi hvc
          go_wp2_with fail
          refine quiet_start (wr.heap.size + 1) (by kernel_rfl) (by kernel_rfl) ?_; (repeat (go_big_quiet_step ((first | (go_at_call 91; rename_i x; exact later_call (by simp) (caFind_is (HRx.out x) hn0 HVI.out)) | (go_at_call 91; rename_i x; exact later_call (by simp) (caFind_is (HRx.out x) hn0 HVC.out)))))); refine wpQuiet_nil ?_; rintro wx ⟨⟨wy, hn⟩, rfl⟩; (try dsimp only)
          have hbx := (hb.alloc hb.size (.cells #[.string x.code, .string x.into, .int .i64 x.nn] 106)).trans (hn.mono (by have := hb.size; omega))
          clear q0 q1 q2
          go_wp2_with fail
          go_ret2
          exact ⟨none, 0, 0, by rw [HG.out.1]; rfl, by rw [HG.out.2]; exact World.ownsRow_nil _ _ _ _, by omega, hbx⟩
        · obtain ⟨i, hfi, hil⟩ := find_nat (show 0 ≤ findL x.into l 0 by omega)
          obtain ⟨j, hfj, hjl⟩ := find_nat (show 0 ≤ findL x.code l 0 by omega)
          have hin : i < n := by have := HLE.out; omega
          have hjn : j < n := by have := HLE.out; omega
          obtain rfl : vi = (i : Int) := by omega
          obtain rfl : vc = (j : Int) := by omega
          obtain ⟨l1, hl1⟩ : ∃ l1, l1 = addC (-x.nn) l i := ⟨_, rfl⟩
          obtain ⟨l2, hl2⟩ : ∃ l2, l2 = addC x.nn l1 j := ⟨_, rfl⟩
          have hcd1 : l1.map Bx.code = l.map Bx.code := by rw [hl1]; exact addC_codes
          have hcd2 : l2.map Bx.code = bs.map Bx.code := by rw [hl2, addC_codes]; exact hcd1.trans HCD.out
          obtain ⟨b, hbi⟩ : ∃ b, l[i]? = some b := ⟨_, List.getElem?_eq_getElem (by omega)⟩
          obtain ⟨d, hdj⟩ : ∃ d, l1[j]? = some d := ⟨_, List.getElem?_eq_getElem (by rw [len_codes hcd1]; omega)⟩
          have hbc := count_bd HCT.out b (List.mem_of_getElem? hbi)
          have hdc : -99 ≤ d.count ∧ d.count ≤ 9999 := by
            have h9 := List.mem_of_getElem? hdj
            rw [hl1, addC_some hbi] at h9
            rcases List.mem_or_eq_of_mem_set h9 with h8 | h8
            · have := count_bd HCT.out d h8; omega
            · rw [h8]; simp only []; omega
          have hR3 : (if caseB l2 then some l2 else none).bind (mendL (xs.drop (k + 1))) = mendL xs bs := by
            rw [← hR2, mend1, if_neg (show ¬ findL x.into l 0 < 0 by omega), if_neg (show ¬ findL x.code l 0 < 0 by omega), hfi, hfj, Int.toNat_natCast, Int.toNat_natCast, ← hl1, ← hl2]
          have HBI := Lib.hid hbi
          have HDJ := Lib.hid hdj
          have HL1 := Lib.hid hl1
          have HL2 := Lib.hid hl2
          have HCD2 := Lib.hid hcd2
          clear hR2 hvi hvc hfi hfj hil hjl hl1 hl2 hcd1 hcd2 hbi hdj
          go_wp2_with fail
          refine quiet_start (wr.heap.size + 1) (by kernel_rfl) (by kernel_rfl) ?_; (repeat (go_big_quiet_step ((first | (go_at_call 91; rename_i x; exact later_call (by simp) (caFind_is (HRx.out x) hn0 HVI.out)) | (go_at_call 91; rename_i x; exact later_call (by simp) (caFind_is (HRx.out x) hn0 HVC.out)))))); refine wpQuiet_nil ?_; rintro wx ⟨⟨wy, hn⟩, rfl⟩; (try dsimp only)
          have hbx := (hb.alloc hb.size (.cells #[.string x.code, .string x.into, .int .i64 x.nn] 106)).trans (hn.mono (by have := hb.size; omega))
          clear q0 q1 q2
          have hox := row_below (row_alloc HO.out (.cells #[.string x.code, .string x.into, .int .i64 x.nn] 106)) hn (fun q hq => by have := (HO.out.lt q hq).2; omega)
          have hboxx := hbox.below hn (by omega)
          have HY := Lib.hid hox.1
          have hgb : w.heap.size ≤ g ∧ g < wr.heap.size := HO.out.lt g rfl
          have hsx : wr.heap.size + 1 ≤ wx.heap.size := by have := hn.size; simp at this; omega
          clear hbox hn
          have d0 : wx.cell? ⟨g, i * 4 + 3, none⟩ = some (.int .i64 b.count) := (hox.cellAt (i * 4 + 3) (by omega)).trans ((flatten_at (rows := l.map Bx.row) (k := i) (by simp [Bx.row]) (by rw [List.getElem?_map, HBI.out]; rfl) 3 (by omega)).trans rfl)
          have y0 := hox.frozenAt (i * 4 + 3)
          have p2 : _ = some (Value.int .i64 x.nn) := hboxx.cell 2
          have l0 : (0 : Int) ≤ (i : Int) := by omega
          have l1_ : (i : Int) < (n : Int) := by omega
          have l2_ : (0 : Int) ≤ (j : Int) := by omega
          have l3_ : (j : Int) < (n : Int) := by omega
          have ew : IntKind.i64.wrap (b.count - x.nn) = b.count - x.nn := wrapI (by omega) (by omega)
          go_wp2_with fail
          go_region
          clear d0 y0 p2
          generalize hwy : (wx.setCell ⟨g, i * 4 + 3, none⟩ (.int .i64 (b.count - x.nn))).drew = wy
          have s1 : wy.ownsRow w.heap.size 98 4 (.slice (some ⟨g, 0, none⟩) n cap) n ((l1.map Bx.row).flatten) := by
            have h9 := (hox.stored (i * 4 + 3) (.int .i64 (b.count - x.nn))).1
            rw [Int.sub_eq_add_neg, flat_set HBI.out, ← HL1.out] at h9
            rw [← hwy, Int.sub_eq_add_neg]
            exact h9
          have hby : Below w.heap.size w wy := by rw [← hwy]; exact (hbx.setCell (by simp only []; omega) _).drew
          have p3 : wy.cell? ⟨wr.heap.size, 2, none⟩ = some (.int .i64 x.nn) := by rw [← hwy]; exact (hboxx.far (p := ⟨g, i * 4 + 3, none⟩) (by simp only []; omega) (.int .i64 (b.count - x.nn))).cell 2
          clear hwy hboxx hox hbx HY
          have d1 : wy.cell? ⟨g, j * 4 + 3, none⟩ = some (.int .i64 d.count) := (s1.cellAt (j * 4 + 3) (by omega)).trans ((flatten_at (rows := l1.map Bx.row) (k := j) (by simp [Bx.row]) (by rw [List.getElem?_map, HDJ.out]; rfl) 3 (by omega)).trans rfl)
          have y1 := s1.frozenAt (j * 4 + 3)
          have ew2 : IntKind.i64.wrap (d.count + x.nn) = d.count + x.nn := wrapI (by omega) (by omega)
          have HS1 := Lib.hid s1
          clear s1
          have HXl := Lib.hid (mem_codes (P := fun c => c.size ≤ 1048576) HCD2.out HX.out)
          go_wp2_with fail
          go_region
          clear d1 y1 p3
          generalize hwz : (wy.setCell ⟨g, j * 4 + 3, none⟩ (.int .i64 (d.count + x.nn))).drew = wz
          have s2 : wz.ownsRow w.heap.size 98 4 (.slice (some ⟨g, 0, none⟩) n cap) n ((l2.map Bx.row).flatten) := by
            have h9 := (HS1.out.stored (j * 4 + 3) (.int .i64 (d.count + x.nn))).1
            rw [flat_set HDJ.out, ← HL2.out] at h9
            rw [← hwz]
            exact h9
          have hb3 : Below w.heap.size w wz := by rw [← hwz]; exact (hby.setCell (by simp only []; omega) _).drew
          have HS2 := Lib.hid s2
          clear hwz s2
          go_wp2_with fail
          cases h2 : caseB l2
          · have HG := Lib.hid (me_none (bs := bs) (xs := xs) (by rw [HME.out, ← hR3, h2]; rfl))
            clear hR3
            refine (caGood_any (RBxs.of_own HS2.out) hn0 hcap HXl.out).mono ?_
            rintro e1 w5 ⟨rfl, hn⟩
            rw [h2]
            clear h2
            replace hb3 := hb3.trans (hn.mono hb3.size)
            go_wp2_with fail
            go_ret2
            exact ⟨none, 0, 0, by rw [HG.out.1]; rfl, by rw [HG.out.2]; exact World.ownsRow_nil _ _ _ _, by omega, hb3⟩
          · have HR := Lib.hid (show mendL (xs.drop (k + 1)) l2 = mendL xs bs by rw [← hR3, h2]; rfl)
            have HC2 := Lib.hid h2
            clear hR3
            refine (caGood_any (RBxs.of_own HS2.out) hn0 hcap HXl.out).mono ?_
            rintro e1 w5 ⟨rfl, hn⟩
            rw [h2]
            clear h2
            have ho5 := Lib.hid (row_step HS2.out hn)
            replace hb3 := hb3.trans (hn.mono hb3.size)
            go_wp2_with fail
            go_roundw
            case rel => exact ⟨k + 1, l2, by omega, by go_num, ho5.out, HR.out, HCD2.out, HC2.out, hb3⟩
            case measure => simp [intOf]; omega
      · have HG := Lib.hid (me_some (bs := bs) (xs := xs) (l := l) (by rw [HME.out, ← hR, drop_end HLs.out hlt]; rfl))
        clear hR hown
        go_wp2_with fail
        go_ret2
        exact ⟨some ⟨g, 0, none⟩, n, cap, by rw [HG.out.1]; rfl, by rw [HG.out.2]; exact HO.out, by omega, hb⟩
set_option maxRecDepth 100000 in
set_option maxHeartbeats 1000000 in
theorem mendSlips_impl {A A' : Option Addr} {n cp m cq : Nat} {bs : List Bx} {xs : List Msp} {w : World} (hr : RBxs w w.heap.size A n bs) (hn0 : n ≤ 1048576) (hcp : n ≤ cp) (hL : ∀ b ∈ bs, b.code.size ≤ 1048576) (hs : RMsps w w.heap.size A' m xs) (hm0 : m ≤ 1048576) (_ : m ≤ cq) (hM : ∀ x ∈ xs, x.code.size ≤ 1048576 ∧ x.into.size ≤ 1048576) :
    Calls Try.prog 46 #[.slice A n cp, .slice A' m cq] w fun e w' => ∃ V N C, e = .returned (.tuple #[.slice V N C, .bool (meG bs xs)]) ∧ w'.ownsRow w.heap.size 98 4 (.slice V N C) N ((meV bs xs).map Bx.row).flatten ∧ N ≤ 1048576 ∧ Below w.heap.size w w' := by
  cases h1 : caseB bs
  · have HG := Lib.hid (me_none (bs := bs) (xs := xs) (by rw [meR, h1]; rfl))
    go_enter Try.func46, Try.ntmps46
    go_wp2_with fail
    refine (isCase_any hr hn0 hcp hL).mono ?_
    rintro e1 w1 ⟨rfl, hb1⟩
    rw [h1]
    clear h1
    go_wp2_with fail
    go_ret2
    exact ⟨some ⟨w1.heap.size, 0, none⟩, 0, 0, by rw [HG.out.1]; rfl, by rw [HG.out.2]; exact own_emptyB w1 w.heap.size hb1.size, by omega, hb1.alloc hb1.size _⟩
  have H1 := Lib.hid h1
  cases h2 : slipsB xs
  · have HG := Lib.hid (me_none (bs := bs) (xs := xs) (by rw [meR, h2]; simp))
    go_enter Try.func46, Try.ntmps46
    go_wp2_with fail
    refine (isCase_any hr hn0 hcp hL).mono ?_
    rintro e1 w1 ⟨rfl, hb1⟩
    rw [h1]
    clear h1
    go_wp2_with fail
    refine (areSlips_any ((RMsps.below hs hb1).more hb1.size) hm0 hM).mono ?_
    rintro e1 w2 ⟨rfl, hn⟩
    rw [h2]
    clear h2
    replace hb1 := hb1.trans (hn.mono hb1.size)
    clear hn
    go_wp2_with fail
    go_ret2
    exact ⟨some ⟨w2.heap.size, 0, none⟩, 0, 0, by rw [HG.out.1]; rfl, by rw [HG.out.2]; exact own_emptyB w2 w.heap.size hb1.size, by omega, hb1.alloc hb1.size _⟩
  · have HME := Lib.hid (show meR bs xs = mendL xs bs by rw [meR, h1, h2]; rfl)
    obtain ⟨hnn, hml⟩ := slipsB_true h2
    have HNN := Lib.hid hnn
    obtain ⟨hcl, _⟩ := caseB_true h1
    have HL := Lib.hid hr.len
    have HLs := Lib.hid hs.len
    have hn32 : n ≤ 32 := by have := hr.len; omega
    have hn1 : 1 ≤ n := by have := hr.len; omega
    have hm20 : m ≤ 20 := by have := hs.len; omega
    have HX := Lib.hid hL
    clear hnn hml hcl
    obtain ⟨i0, hi, hz0, hz1, hz2⟩ := info_parts infoBox
    go_enter Try.func46, Try.ntmps46
    go_wp2_with fail
    refine (isCase_any hr hn0 hcp hL).mono ?_
    rintro e1 w1 ⟨rfl, hb1⟩
    rw [h1]
    clear h1
    go_wp2_with fail
    refine (areSlips_any ((RMsps.below hs hb1).more hb1.size) hm0 hM).mono ?_
    rintro e1 w2 ⟨rfl, hn⟩
    rw [h2]
    clear h2
    replace hb1 := hb1.trans (hn.mono hb1.size)
    clear hn
    have hr1 := (RBxs.below hr hb1).more hb1.size
    have h0 := own_emptyB w2 w.heap.size hb1.size
    obtain ⟨ad, hA, hcell⟩ : ∃ ad, A = some ad ∧ ∀ j u, ((bs.map Bx.row).flatten)[j]? = some u → (w2.alloc (.cells #[] 98)).cell? (ad.add j) = some u := by
      obtain ⟨ad, e, hb, hc⟩ := hr1.2.2.2 (by omega)
      exact ⟨ad, e, fun j u hu => by rw [World.cell?_alloc_lt w2 _ _ (by rw [block_of_add]; exact hb)]; exact hc j u hu⟩
    have HC := Lib.hid hcell
    have HLL := Lib.hid (show ((bs.map Bx.row).flatten).length = n * 4 from hr1.2.2.1)
    have HR0 := Lib.hid hr
    have HS := Lib.hid hs
    have HMM := Lib.hid hM
    clear hcell hr hs hr1 hL hM
    subst hA
    go_wp2_with (at_builtin; refine wpList_append_own _ rfl _ _ 29 rfl w.heap.size 98 i0 _ 4 40 Try.underlying29 hi hz0 hz1 hz2 rfl (by decide) _ 0 _ rfl h0 ad n _ ((bs.map Bx.row).flatten) rfl HLL.out HC.out (by intro u hu; obtain ⟨r, h1, h2⟩ := List.mem_flatten.1 hu; obtain ⟨x, _, rfl⟩ := List.mem_map.1 h1; simp [Bx.row] at h2; rcases h2 with rfl | rfl | rfl | rfl <;> rfl) (by unfold maxLen; omega) (by omega) (by simp <;> (have := hb1.size; omega)) ?_)
    intro v' w3 hown hgrow _
    have hkb := below_grown h0 (by simp <;> (have := hb1.size; omega)) hgrow
    have hb2 : Below w.heap.size w w3 := (hb1.alloc hb1.size _).trans hkb
    have hown2 : w3.ownsRow w.heap.size 98 4 v' n ((bs.map Bx.row).flatten) := by simpa using hown
    obtain ⟨g, cap, rfl⟩ : ∃ g cap, v' = .slice (some ⟨g, 0, none⟩) n cap := by
      rcases hown2.2 with ⟨_, h2⟩ | ⟨g, cap, cur, h1, _⟩
      · omega
      · exact ⟨g, cap, h1⟩
    have hcap := own_cap hown2
    clear hown hgrow hkb h0 hb1
    go_wp2_with fail
    go_loopw [25] (fun u wr => ∃ (k : Nat) (l : List Bx), k ≤ m ∧ u = .int .i64 k ∧ wr.ownsRow w.heap.size 98 4 (.slice (some ⟨g, 0, none⟩) n cap) n ((l.map Bx.row).flatten) ∧ mendL (xs.drop k) l = mendL xs bs ∧ l.map Bx.code = bs.map Bx.code ∧ caseB l = true ∧ Below w.heap.size w wr) (fun u _ => m - (intOf u).toNat)
    case atStart => exact ⟨0, bs, Nat.zero_le _, rfl, hown2, rfl, rfl, H1.out, hb2⟩
    case round =>
      clear hown2 hb2
      obtain ⟨k, l, hk, rfl, hown, hR, hcd, hct, hb⟩ := hrel
      have HO := Lib.hid hown
      have HCD := Lib.hid hcd
      have HCT := Lib.hid hct
      have hlen : l.length = n := (len_codes hcd).trans HL.out
      have HLE := Lib.hid hlen
      clear hct hlen
      by_cases hlt : k < m
      · obtain ⟨b2, o2, x, rfl, _, hd, hy, c0, c1, c2⟩ := RMsps.at_ (RMsps.below HS.out hb) hlt
        have hxn := HNN.out x (List.mem_of_getElem? hy)
        have hR2 : (mend1 x l).bind (mendL (xs.drop (k + 1))) = mendL xs bs := by rw [← hR, hd, mendL]
        have hRl := (RBxs.below HR0.out hb).more hb.size
        have HRx := Lib.hid (show ∀ y : Later (wr.heap.size + 1) (wr.alloc (.cells #[.string x.code, .string x.into, .int .i64 x.nn] 106)), RBxs y.wx y.wx.heap.size _ n _ from fun y => (RBxs.below ((RRow.alloc hRl (Nat.le_refl _) (.cells #[.string x.code, .string x.into, .int .i64 x.nn] 106)).more (B' := wr.heap.size + 1) (by omega)) y.ok).more (by have := y.ok.size; simp at this; omega))
        have hbox := Blk.new' wr 106 #[.string x.code, .string x.into, .int .i64 x.nn]
        have q0 : ∀ y : Later (wr.heap.size + 1) (wr.alloc (.cells #[.string x.code, .string x.into, .int .i64 x.nn] 106)), y.wx.cell? ⟨wr.heap.size, 0, none⟩ = some (.string x.code) := fun y => y.cell (by omega) (hbox.cell 0)
        have q1 : ∀ y : Later (wr.heap.size + 1) (wr.alloc (.cells #[.string x.code, .string x.into, .int .i64 x.nn] 106)), y.wx.cell? ⟨wr.heap.size, 1, none⟩ = some (.string x.into) := fun y => y.cell (by omega) (hbox.cell 1)
        have q2 : ∀ y : Later (wr.heap.size + 1) (wr.alloc (.cells #[.string x.code, .string x.into, .int .i64 x.nn] 106)), y.wx.cell? ⟨wr.heap.size, 2, none⟩ = some (.int .i64 x.nn) := fun y => y.cell (by omega) (hbox.cell 2)
        clear hR hd hy hown hcd hRl
        obtain ⟨vi, hvi⟩ : ∃ v, findL x.into l 0 = v := ⟨_, rfl⟩
        obtain ⟨vc, hvc⟩ : ∃ v, findL x.code l 0 = v := ⟨_, rfl⟩
        have HVI := Lib.hid hvi
        have HVC := Lib.hid hvc
        rcases (by omega : vi < 0 ∨ (0 ≤ vi ∧ vc < 0) ∨ (0 ≤ vi ∧ 0 ≤ vc)) with g1 | ⟨g1, g2⟩ | ⟨g1, g2⟩
        · have HG := Lib.hid (me_none (bs := bs) (xs := xs) (by rw [HME.out, ← hR2, mend1, if_pos (by omega)]; rfl))
          clear hR2 hvi hvc
          rcases (by omega : vc < 0 ∨ 0 ≤ vc) with g2 | g2
          all_goals
            go_wp2_with fail
            refine quiet_start (wr.heap.size + 1) (by kernel_rfl) (by kernel_rfl) ?_; (repeat (go_big_quiet_step ((first | (go_at_call 95; rename_i x; exact later_call (by simp) (boxAt_is (HRx.out x) hn0 ((findL_codes HCD.out).symm.trans HVI.out))) | (go_at_call 95; rename_i x; exact later_call (by simp) (boxAt_is (HRx.out x) hn0 ((findL_codes HCD.out).symm.trans HVC.out))))))); refine wpQuiet_nil ?_; rintro wx ⟨⟨wy, hn⟩, rfl⟩; (try dsimp only)
            have hbx := (hb.alloc hb.size (.cells #[.string x.code, .string x.into, .int .i64 x.nn] 106)).trans (hn.mono (by have := hb.size; omega))
            clear q0 q1 q2
            go_wp2_with fail
            go_ret2
            exact ⟨some ⟨wx.heap.size, 0, none⟩, 0, 0, by rw [HG.out.1]; rfl, by rw [HG.out.2]; exact own_emptyB wx w.heap.size hbx.size, by omega, hbx.alloc hbx.size _⟩
        · have HG := Lib.hid (me_none (bs := bs) (xs := xs) (by rw [HME.out, ← hR2, mend1, if_neg (by omega), if_pos (by omega)]; rfl))
          clear hR2 hvi hvc
          go_wp2_with fail
          refine quiet_start (wr.heap.size + 1) (by kernel_rfl) (by kernel_rfl) ?_; (repeat (go_big_quiet_step ((first | (go_at_call 95; rename_i x; exact later_call (by simp) (boxAt_is (HRx.out x) hn0 ((findL_codes HCD.out).symm.trans HVI.out))) | (go_at_call 95; rename_i x; exact later_call (by simp) (boxAt_is (HRx.out x) hn0 ((findL_codes HCD.out).symm.trans HVC.out))))))); refine wpQuiet_nil ?_; rintro wx ⟨⟨wy, hn⟩, rfl⟩; (try dsimp only)
          have hbx := (hb.alloc hb.size (.cells #[.string x.code, .string x.into, .int .i64 x.nn] 106)).trans (hn.mono (by have := hb.size; omega))
          clear q0 q1 q2
          go_wp2_with fail
          go_ret2
          exact ⟨some ⟨wx.heap.size, 0, none⟩, 0, 0, by rw [HG.out.1]; rfl, by rw [HG.out.2]; exact own_emptyB wx w.heap.size hbx.size, by omega, hbx.alloc hbx.size _⟩
        · obtain ⟨i, hfi, hil⟩ := find_nat (show 0 ≤ findL x.into l 0 by omega)
          obtain ⟨j, hfj, hjl⟩ := find_nat (show 0 ≤ findL x.code l 0 by omega)
          have hin : i < n := by have := HLE.out; omega
          have hjn : j < n := by have := HLE.out; omega
          obtain rfl : vi = (i : Int) := by omega
          obtain rfl : vc = (j : Int) := by omega
          obtain ⟨l1, hl1⟩ : ∃ l1, l1 = addC (-x.nn) l i := ⟨_, rfl⟩
          obtain ⟨l2, hl2⟩ : ∃ l2, l2 = addC x.nn l1 j := ⟨_, rfl⟩
          have hcd1 : l1.map Bx.code = l.map Bx.code := by rw [hl1]; exact addC_codes
          have hcd2 : l2.map Bx.code = bs.map Bx.code := by rw [hl2, addC_codes]; exact hcd1.trans HCD.out
          obtain ⟨b, hbi⟩ : ∃ b, l[i]? = some b := ⟨_, List.getElem?_eq_getElem (by omega)⟩
          obtain ⟨d, hdj⟩ : ∃ d, l1[j]? = some d := ⟨_, List.getElem?_eq_getElem (by rw [len_codes hcd1]; omega)⟩
          have hbc := count_bd HCT.out b (List.mem_of_getElem? hbi)
          have hdc : -99 ≤ d.count ∧ d.count ≤ 9999 := by
            have h9 := List.mem_of_getElem? hdj
            rw [hl1, addC_some hbi] at h9
            rcases List.mem_or_eq_of_mem_set h9 with h8 | h8
            · have := count_bd HCT.out d h8; omega
            · rw [h8]; simp only []; omega
          have hR3 : (if caseB l2 then some l2 else none).bind (mendL (xs.drop (k + 1))) = mendL xs bs := by
            rw [← hR2, mend1, if_neg (show ¬ findL x.into l 0 < 0 by omega), if_neg (show ¬ findL x.code l 0 < 0 by omega), hfi, hfj, Int.toNat_natCast, Int.toNat_natCast, ← hl1, ← hl2]
          have HBI := Lib.hid hbi
          have HDJ := Lib.hid hdj
          have HL1 := Lib.hid hl1
          have HL2 := Lib.hid hl2
          have HCD2 := Lib.hid hcd2
          clear hR2 hvi hvc hfi hfj hil hjl hl1 hl2 hcd1 hcd2 hbi hdj
          go_wp2_with fail
          refine quiet_start (wr.heap.size + 1) (by kernel_rfl) (by kernel_rfl) ?_; (repeat (go_big_quiet_step ((first | (go_at_call 95; rename_i x; exact later_call (by simp) (boxAt_is (HRx.out x) hn0 ((findL_codes HCD.out).symm.trans HVI.out))) | (go_at_call 95; rename_i x; exact later_call (by simp) (boxAt_is (HRx.out x) hn0 ((findL_codes HCD.out).symm.trans HVC.out))))))); refine wpQuiet_nil ?_; rintro wx ⟨⟨wy, hn⟩, rfl⟩; (try dsimp only)
          have hbx := (hb.alloc hb.size (.cells #[.string x.code, .string x.into, .int .i64 x.nn] 106)).trans (hn.mono (by have := hb.size; omega))
          clear q0 q1 q2
          have hox := row_below (row_alloc HO.out (.cells #[.string x.code, .string x.into, .int .i64 x.nn] 106)) hn (fun q hq => by have := (HO.out.lt q hq).2; omega)
          have hboxx := hbox.below hn (by omega)
          have HY := Lib.hid hox.1
          have hgb : w.heap.size ≤ g ∧ g < wr.heap.size := HO.out.lt g rfl
          have hsx : wr.heap.size + 1 ≤ wx.heap.size := by have := hn.size; simp at this; omega
          clear hbox hn
          have d0 : wx.cell? ⟨g, i * 4 + 3, none⟩ = some (.int .i64 b.count) := (hox.cellAt (i * 4 + 3) (by omega)).trans ((flatten_at (rows := l.map Bx.row) (k := i) (by simp [Bx.row]) (by rw [List.getElem?_map, HBI.out]; rfl) 3 (by omega)).trans rfl)
          have y0 := hox.frozenAt (i * 4 + 3)
          have p2 : _ = some (Value.int .i64 x.nn) := hboxx.cell 2
          have l0 : (0 : Int) ≤ (i : Int) := by omega
          have l1_ : (i : Int) < (n : Int) := by omega
          have l2_ : (0 : Int) ≤ (j : Int) := by omega
          have l3_ : (j : Int) < (n : Int) := by omega
          have ew : IntKind.i64.wrap (b.count - x.nn) = b.count - x.nn := wrapI (by omega) (by omega)
          go_wp2_with fail
          go_region
          clear d0 y0 p2
          generalize hwy : (wx.setCell ⟨g, i * 4 + 3, none⟩ (.int .i64 (b.count - x.nn))).drew = wy
          have s1 : wy.ownsRow w.heap.size 98 4 (.slice (some ⟨g, 0, none⟩) n cap) n ((l1.map Bx.row).flatten) := by
            have h9 := (hox.stored (i * 4 + 3) (.int .i64 (b.count - x.nn))).1
            rw [Int.sub_eq_add_neg, flat_set HBI.out, ← HL1.out] at h9
            rw [← hwy, Int.sub_eq_add_neg]
            exact h9
          have hby : Below w.heap.size w wy := by rw [← hwy]; exact (hbx.setCell (by simp only []; omega) _).drew
          have p3 : wy.cell? ⟨wr.heap.size, 2, none⟩ = some (.int .i64 x.nn) := by rw [← hwy]; exact (hboxx.far (p := ⟨g, i * 4 + 3, none⟩) (by simp only []; omega) (.int .i64 (b.count - x.nn))).cell 2
          clear hwy hboxx hox hbx HY
          have d1 : wy.cell? ⟨g, j * 4 + 3, none⟩ = some (.int .i64 d.count) := (s1.cellAt (j * 4 + 3) (by omega)).trans ((flatten_at (rows := l1.map Bx.row) (k := j) (by simp [Bx.row]) (by rw [List.getElem?_map, HDJ.out]; rfl) 3 (by omega)).trans rfl)
          have y1 := s1.frozenAt (j * 4 + 3)
          have ew2 : IntKind.i64.wrap (d.count + x.nn) = d.count + x.nn := wrapI (by omega) (by omega)
          have HS1 := Lib.hid s1
          clear s1
          have HXl := Lib.hid (mem_codes (P := fun c => c.size ≤ 1048576) HCD2.out HX.out)
          go_wp2_with fail
          go_region
          clear d1 y1 p3
          generalize hwz : (wy.setCell ⟨g, j * 4 + 3, none⟩ (.int .i64 (d.count + x.nn))).drew = wz
          have s2 : wz.ownsRow w.heap.size 98 4 (.slice (some ⟨g, 0, none⟩) n cap) n ((l2.map Bx.row).flatten) := by
            have h9 := (HS1.out.stored (j * 4 + 3) (.int .i64 (d.count + x.nn))).1
            rw [flat_set HDJ.out, ← HL2.out] at h9
            rw [← hwz]
            exact h9
          have hb3 : Below w.heap.size w wz := by rw [← hwz]; exact (hby.setCell (by simp only []; omega) _).drew
          have HS2 := Lib.hid s2
          clear hwz s2
          go_wp2_with fail
          cases h2 : caseB l2
          · have HG := Lib.hid (me_none (bs := bs) (xs := xs) (by rw [HME.out, ← hR3, h2]; rfl))
            clear hR3
            refine (isCase_any (RBxs.of_own HS2.out) hn0 hcap HXl.out).mono ?_
            rintro e1 w5 ⟨rfl, hn⟩
            rw [h2]
            clear h2
            replace hb3 := hb3.trans (hn.mono hb3.size)
            go_wp2_with fail
            go_ret2
            exact ⟨some ⟨w5.heap.size, 0, none⟩, 0, 0, by rw [HG.out.1]; rfl, by rw [HG.out.2]; exact own_emptyB w5 w.heap.size hb3.size, by omega, hb3.alloc hb3.size _⟩
          · have HR := Lib.hid (show mendL (xs.drop (k + 1)) l2 = mendL xs bs by rw [← hR3, h2]; rfl)
            have HC2 := Lib.hid h2
            clear hR3
            refine (isCase_any (RBxs.of_own HS2.out) hn0 hcap HXl.out).mono ?_
            rintro e1 w5 ⟨rfl, hn⟩
            rw [h2]
            clear h2
            have ho5 := Lib.hid (row_step HS2.out hn)
            replace hb3 := hb3.trans (hn.mono hb3.size)
            go_wp2_with fail
            go_roundw
            case rel => exact ⟨k + 1, l2, by omega, by go_num, ho5.out, HR.out, HCD2.out, HC2.out, hb3⟩
            case measure => simp [intOf]; omega
      · have HG := Lib.hid (me_some (bs := bs) (xs := xs) (l := l) (by rw [HME.out, ← hR, drop_end HLs.out hlt]; rfl))
        clear hR hown
        go_wp2_with fail
        go_ret2
        exact ⟨some ⟨g, 0, none⟩, n, cap, by rw [HG.out.1]; rfl, by rw [HG.out.2]; exact HO.out, by omega, hb⟩
end Go.Proofs.Ytjcopempjanhhaa
