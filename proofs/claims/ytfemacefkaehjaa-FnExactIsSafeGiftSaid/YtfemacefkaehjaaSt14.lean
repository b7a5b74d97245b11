/-
  Contracts: the program's GiveSorts.
-/
import Derived.Test.YtfemacefkaehjaaSt13
import Derived.Deep.RegionHeld3
namespace Go.Proofs.Ytfemacefkaehjaa
open Go.RowKit
/-- What both sides hand back. -/
def GvPost (fr : List Int) (fs : List Frm) (i : Int) (ct : List Int) (w : World) (e : Ending) (w' : World) : Prop :=
  ∃ V N C U M E ys, e = .returned (.tuple #[.slice V N C, .slice U M E, .bool (gvG fr fs i ct)]) ∧ Own w' w.heap.size (.slice V N C) N (gvF fr fs i ct) ∧ RF w' w.heap.size (.slice U M E) M ys (gvL fr fs i ct) ∧ Nin (.slice V N C) ys ∧ N ≤ 1048576 ∧ Below w.heap.size w w'
theorem GvPost.no {fr : List Int} {fs : List Frm} {i : Int} {ct : List Int} {w w1 : World} (hG : gvG fr fs i ct = false) (hb : Below w.heap.size w w1) :
    GvPost fr fs i ct w (.returned (.tuple #[.slice (some ⟨w1.heap.size, 0, none⟩) 0 0, .slice (some ⟨w1.heap.size + 1, 0, none⟩) 0 0, .bool false])) ((w1.alloc (.cells #[] 3)).alloc (.cells #[] 40)) :=
  ⟨some ⟨w1.heap.size, 0, none⟩, 0, 0, some ⟨w1.heap.size + 1, 0, none⟩, 0, 0, [], by rw [hG], by rw [(gv_no hG).1]; exact row_alloc (own_empty w1 w.heap.size hb.size) _, by rw [(gv_no hG).2]; simpa using RF.empty (w1.alloc (.cells #[] 3)) w.heap.size (by have := hb.size; simp; omega), Nin.nil _, by omega, (hb.alloc hb.size _).alloc (by have := hb.size; simp; omega) _⟩
theorem GvPost.nil {fr : List Int} {fs : List Frm} {i : Int} {ct : List Int} {w w1 : World} (hG : gvG fr fs i ct = false) (hb : Below w.heap.size w w1) :
    GvPost fr fs i ct w (.returned (.tuple #[.slice none 0 0, .slice none 0 0, .bool false])) w1 :=
  ⟨none, 0, 0, none, 0, 0, [], by rw [hG], by rw [(gv_no hG).1]; exact own_nil _ _, by rw [(gv_no hG).2]; exact RF.nil _ _, Nin.nil _, by omega, hb⟩
theorem GvPost.yes {fr : List Int} {fs : List Frm} {i : Int} {ct : List Int} {w w' : World} {V U : Option Addr} {N C M E : Nat} {ys : List FV} (hG : gvG fr fs i ct = true) (ho : Own w' w.heap.size (.slice V N C) N (gvF0 fr ct)) (hf : RF w' w.heap.size (.slice U M E) M ys (gvL0 fs i ct)) (hn : Nin (.slice V N C) ys) (hN : N ≤ 1048576) (hb : Below w.heap.size w w') :
    GvPost fr fs i ct w (.returned (.tuple #[.slice V N C, .slice U M E, .bool true])) w' :=
  ⟨V, N, C, U, M, E, ys, by rw [hG], by rw [(gv_yes hG).1]; exact ho, by rw [(gv_yes hG).2]; exact hf, hn, hN, hb⟩
theorem OwnF.at_ {w : World} {B n c g j : Nat} {ys : List FV} {y : FV} (h : OwnF w B (.slice (some ⟨g, 0, none⟩) n c) n ys) (hy : ys[j]? = some y) : w.cell? ⟨g, j * 2, none⟩ = some y.v1 ∧ w.cell? ⟨g, j * 2 + 1, none⟩ = some y.v2 := by
  have := h.rows j y hy
  rwa [Nat.zero_add] at this
theorem gv_len {fs : List Frm} {i : Int} {ct : List Int} {n : Nat} (h : ∀ f ∈ fs, f.held.length = n ∧ f.wanted.length = n) (hi : i.toNat < fs.length) (hc : ct.length = n) : ∀ f ∈ gvL0 fs i ct, f.held.length = n ∧ f.wanted.length = n := by
  intro f hf
  rw [gvL0] at hf
  rcases List.mem_or_eq_of_mem_set hf with hf | rfl
  · exact h f hf
  · have h2 := h _ (List.mem_of_getElem? (frmAt_get hi))
    exact ⟨by rw [giveF, sumL_len (by omega)]; exact h2.1, by rw [giveF, sumL_len (by rw [negL_len]; omega)]; exact h2.2⟩
theorem map_put {zs ys0 : List FV} {j : Nat} {y y2 : FV} {ct : List Int} (hm : zs.map FV.f = ys0.map FV.f) (hy : ys0[j]? = some y) (h2 : y2.f = giveF y.f ct) : (zs.set j y2).map FV.f = gvL0 (ys0.map FV.f) (j : Int) ct := by
  rw [List.map_set, hm, h2, gvL0, Int.toNat_natCast, frmAt_nat hy]
set_option maxRecDepth 100000 in
set_option maxHeartbeats 4000000 in
theorem giveSorts_impl {A B D : Option Addr} {n c m d n2 c2 : Nat} {fr : List Int} {fs : List Frm} {i : Int} {ct : List Int} {w : World} (hr : RInts w w.heap.size A n fr) (hn0 : n ≤ 1048576) (hs : AForms w B m fs) (hm0 : m ≤ 1048576) (hI : -9223372036854775808 ≤ i ∧ i ≤ 9223372036854775807) (hct : RInts w w.heap.size D n2 ct) (hn20 : n2 ≤ 1048576) :
    Calls Try.prog 9 #[.slice A n c, .slice B m d, .int .i64 i, .slice D n2 c2] w fun e w' => GvPost fr fs i ct w e w' := by
  have HFR := Lib.hid hr.len
  have HCL := Lib.hid hct.len
  cases h1 : askG fr fs i
  · have HG := Lib.hid (show gvG fr fs i ct = false by rw [gvG, gvA, h1]; rfl)
    (go_enter Try.func9, Try.ntmps9; go_wp2_with fail; refine (isForm_any hr hn0 hs hm0).mono ?_; rintro e w1 ⟨rfl, hb1⟩)
    rw [h1]
    clear h1
    go_wp2_with fail
    go_ret3
    exact GvPost.no HG.out hb1
  by_cases hl : n = n2
  case neg =>
    have HG := Lib.hid (show gvG fr fs i ct = false by rw [gvG, gvA, h1, decide_eq_false (by have := HFR.out; have := HCL.out; omega)]; rfl)
    (go_enter Try.func9, Try.ntmps9; go_wp2_with fail; refine (isForm_any hr hn0 hs hm0).mono ?_; rintro e w1 ⟨rfl, hb1⟩)
    rw [h1]
    clear h1
    have e1 := ne_t' (show (n2 : Int) ≠ (n : Int) by omega)
    have e2 := e1.1
    have e3 := e1.2
    clear e1
    go_wp2_with fail
    go_ret3
    exact GvPost.no HG.out hb1
  subst hl
  have HGA := Lib.hid (show gvA fr fs i ct = true by rw [gvA, h1, decide_eq_true (by have := HFR.out; have := HCL.out; omega)]; rfl)
  obtain ⟨q1, q2, q3⟩ := ask_true h1
  obtain ⟨t1, t2, t3, t4⟩ := stG_true q1
  have HF := Lib.hid t4
  have HM := Lib.hid hs.len
  have HT2 := Lib.hid t2
  have q4 : i < m := by have := HM.out; omega
  have hm8 : m ≤ 8 := by have := HM.out; omega
  have hn6 : n ≤ 6 := by have := HFR.out; omega
  have hn1 : 1 ≤ n := by have := HFR.out; omega
  have HI9 := Lib.hid (show i.toNat < fs.length by omega)
  clear t2 t4 q1 t1 t3
  have e1 := ne_f' (show (n : Int) = (n : Int) from rfl)
  have e2 := e1.1
  have e3 := e1.2
  clear e1
  have HCT := Lib.hid hct
  have HR := Lib.hid hr
  (go_enter Try.func9, Try.ntmps9; go_wp2_with fail; refine (isForm_any hr hn0 hs hm0).mono ?_; rintro e w1 ⟨rfl, hb1⟩)
  rw [h1]
  clear h1 hr
  go_wp2_with fail
  clear e2 e3
  go_loop [31] (fun u => ∃ k : Nat, k ≤ n ∧ u = .int .i64 k ∧ allB 0 1000 (ct.drop k) = allB 0 1000 ct) (fun u => n - (intOf u).toNat)
  case atStart => exact ⟨0, Nat.zero_le _, rfl, rfl⟩
  case round =>
    obtain ⟨k, hk, rfl, hR⟩ := hrel
    have HRE := Lib.hid hR
    clear hR
    by_cases hlt : k < n
    · obtain ⟨ad, x, rfl, _, hd, _, hc⟩ := RInts.at_ (HCT.out.below hb1) hlt
      have HD := Lib.hid hd
      clear hd
      cases h : inB x 0 1000
      · have HG := Lib.hid (show gvG fr fs i ct = false by rw [gvG, show allB 0 1000 ct = false by rw [← HRE.out, HD.out]; simp [allB, h]]; simp)
        have hx := inB_false.1 h
        clear h
        by_cases h0 : x < 0
        · go_wp2_with fail
          go_ret3
          exact GvPost.no HG.out hb1
        · have hx2 : 1000 < x := by omega
          have hx3 : 0 ≤ x := by omega
          clear hx
          go_wp2_with fail
          go_ret3
          exact GvPost.no HG.out hb1
      · have hx := inB_true.1 h
        have hx1 := hx.1
        have hx2 := hx.2
        have HR2 := Lib.hid (show allB 0 1000 (ct.drop (k + 1)) = allB 0 1000 ct by rw [← HRE.out, HD.out]; simp [allB, h])
        clear h hx
        go_wp2_with fail
        go_round
        case rel => exact ⟨k + 1, by omega, by go_num, HR2.out⟩
        case measure => simp [intOf]; omega
    have HA := Lib.hid (show allB 0 1000 ct = true by rw [← HRE.out, drop_end HCL.out hlt]; rfl)
    have HG := Lib.hid (show gvG fr fs i ct = stG (gvF0 fr ct) (gvL0 fs i ct) by rw [gvG, HGA.out, HA.out]; rfl)
    have HCB := Lib.hid (show ∀ x ∈ ct, 0 ≤ x ∧ x ≤ 1000000 from fun x hx => by have := allB_mem HA.out x hx; omega)
    have HFB := Lib.hid (show ∀ x ∈ fr, 0 ≤ x ∧ x ≤ 1000000 from fun x hx => by have := HT2.out x hx; omega)
    obtain ⟨ys0, hs0, rfl, hL0⟩ := hs
    have HS0 := Lib.hid hs0
    obtain ⟨b, off, y, eB, hbb, _, hy, c0, c1, hin⟩ := RForms.at_ hs0 (k := i.toNat) (by omega)
    subst eB
    have hf := HF.out y.f (List.mem_map_of_mem (List.mem_of_getElem? hy))
    have HY0 := Lib.hid hy
    have hlw := Lib.hid (show y.f.wanted.length = n by have := HFR.out; omega)
    have hlh := Lib.hid (show y.f.held.length = n by have := HFR.out; omega)
    have HHB := Lib.hid (show ∀ x ∈ y.f.held, 0 ≤ x ∧ x ≤ 1000000 from fun x hx => by have := hf.1.2 x hx; omega)
    have HWB := Lib.hid (show ∀ x ∈ y.f.wanted, 0 ≤ x ∧ x ≤ 1000000 from fun x hx => by have := hf.2.2 x hx; omega)
    have HLS := Lib.hid (gv_len (ct := ct) (n := n) (fun f h => by have := HF.out f h; have := HFR.out; omega) HI9.out HCL.out)
    have HIN := Lib.hid hin
    have HC0 := Lib.hid c0
    have HC1 := Lib.hid c1
    clear hy hf hL0 hs0 c0 c1 hin hct
    have hkn : k = n := by omega
    obtain ⟨j0, hj, hy0, hy1, hy2⟩ := info_parts infoForm
    go_wp2_with fail
    refine (plusm_any ((RInts.below HR.out hb1).more hb1.size) ((RInts.below HCT.out hb1).more hb1.size) hn0 HFB.out HCB.out).mono ?_
    rintro e w2 ⟨VL, CL, rfl, hOL, hn⟩
    have hb2 := hb1.trans (hn.mono hb1.size)
    have hlo2 := hb2.size
    have HOL := Lib.hid hOL
    have hs1 := hb1.size
    clear hn hOL hb1
    go_wp2_with fail
    refine (cloneForms_any (xs := ys0) ((HS0.out.below hb2).more hb2.size) hm0 (fun z hz => by have h8 := HF.out z.f (List.mem_map_of_mem hz); have h9 := HFR.out; omega)).mono ?_
    rintro e w3 ⟨VC, CC, zs, rfl, hoo, hoi, hmp, hn⟩
    have hb3 := hb2.trans (hn.mono hb2.size)
    obtain ⟨g, rfl⟩ : ∃ g, VC = some ⟨g, 0, none⟩ := by
      rcases own_form hoo with ⟨_, h8, _⟩ | h8
      · omega
      · exact h8
    have HNE := Lib.hid (show Nin (.slice VL n CL) zs from fun q hq hin => by have h1 := (HOL.out.lt q hq).2; have h2 := (inBlk_lt hoi q hin).1; omega)
    have HOL3 := Lib.hid (show Own w3 w.heap.size (.slice VL n CL) n (gvF0 fr ct) from own_lower (row_step HOL.out hn) hs1)
    have HLLT := Lib.hid (show ∀ q, (Value.slice VL n CL).ownBlock = some q → q < w3.heap.size from fun q hq => (HOL3.out.lt q hq).2)
    have HOO := Lib.hid (show OwnF w3 w.heap.size (.slice (some ⟨g, 0, none⟩) m CC) m zs from row_lw hoo hlo2)
    have HOI := Lib.hid (show OIn w3 w.heap.size zs from ⟨fun q z hz => ⟨row_lw (hoi.1 q z hz).1 hlo2, row_lw (hoi.1 q z hz).2 hlo2⟩, hoi.2⟩)
    have hgl := HOO.out.lt g rfl
    have HMP := Lib.hid hmp
    have HZL := Lib.hid (show zs.length = m from HOO.out.len)
    obtain ⟨j, hij⟩ : ∃ j : Nat, i = (j : Int) := ⟨i.toNat, by omega⟩
    subst hij
    have HYJ := Lib.hid (show ys0[j]? = some y by have := HY0.out; rw [Int.toNat_natCast] at this; exact this)
    have c0 := (hb3.cell (p := ⟨b, off + (j : Int).toNat * 2, none⟩) hbb).trans HC0.out
    have c1 := (hb3.cell (p := ⟨b, off + (j : Int).toNat * 2 + 1, none⟩) hbb).trans HC1.out
    rw [Int.toNat_natCast] at c0 c1
    have hb3s := hb3.size
    have hjm : j < m := by omega
    obtain ⟨z, hz⟩ : ∃ z, zs[j]? = some z := ⟨_, List.getElem?_eq_getElem (by rw [HZL.out]; exact hjm)⟩
    have HZ := Lib.hid hz
    clear hoo hoi hmp hn hz
    have l0 : (0 : Int) ≤ (j : Int) := by omega
    have l1 : (j : Int) < (m : Int) := by omega
    have hRC := Lib.hid (show RInts w3.drew w3.drew.heap.size D n ct from (RInts.below HCT.out hb3).more hb3.size)
    have hRH := Lib.hid (show RInts w3.drew w3.drew.heap.size y.a1 y.f.held.length y.f.held from (RInts.below HIN.out.1 hb3).more hb3.size)
    have hRW := Lib.hid (show RInts w3 w3.heap.size y.a2 y.f.wanted.length y.f.wanted from (RInts.below HIN.out.2 hb3).more hb3.size)
    have hS0 : w3.cell? ⟨b, off + j * 2, none⟩ = some (.slice y.a1 y.f.held.length y.c1) ∧ w3.cell? ⟨b, off + j * 2 + 1, none⟩ = some (.slice y.a2 y.f.wanted.length y.c2) := ⟨c0, c1⟩
    clear c0 c1
    go_wp2_with fail
    go_region_held3 (fun wq => wq.cell? ⟨b, off + j * 2, none⟩ = some (.slice y.a1 y.f.held.length y.c1) ∧ wq.cell? ⟨b, off + j * 2 + 1, none⟩ = some (.slice y.a2 y.f.wanted.length y.c2)) ((first | exact hS0 | exact hS5 | exact hS6 | exact ⟨((World.cell?_setCell_other _ _ _ _ (by simp <;> omega)).trans (World.cell?_setCell_other _ _ _ _ (by simp <;> omega))).trans hS6.1, ((World.cell?_setCell_other _ _ _ _ (by simp <;> omega)).trans (World.cell?_setCell_other _ _ _ _ (by simp <;> omega))).trans hS6.2⟩ | assumption | go_keep)) (first
      | (go_at_call 22; refine (plusm_q (w := w5) hRW5.out hRC5.out hn0 HWB.out HCB.out hlw.out).mono ?_; rintro e w6 ⟨V2, C2, rfl, hO6, hn66⟩; have hsz5 := hn5.size; have hS6 : w6.cell? ⟨b, off + j * 2, none⟩ = some (.slice y.a1 y.f.held.length y.c1) ∧ w6.cell? ⟨b, off + j * 2 + 1, none⟩ = some (.slice y.a2 y.f.wanted.length y.c2) := ⟨(hn66.cell (p := ⟨b, off + j * 2, none⟩) (by simp <;> omega)).trans hS5.1, (hn66.cell (p := ⟨b, off + j * 2 + 1, none⟩) (by simp <;> omega)).trans hS5.2⟩; have HOO6 := Lib.hid (show OwnF w6 w.heap.size (.slice (some ⟨g, 0, none⟩) m CC) m zs from row_step (row_step HOO.out hn5) hn66); have zzz := OwnF.at_ HOO6.out HZ.out; have zz0 := zzz.1; have zz1 := zzz.2; have fz0 : w6.frozen? ⟨g, j * 2, none⟩ = false := World.ownsRow.frozenAt HOO6.out (j * 2); have fz1 : w6.frozen? ⟨g, j * 2 + 1, none⟩ = false := World.ownsRow.frozenAt HOO6.out (j * 2 + 1))
      | (go_at_call 22; refine (plus1_r (w := w3.drew) hRH.out hRC.out hn0 HHB.out HCB.out hlh.out).mono ?_; rintro e w5 ⟨V1, C1, rfl, hO5, hn5⟩; replace hn5 : Below w3.heap.size w3 w5 := (show Below w3.heap.size w3 w3.drew from (Below.refl _ _).drew).trans hn5; have hS5 : w5.cell? ⟨b, off + j * 2, none⟩ = some (.slice y.a1 y.f.held.length y.c1) ∧ w5.cell? ⟨b, off + j * 2 + 1, none⟩ = some (.slice y.a2 y.f.wanted.length y.c2) := ⟨(hn5.cell (p := ⟨b, off + j * 2, none⟩) (by simp <;> omega)).trans hS0.1, (hn5.cell (p := ⟨b, off + j * 2 + 1, none⟩) (by simp <;> omega)).trans hS0.2⟩; have hRC5 := Lib.hid ((RInts.below (show RInts w3 w3.heap.size D n ct from hRC.out) hn5).more hn5.size); have hRW5 := Lib.hid ((RInts.below hRW.out hn5).more hn5.size)))
    have hb6 : Below w.heap.size w w6 := hb3.trans ((hn5.trans (hn66.mono hn5.size)).mono hb3s)
    have q1 : (sumL y.f.held ct).length = n := by rw [sumL_len (by rw [hlh.out, HCL.out]), hlh.out]
    have q2 : (sumL y.f.wanted (negL ct)).length = n := by rw [sumL_len (by rw [hlw.out, negL_len, HCL.out]), hlw.out]
    have ev1 : (⟨V1, C1, V2, C2, giveF y.f ct⟩ : FV).v1 = .slice V1 n C1 := by show Value.slice V1 (sumL y.f.held ct).length C1 = _; rw [q1]
    have ev2 : (⟨V1, C1, V2, C2, giveF y.f ct⟩ : FV).v2 = .slice V2 n C2 := by show Value.slice V2 (sumL y.f.wanted (negL ct)).length C2 = _; rw [q2]
    have o1 : Own w6 w.heap.size (⟨V1, C1, V2, C2, giveF y.f ct⟩ : FV).v1 (sumL y.f.held ct).length (sumL y.f.held ct) := by rw [ev1, q1]; exact own_lower (row_step hO5 hn66) hb3s
    have o2 : Own w6 w.heap.size (⟨V1, C1, V2, C2, giveF y.f ct⟩ : FV).v2 (sumL y.f.wanted (negL ct)).length (sumL y.f.wanted (negL ct)) := by rw [ev2, q2]; exact own_lower hO6 (Nat.le_trans hb3s hn5.size)
    have nqv : nq (⟨V1, C1, V2, C2, giveF y.f ct⟩ : FV).v1 (⟨V1, C1, V2, C2, giveF y.f ct⟩ : FV).v2 := by rw [ev1, ev2]; exact nq_of_lt hO5 hO6 (Nat.le_refl _)
    have n1 : Nin (⟨V1, C1, V2, C2, giveF y.f ct⟩ : FV).v1 zs := by rw [ev1]; exact Nin.of_new (w := w3) HOI.out hO5
    have n2 : Nin (⟨V1, C1, V2, C2, giveF y.f ct⟩ : FV).v2 zs := by rw [ev2]; exact Nin.of_new (OIn.step HOI.out hn5) hO6
    have hjz : j < zs.length := by rw [HZL.out]; exact hjm
    have P6 : OIn w6 w.heap.size (zs.set j ⟨V1, C1, V2, C2, giveF y.f ct⟩) := OIn.put (OIn.step (OIn.step HOI.out hn5) hn66) hjz o1 o2 nqv n1 n2
    have hg6 := Nin.of_type HOO6.out P6 (by decide) g rfl
    have row9 := OwnF.put (y2 := ⟨V1, C1, V2, C2, giveF y.f ct⟩) HOO6.out hjz
    rw [ev1, ev2] at row9
    have in9 := (P6.ne (i := j * 2) (u := .slice V1 n C1) hg6).ne (i := j * 2 + 1) (u := .slice V2 n C2) hg6
    have left6 := row_step (row_step HOL3.out hn5) hn66
    have hlg : (Value.slice VL n CL).ownBlock ≠ some g := fun e => owns_ap left6 HOO6.out (by decide) g e rfl
    have left9 : Own ((w6.setCell ⟨g, j * 2, none⟩ (.slice V1 n C1)).setCell ⟨g, j * 2 + 1, none⟩ (.slice V2 n C2)) w.heap.size (.slice VL n CL) n (gvF0 fr ct) := row_ne (row_ne left6 hlg) hlg
    have NIN := Lib.hid (show Nin (.slice VL n CL) (zs.set j ⟨V1, C1, V2, C2, giveF y.f ct⟩) from Nin.set HNE.out (fun q hq => by
      rw [ev1, ev2]
      have a := HLLT.out q hq
      have b2 := hn5.size
      exact ⟨fun e => by have h9 : w3.heap.size ≤ q := (World.ownsRow.lt hO5 q e).1; omega, fun e => by have := (World.ownsRow.lt hO6 q e).1; omega⟩))
    have MAP := Lib.hid (map_put (y2 := ⟨V1, C1, V2, C2, giveF y.f ct⟩) HMP.out HYJ.out rfl)
    have hb9 := (hb6.setCell (p := ⟨g, j * 2, none⟩) hgl.1 (.slice V1 n C1)).setCell (p := ⟨g, j * 2 + 1, none⟩) hgl.1 (.slice V2 n C2)
    clear hS0 hS5 hS6 hO5 hO6 hn5 hn66 zzz zz0 zz1 fz0 fz1 o1 o2 nqv n1 n2 P6 hg6 left6 hlg ev1 ev2 q1 q2 hb6 hb3 hsz5
    obtain ⟨w9, hw9⟩ : ∃ x, x = (w6.setCell ⟨g, j * 2, none⟩ (.slice V1 n C1)).setCell ⟨g, j * 2 + 1, none⟩ (.slice V2 n C2) := ⟨_, rfl⟩
    rw [← hw9] at row9 in9 left9 hb9
    have ROW := Lib.hid row9
    have INN := Lib.hid in9
    have LEF := Lib.hid left9
    rw [← hw9]
    clear row9 in9 left9 hw9
    go_wp2_with fail
    refine (areForms_impl (own_rints LEF.out) hn0 (OwnF.aforms ROW.out INN.out MAP.out (fun f hf => by have := HLS.out f hf; omega)) hm0).mono ?_
    rintro e w10 ⟨rfl, hn⟩
    have hb10 := hb9.trans (hn.mono hb9.size)
    obtain ⟨v, hv⟩ : ∃ v, v = stG (gvF0 fr ct) (gvL0 (ys0.map FV.f) (j : Int) ct) := ⟨_, rfl⟩
    rw [← hv]
    have HG2 := Lib.hid (HG.out.trans hv.symm)
    have LE2 := Lib.hid (row_step LEF.out hn)
    have RF2 := Lib.hid (RF.mk' (row_step ROW.out hn) (OIn.step INN.out hn) MAP.out hn6 hm8 HLS.out)
    clear hv hn hb9
    cases v
    · go_wp2_with fail
      go_ret3
      exact GvPost.no HG2.out hb10
    · go_wp2_with fail
      go_ret3
      exact GvPost.yes HG2.out LE2.out RF2.out NIN.out hn0 hb10
end Go.Proofs.Ytfemacefkaehjaa
