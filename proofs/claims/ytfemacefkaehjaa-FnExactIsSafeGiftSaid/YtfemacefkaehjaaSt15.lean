/-
  Contracts: the reference's GiveSorts.
-/
import Derived.Test.YtfemacefkaehjaaSt14
import Derived.BigQuiet
import Derived.Deep.Cut
namespace Go.Proofs.Ytfemacefkaehjaa
open Go.RowKit
theorem leastW_is (a b : Int) {v : Int} (hv : mnW a b = v) (w : World) : Calls Try.prog 33 #[.int .i64 a, .int .i64 b] w fun x w' => x = .returned (.int .i64 v) ∧ w = w' := by
  by_cases h : a < b
  · go_enter Try.func33, Try.ntmps33
    go_wp2
    go_ret
    exact ⟨ret_int (by rw [← hv]; unfold mnW; split <;> omega), rfl⟩
  · go_enter Try.func33, Try.ntmps33
    go_wp2
    go_ret
    exact ⟨ret_int (by rw [← hv]; unfold mnW; split <;> omega), rfl⟩
theorem inW_is (n lo hi : Int) {v : Bool} (hv : inB n lo hi = v) (w : World) : Calls Try.prog 32 #[.int .i64 n, .int .i64 lo, .int .i64 hi] w fun e w' => e = .returned (.bool v) ∧ w = w' := by
  subst hv
  exact in_any n lo hi w
structure GvW (w : World) (wr : World) (g m CO gl n CL : Nat) (zs : List FV) (xl : List Int) : Prop where
  row : OwnF wr w.heap.size (.slice (some ⟨g, 0, none⟩) m CO) m zs
  inn : OIn wr w.heap.size zs
  lef : Own wr w.heap.size (.slice (some ⟨gl, 0, none⟩) n CL) n xl
  nin : Nin (.slice (some ⟨gl, 0, none⟩) n CL) zs
  bel : Below w.heap.size w wr
section
variable {w wr : World} {g m CO gl n CL j k h c1 c2 : Nat} {zs : List FV} {xl : List Int} {a1 a2 : Option Addr} {f : Frm} {v : Int}
theorem GvW.drewN (s : GvW w wr g m CO gl n CL zs xl) (q : Nat) : GvW w (wr.drewN q) g m CO gl n CL zs xl := ⟨s.row, s.inn, s.lef, s.nin, below_drewN s.bel q⟩
theorem GvW.store0 (s : GvW w wr g m CO gl n CL zs xl) (k : Nat) (v : Int) : GvW w (wr.setCell ⟨gl, k, none⟩ (.int .i64 v)) g m CO gl n CL zs (xl.set k v) :=
  ⟨row_ne s.row (owns_ap s.lef s.row (by decide) gl rfl), OIn.ne s.inn (s.nin gl rfl), own_set s.lef, s.nin, s.bel.setCell (p := ⟨gl, k, none⟩) (s.lef.lt gl rfl).1 _⟩
theorem GvW.store1 (s : GvW w wr g m CO gl n CL zs xl) (hz : zs[j]? = some ⟨some ⟨h, 0, none⟩, c1, a2, c2, f⟩) (k : Nat) (v : Int) : GvW w (wr.setCell ⟨h, k, none⟩ (.int .i64 v)) g m CO gl n CL (zs.set j ⟨some ⟨h, 0, none⟩, c1, a2, c2, ⟨f.held.set k v, f.wanted⟩⟩) xl :=
  ⟨OwnF.set_same (row_ne s.row fun e => Nin.of_type s.row s.inn (by decide) h e ⟨j, _, hz, .inl rfl⟩) hz (by simp [FV.row]), OIn.set1 s.inn hz rfl, row_ne s.lef fun e => s.nin h e ⟨j, _, hz, .inl rfl⟩, Nin.set_same s.nin hz (by simp [FV.v1]) rfl, s.bel.setCell (p := ⟨h, k, none⟩) ((OIn.lt s.inn hz).1 h rfl).1 _⟩
theorem GvW.store2 (s : GvW w wr g m CO gl n CL zs xl) (hz : zs[j]? = some ⟨a1, c1, some ⟨h, 0, none⟩, c2, f⟩) (k : Nat) (v : Int) : GvW w (wr.setCell ⟨h, k, none⟩ (.int .i64 v)) g m CO gl n CL (zs.set j ⟨a1, c1, some ⟨h, 0, none⟩, c2, ⟨f.held, f.wanted.set k v⟩⟩) xl :=
  ⟨OwnF.set_same (row_ne s.row fun e => Nin.of_type s.row s.inn (by decide) h e ⟨j, _, hz, .inr rfl⟩) hz (by simp [FV.row]), OIn.set2 s.inn hz rfl, row_ne s.lef fun e => s.nin h e ⟨j, _, hz, .inr rfl⟩, Nin.set_same s.nin hz rfl (by simp [FV.v2]), s.bel.setCell (p := ⟨h, k, none⟩) ((OIn.lt s.inn hz).2 h rfl).1 _⟩
/-- The form at j: its two slices, their cells. -/
theorem GvW.at_ (s : GvW w wr g m CO gl n CL zs xl) {fs : List Frm} (hm : zs.map FV.f = fs.set j f) (hj : j < m) (h1 : f.held.length = n) (h2 : f.wanted.length = n) (hn : 0 < n) :
    ∃ b1 c1 b2 c2, zs[j]? = some ⟨some ⟨b1, 0, none⟩, c1, some ⟨b2, 0, none⟩, c2, f⟩ ∧ wr.cell? ⟨g, j * 2, none⟩ = some (.slice (some ⟨b1, 0, none⟩) n c1) ∧ wr.cell? ⟨g, j * 2 + 1, none⟩ = some (.slice (some ⟨b2, 0, none⟩) n c2) ∧ Own wr w.heap.size (.slice (some ⟨b1, 0, none⟩) n c1) n f.held ∧ Own wr w.heap.size (.slice (some ⟨b2, 0, none⟩) n c2) n f.wanted := by
  have hl := s.row.len
  obtain ⟨z, hz⟩ : ∃ z, zs[j]? = some z := ⟨_, List.getElem?_eq_getElem (by omega)⟩
  have hzf : z.f = f := by
    have h9 := congrArg (fun l : List Frm => l[j]?) hm
    simp only [List.getElem?_map, hz, Option.map_some] at h9
    have hfl : j < fs.length := by
      have := congrArg List.length hm
      rw [List.length_map, List.length_set] at this
      omega
    rw [List.getElem?_set_self hfl] at h9
    injection h9
  obtain ⟨z1, d1, z2, d2, zf⟩ := z
  subst hzf
  have o := s.inn.1 j _ hz
  have ca := OwnF.at_ s.row hz
  simp only [FV.v1, FV.v2, h1, h2] at o ca
  rcases own_form o.1 with ⟨_, h8, _⟩ | ⟨b1, rfl⟩
  · omega
  rcases own_form o.2 with ⟨_, h8, _⟩ | ⟨b2, rfl⟩
  · omega
  exact ⟨b1, d1, b2, d2, hz, ca.1, ca.2, o.1, o.2⟩
theorem own_cell {B : Nat} {b C : Nat} {xs : List Int} {x : Int} (h : Own w B (.slice (some ⟨b, 0, none⟩) n C) n xs) (hx : xs[k]? = some x) : w.cell? ⟨b, k, none⟩ = some (.int .i64 x) ∧ w.frozen? ⟨b, k, none⟩ = false := by
  have hl := own_len h
  have hk := (List.getElem?_eq_some_iff.1 hx).1
  exact ⟨by rw [World.ownsRow.cellAt h k (by omega), List.getElem?_map, hx]; rfl, World.ownsRow.frozenAt h k⟩
end
theorem nin_snoc {v : Value} {ys : List FV} {y : FV} (h : Nin v ys) (h1 : ∀ k, v.ownBlock = some k → y.v1.ownBlock ≠ some k ∧ y.v2.ownBlock ≠ some k) : Nin v (ys ++ [y]) := by
  intro k hk ⟨i, z, hz, hin⟩
  by_cases hi : i < ys.length
  · rw [List.getElem?_append_left hi] at hz
    exact h k hk ⟨i, z, hz, hin⟩
  · rw [List.getElem?_append_right (by omega)] at hz
    have hz2 := List.mem_of_getElem? hz
    rw [List.mem_singleton] at hz2
    subst hz2
    exact hin.elim (h1 k hk).1 (h1 k hk).2
theorem mixF_0 (f : Frm) (ct : List Int) : mixF f ct 0 = f := by rw [mixF, mixS_0, mixS_0]
theorem set_at_same {fs : List Frm} {j : Nat} {f : Frm} (h : fs[j]? = some f) : fs.set j f = fs := by
  apply List.ext_getElem?
  intro i
  by_cases hij : i = j
  · subst hij
    rw [List.getElem?_set_self (List.getElem?_eq_some_iff.1 h).1, h]
  · rw [List.getElem?_set_ne (Ne.symm hij)]
set_option maxRecDepth 100000 in
set_option maxHeartbeats 4000000 in
theorem stGive_any {A B D : Option Addr} {n c m d n2 c2 : Nat} {fr : List Int} {fs : List Frm} {i : Int} {ct : List Int} {w : World} (hr : RInts w w.heap.size A n fr) (hn0 : n ≤ 1048576) (hs : AForms w B m fs) (hm0 : m ≤ 1048576) (hI : -9223372036854775808 ≤ i ∧ i ≤ 9223372036854775807) (hct : RInts w w.heap.size D n2 ct) (hn20 : n2 ≤ 1048576) :
    Calls Try.prog 19 #[.slice A n c, .slice B m d, .int .i64 i, .slice D n2 c2] w fun e w' => GvPost fr fs i ct w e w' := by
  have HFR := Lib.hid hr.len
  have HCL := Lib.hid hct.len
  cases h1 : askG fr fs i
  · have HG := Lib.hid (show gvG fr fs i ct = false by rw [gvG, gvA, h1]; rfl)
    (go_enter Try.func19, Try.ntmps19; go_wp2_with fail; refine (stAsked_any hr hn0 hs hm0).mono ?_; rintro e w1 ⟨rfl, hb1⟩)
    rw [h1]
    clear h1
    go_wp2_with fail
    go_ret3
    exact GvPost.nil HG.out hb1
  by_cases hl : n = n2
  case neg =>
    have HG := Lib.hid (show gvG fr fs i ct = false by rw [gvG, gvA, h1, decide_eq_false (by have := HFR.out; have := HCL.out; omega)]; rfl)
    (go_enter Try.func19, Try.ntmps19; go_wp2_with fail; refine (stAsked_any hr hn0 hs hm0).mono ?_; rintro e w1 ⟨rfl, hb1⟩)
    rw [h1]
    clear h1
    have e1 := ne_t' (show (n2 : Int) ≠ (n : Int) by omega)
    have e2 := e1.1
    have e3 := e1.2
    clear e1
    go_wp2_with fail
    go_ret3
    exact GvPost.nil HG.out hb1
  subst hl
  have HGA := Lib.hid (show gvA fr fs i ct = true by rw [gvA, h1, decide_eq_true (by have := HFR.out; have := HCL.out; omega)]; rfl)
  obtain ⟨q1, q2, q3⟩ := ask_true h1
  obtain ⟨t1, t2, t3, t4⟩ := stG_true q1
  have HF := Lib.hid t4
  have HM := Lib.hid hs.len
  have HT2 := Lib.hid t2
  have q4 : i < m := by have := HM.out; omega
  have hm8 : m ≤ 8 := by have := HM.out; omega
  have hn6 : n ≤ 6 := by have := HFR.out; omega
  have hn1 : 1 ≤ n := by have := HFR.out; omega
  have HI9 := Lib.hid (show i.toNat < fs.length by omega)
  have HLS := Lib.hid (gv_len (ct := ct) (n := n) (fun f h => by have := t4 f h; have := HFR.out; omega) HI9.out HCL.out)
  clear t2 t4 q1 t1 t3
  have e1 := ne_f' (show (n : Int) = (n : Int) from rfl)
  have e2 := e1.1
  have e3 := e1.2
  clear e1
  have HCT := Lib.hid hct
  have HR := Lib.hid hr
  (go_enter Try.func19, Try.ntmps19; go_wp2_with fail; refine (stAsked_any hr hn0 hs hm0).mono ?_; rintro e w1 ⟨rfl, hb1⟩)
  rw [h1]
  clear h1 hr hct
  obtain ⟨ys0, hs0, rfl, hL0⟩ := hs
  have HS0 := Lib.hid hs0
  have HL0 := Lib.hid hL0
  obtain ⟨b, off, y, eB, hbb, _, hy, c0, c1, hin⟩ := RForms.at_ hs0 (k := i.toNat) (by omega)
  subst eB
  have hf := HF.out y.f (List.mem_map_of_mem (List.mem_of_getElem? hy))
  have HY0 := Lib.hid hy
  have hlw := Lib.hid (show y.f.wanted.length = n by have := HFR.out; omega)
  have hlh := Lib.hid (show y.f.held.length = n by have := HFR.out; omega)
  have HHB := Lib.hid (show ∀ x ∈ y.f.held, 0 ≤ x ∧ x ≤ 1000 from hf.1.2)
  have HWB := Lib.hid (show ∀ x ∈ y.f.wanted, 0 ≤ x ∧ x ≤ 1000 from hf.2.2)
  have HIN := Lib.hid hin
  have HC1 := Lib.hid c1
  have HCA := Lib.hid (show D = none → c2 = c2 from fun _ => rfl)
  clear hy hf hL0 hs0 c0 c1 hin
  obtain ⟨j0, hj, hy0, hy1, hy2⟩ := info_parts infoForm
  go_wp2_with fail
  clear e2 e3
  refine (l1Own_any ((RInts.below HR.out hb1).more hb1.size) hn0 (fun e => absurd e (some_of_pos HR.out (by omega)))).mono ?_
  rintro e w2 ⟨VL, CL, rfl, hOL, hn⟩
  have hb2 := hb1.trans (hn.mono hb1.size)
  have HOL := Lib.hid (own_lower hOL hb1.size)
  clear hn hOL hb1
  go_wp2_with fail
  go_loopw [12, 33] (fun v u wr => ∃ (k : Nat) (zs : List FV), k ≤ m ∧ u = .int .i64 k ∧ OwnF wr w.heap.size v k zs ∧ OIn wr w.heap.size zs ∧ zs.map FV.f = (ys0.map FV.f).take k ∧ Below w.heap.size w wr ∧ Own wr w.heap.size (.slice VL n CL) n fr ∧ Nin (.slice VL n CL) zs) (fun _ u _ => m - (intOf u).toNat)
  case atStart => exact ⟨0, [], Nat.zero_le _, rfl, World.ownsRow_nil _ _ _ _, OIn.nil _ _, by simp, hb2, HOL.out, Nin.nil _⟩
  case round =>
    clear hb2
    obtain ⟨k, zs, hk, rfl, hoo, hoi, hmp, hb, hol, hni⟩ := hrel
    obtain ⟨VO, CO, rfl⟩ := own_slice hoo
    have HOO := Lib.hid hoo
    have HOI := Lib.hid hoi
    have HOW := Lib.hid hol
    have HNI := Lib.hid hni
    have HMP := Lib.hid hmp
    have hlo := hb.size
    clear hoo hoi hol hni hmp
    by_cases hlt : k < m
    · obtain ⟨bb, off2, x, eA, _, _, hx, d0, d1, hinx⟩ := RForms.at_ (HS0.out.below hb) hlt
      injection eA with eA
      injection eA with ea1 ea2
      subst ea1 ea2
      have hfx := HF.out x.f (List.mem_map_of_mem (List.mem_of_getElem? hx))
      have hxl := HL0.out x (List.mem_of_getElem? hx)
      have HMP2 := Lib.hid (show (zs ++ [(⟨none, 0, none, 0, x.f⟩ : FV)]).map FV.f = (ys0.map FV.f).take (k + 1) by rw [List.map_append, HMP.out, List.take_add_one, List.getElem?_map, hx]; rfl)
      have hp1 : 0 < x.f.held.length := by have := HFR.out; omega
      have hp2 : 0 < x.f.wanted.length := by have := HFR.out; omega
      have hbx := hb.alloc hb.size (.cells #[.slice x.a1 x.f.held.length x.c1, .slice x.a2 x.f.wanted.length x.c2] 40)
      have i1 := (RInts.alloc' (hinx.1.more hb.size) (.cells #[.slice x.a1 x.f.held.length x.c1, .slice x.a2 x.f.wanted.length x.c2] 40))
      have i2 := (RInts.alloc' (hinx.2.more hb.size) (.cells #[.slice x.a1 x.f.held.length x.c1, .slice x.a2 x.f.wanted.length x.c2] 40))
      have hc1 : x.a1 = none → x.c1 = 0 := fun e => absurd e (some_of_pos hinx.1 hp1)
      have hc2 : x.a2 = none → x.c2 = 0 := fun e => absurd e (some_of_pos hinx.2 hp2)
      clear hx hfx hinx
      go_wp2_with fail
      refine (stOwn_any x _ ⟨i1, i2⟩ hxl.1 hxl.2 hc1 hc2).mono ?_
      rintro e w4 ⟨V1, C1, V2, C2, rfl, hO1, hO2, hne, hn⟩
      have hb4 := hbx.trans (hn.mono hbx.size)
      have HI4 := Lib.hid (OIn.snoc (y := ⟨V1, C1, V2, C2, x.f⟩) (OIn.alloc HOI.out (.cells #[.slice x.a1 x.f.held.length x.c1, .slice x.a2 x.f.wanted.length x.c2] 40)) hn hO1 hO2 hne hbx.size)
      have HO4 := Lib.hid (show OwnF w4 w.heap.size (.slice VO k CO) k zs from row_step (row_alloc HOO.out (.cells #[.slice x.a1 x.f.held.length x.c1, .slice x.a2 x.f.wanted.length x.c2] 40)) hn)
      have HW4 := Lib.hid (show Own w4 w.heap.size (.slice VL n CL) n fr from row_step (row_alloc HOW.out (.cells #[.slice x.a1 x.f.held.length x.c1, .slice x.a2 x.f.wanted.length x.c2] 40)) hn)
      have HN4 := Lib.hid (show Nin (.slice VL n CL) (zs ++ [⟨V1, C1, V2, C2, x.f⟩]) from nin_snoc HNI.out (fun q hq => by
        have h1 := (HOW.out.lt q hq).2
        exact ⟨fun e => by have h2 := (World.ownsRow.lt hO1 q e).1; simp at h2; omega, fun e => by have h2 := (World.ownsRow.lt hO2 q e).1; simp at h2; omega⟩))
      clear i1 i2 hc1 hc2 hO1 hO2 hne hn
      go_wp2_with (at_builtin; refine wpList_append_own _ rfl (.tmp 37) (.tmp 40) 25 rfl w.heap.size 40 j0 (.agg #[.slice none 0 0, .slice none 0 0]) 2 48 Try.underlying25 hj hy0 hy1 hy2 rfl (by decide) _ k _ rfl (row_alloc HO4.out _) ⟨w4.heap.size, 0, none⟩ 1 1 [.slice V1 x.f.held.length C1, .slice V2 x.f.wanted.length C2] rfl rfl (new_two rfl) (by intro u hu; simp at hu; rcases hu with rfl | rfl <;> rfl) (by unfold maxLen; omega) (by omega) (by have := hb4.size; simp; omega) ?_)
      intro v9 w9 hO9 hgr9 _
      have HN9 := Lib.hid (app_form (y := ⟨V1, C1, V2, C2, x.f⟩) hO9)
      have HI9b := Lib.hid (OIn.grew (OIn.alloc HI4.out _) hgr9 (Nin.of_type HO4.out HI4.out (by decide)))
      have HB9 := Lib.hid ((hb4.alloc hb4.size _).trans (grown_below hgr9 (by have := hb4.size; simp; omega) (fun z hz => (HO4.out.lt z hz).1)))
      have HW9 := Lib.hid (show Own w9 w.heap.size (.slice VL n CL) n fr from kept_of_apart (row_alloc HW4.out _) hgr9 (owns_apart HW4.out HO4.out (by decide)))
      clear hO9 hgr9 hb4 hbx
      go_wp2_with fail
      go_roundw
      case rel => exact ⟨k + 1, _, by omega, by go_num, HN9.out, HI9b.out, by rw [← HMP2.out]; simp, HB9.out, HW9.out, HN4.out⟩
      case measure => simp [intOf]; omega
    have hkm : k = m := by omega
    subst hkm
    have HMQ := Lib.hid (show zs.map FV.f = ys0.map FV.f by rw [HMP.out, List.take_of_length_le (by have := HM.out; omega)])
    obtain ⟨g, rfl⟩ : ∃ g, VO = some ⟨g, 0, none⟩ := by
      rcases own_form HOO.out with ⟨_, h8, _⟩ | h8
      · omega
      · exact h8
    obtain ⟨gl, rfl⟩ : ∃ gl, VL = some ⟨gl, 0, none⟩ := by
      rcases own_form HOW.out with ⟨_, h8, _⟩ | h8
      · omega
      · exact h8
    obtain ⟨j, hij⟩ : ∃ j : Nat, i = (j : Int) := ⟨i.toNat, by omega⟩
    subst hij
    have HYJ := Lib.hid (show ys0[j]? = some y by have := HY0.out; rw [Int.toNat_natCast] at this; exact this)
    have hjm : j < k := by omega
    clear hlt hk
    go_wp2_with fail
    go_loopw [45] (fun u wr => ∃ (q : Nat) (zs : List FV), q ≤ n ∧ u = .int .i64 q ∧ OwnF wr w.heap.size (.slice (some ⟨g, 0, none⟩) k CO) k zs ∧ OIn wr w.heap.size zs ∧ zs.map FV.f = (ys0.map FV.f).set j (mixF y.f ct q) ∧ Below w.heap.size w wr ∧ Own wr w.heap.size (.slice (some ⟨gl, 0, none⟩) n CL) n (mixS fr (negL ct) q) ∧ Nin (.slice (some ⟨gl, 0, none⟩) n CL) zs ∧ okC (ct.drop q) (fr.drop q) (y.f.wanted.drop q) = okC ct fr y.f.wanted) (fun u _ => n - (intOf u).toNat)
    case atStart => exact ⟨0, zs, Nat.zero_le _, rfl, HOO.out, HOI.out, by rw [HMQ.out, mixF_0, set_at_same (by rw [List.getElem?_map, HYJ.out]; rfl)], hb, by rw [mixS_0]; exact HOW.out, HNI.out, rfl⟩
    case round =>
      clear hb HOO HOI HOW HNI HMP HMQ hlo
      obtain ⟨q, zs, hq, rfl, hoo, hoi, hmp, hb, hol, hni, hok⟩ := hrel
      have HOO := Lib.hid hoo
      have HOI := Lib.hid hoi
      have HOW := Lib.hid hol
      have HNI := Lib.hid hni
      have HMP := Lib.hid hmp
      have HOK := Lib.hid hok
      have hlo := hb.size
      clear hoo hoi hol hni hmp hok
      by_cases hlt : q < n
      · obtain ⟨ad1, x, eD, _, d1, hx, hcx⟩ := RInts.at_ (HCT.out.below hb) hlt
        obtain ⟨ad2, f, eA, _, d2, hf, hcf⟩ := RInts.at_ (HR.out.below hb) hlt
        obtain ⟨ad3, v, eW, _, d3, hv, hcv⟩ := RInts.at_ (HIN.out.2.below hb) (show q < y.f.wanted.length by rw [hlw.out]; exact hlt)
        have c1 := (hb.cell (p := ⟨b, off + (j : Int).toNat * 2 + 1, none⟩) hbb).trans HC1.out
        rw [Int.toNat_natCast] at c1
        have HST := Lib.hid (okC_step d1 d2 d3)
        have HEW := Lib.hid eW
        have HEA := Lib.hid eA
        have HED := Lib.hid eD
        rw [eW, hlw.out] at c1
        have HX := Lib.hid hx
        have HFF := Lib.hid hf
        have HV := Lib.hid hv
        have l0 : (0 : Int) ≤ (j : Int) := by omega
        have l1 : (j : Int) < (k : Int) := by omega
        have l2 : (0 : Int) ≤ (q : Int) := by omega
        have l3 : (q : Int) < (n : Int) := by omega
        clear d1 d2 d3 hx hf hv
        rw [eD, eA]
        clear eD eA eW
        cases h : inB x 0 (mnW f v)
        · have HG := Lib.hid (show gvG fr (ys0.map FV.f) (j : Int) ct = false by rw [gvG_ok HGA.out, frmAt_nat HYJ.out, ← HOK.out, HST.out, h]; rfl)
          go_wp2_with fail
          go_quiet ((first | (go_at_call 33; exact Calls.quiet_of_same ((leastW_is _ _ rfl _).mono fun _ _ h => ⟨h.1, h.2.symm⟩)) | (go_at_call 32; exact Calls.quiet_of_same ((inW_is _ _ _ h _).mono fun _ _ h => ⟨h.1, h.2.symm⟩))))
          go_wp2_with fail
          go_ret3
          exact GvPost.nil HG.out (below_drewN hb _)
        · have hx9 := inB_true.1 h
          have hx8 := mnW_le.1 hx9.2
          have bf := HT2.out f (List.mem_of_getElem? HFF.out)
          have bv := HWB.out v (List.mem_of_getElem? HV.out)
          obtain ⟨u, hu⟩ : ∃ u, y.f.held[q]? = some u := ⟨_, List.getElem?_eq_getElem (by rw [hlh.out]; exact hlt)⟩
          have bu := HHB.out u (List.mem_of_getElem? hu)
          have hx0 := hx9.1
          have HU := Lib.hid hu
          have HXN := Lib.hid (negL_get HX.out)
          have HE1 := Lib.hid (show fr.length = (negL ct).length by rw [negL_len, HFR.out, HCL.out])
          have HE2 := Lib.hid (show y.f.held.length = ct.length by rw [hlh.out, HCL.out])
          have HE3 := Lib.hid (show y.f.wanted.length = (negL ct).length by rw [negL_len, hlw.out, HCL.out])
          have HOK2 := Lib.hid (show okC (ct.drop (q + 1)) (fr.drop (q + 1)) (y.f.wanted.drop (q + 1)) = okC ct fr y.f.wanted by rw [← HOK.out, HST.out, h]; rfl)
          have GS := Lib.hid (GvW.mk HOO.out HOI.out HOW.out HNI.out hb)
          have HH := Lib.hid h
          clear h hu hx9 HOO HOI HOW HNI
          go_wp2_with fail
          go_quiet ((first | (go_at_call 33; exact Calls.quiet_of_same ((leastW_is _ _ rfl _).mono fun _ _ h => ⟨h.1, h.2.symm⟩)) | (go_at_call 32; exact Calls.quiet_of_same ((inW_is _ _ _ HH.out _).mono fun _ _ h => ⟨h.1, h.2.symm⟩))))
          have GS1 := Lib.hid (GS.out.drewN nq)
          obtain ⟨wd, hwd⟩ : ∃ x, x = wr.drewN nq := ⟨_, rfl⟩
          rw [← hwd] at GS1 ⊢
          clear hwd GS hb c1 hcx hcf hcv
          obtain ⟨k0, f0⟩ := own_cell GS1.out.lef (mixS_get HE1.out HFF.out)
          have ef : IntKind.i64.wrap (f - x) = f - x := wrapI (by omega) (by omega)
          go_upto_region 16 with fail
          have GS2 := Lib.hid (GS1.out.store0 q (f - x))
          obtain ⟨w1, hw1⟩ : ∃ z, z = wd.setCell ⟨gl, q, none⟩ (.int .i64 (f - x)) := ⟨_, rfl⟩
          rw [← hw1] at GS2 ⊢
          clear hw1 GS1 k0 f0 ef
          obtain ⟨h1, p1, h2, p2, hz, d0, d1, o1, o2⟩ := GvW.at_ GS2.out HMP.out hjm (by show (mixS y.f.held ct q).length = n; rw [mixS_len HE2.out, hlh.out]) (by show (mixS y.f.wanted (negL ct) q).length = n; rw [mixS_len HE3.out, hlw.out]) (by omega)
          obtain ⟨k0, f0⟩ := own_cell o1 (mixS_get HE2.out HU.out)
          have HZ := Lib.hid hz
          have ef : IntKind.i64.wrap (u + x) = u + x := wrapI (by omega) (by omega)
          clear hz o1 o2
          go_upto_region 17 with fail
          have GS3 := Lib.hid (GS2.out.store1 HZ.out q (u + x))
          obtain ⟨w2, hw2⟩ : ∃ z, z = w1.setCell ⟨h1, q, none⟩ (.int .i64 (u + x)) := ⟨_, rfl⟩
          rw [← hw2] at GS3 ⊢
          clear hw2 GS2 k0 f0 ef d0 d1
          have HMP2 := Lib.hid (show (zs.set j ⟨some ⟨h1, 0, none⟩, p1, some ⟨h2, 0, none⟩, p2, ⟨(mixF y.f ct q).held.set q (u + x), (mixF y.f ct q).wanted⟩⟩).map FV.f = (ys0.map FV.f).set j ⟨mixS y.f.held ct (q + 1), mixS y.f.wanted (negL ct) q⟩ by
            rw [List.map_set, HMP.out, List.set_set]
            show (ys0.map FV.f).set j ⟨(mixS y.f.held ct q).set q (u + x), mixS y.f.wanted (negL ct) q⟩ = _
            rw [mixS_set HE2.out HU.out HX.out])
          obtain ⟨h3, p3, h4, p4, hz, d0, d1, o1, o2⟩ := GvW.at_ GS3.out HMP2.out hjm (by show (mixS y.f.held ct (q + 1)).length = n; rw [mixS_len HE2.out, hlh.out]) (by show (mixS y.f.wanted (negL ct) q).length = n; rw [mixS_len HE3.out, hlw.out]) (by omega)
          obtain ⟨k0, f0⟩ := own_cell o2 (mixS_get HE3.out HV.out)
          have HZ2 := Lib.hid hz
          have ef : IntKind.i64.wrap (v - x) = v - x := wrapI (by omega) (by omega)
          clear hz o1 o2
          go_upto_region 18 with fail
          have GS4 := Lib.hid (GS3.out.store2 HZ2.out q (v - x))
          obtain ⟨w3, hw3⟩ : ∃ z, z = w2.setCell ⟨h4, q, none⟩ (.int .i64 (v - x)) := ⟨_, rfl⟩
          rw [← hw3] at GS4 ⊢
          clear hw3 GS3 k0 f0 ef d0 d1
          have HMP3 := Lib.hid (show ((zs.set j ⟨some ⟨h1, 0, none⟩, p1, some ⟨h2, 0, none⟩, p2, ⟨(mixF y.f ct q).held.set q (u + x), (mixF y.f ct q).wanted⟩⟩).set j ⟨some ⟨h3, 0, none⟩, p3, some ⟨h4, 0, none⟩, p4, ⟨mixS y.f.held ct (q + 1), (mixS y.f.wanted (negL ct) q).set q (v - x)⟩⟩).map FV.f = (ys0.map FV.f).set j (mixF y.f ct (q + 1)) by
            rw [List.map_set, HMP2.out, List.set_set]
            show (ys0.map FV.f).set j ⟨mixS y.f.held ct (q + 1), (mixS y.f.wanted (negL ct) q).set q (v + -x)⟩ = _
            rw [mixS_set HE3.out HV.out HXN.out]
            rfl)
          have HLF := Lib.hid (show (mixS fr (negL ct) q).set q (f - x) = mixS fr (negL ct) (q + 1) from mixS_set HE1.out HFF.out HXN.out)
          go_wp2_with fail
          (try rw [← HEA.out]); (try rw [← HED.out])
          go_roundw
          case rel => exact ⟨q + 1, _, by omega, by go_num, GS4.out.row, GS4.out.inn, HMP3.out, GS4.out.bel, by rw [← HLF.out]; exact GS4.out.lef, GS4.out.nin, HOK2.out⟩
          case measure => simp [intOf]; omega
      · have hqn : q = n := by omega
        have HO1 := Lib.hid (show okC ct fr y.f.wanted = true by rw [← HOK.out, List.drop_of_length_le (by have := HCL.out; omega)]; simp [okC])
        have HG := Lib.hid (show gvG fr (ys0.map FV.f) (j : Int) ct = stG (gvF0 fr ct) (gvL0 (ys0.map FV.f) (j : Int) ct) by rw [gvG_ok HGA.out, frmAt_nat HYJ.out, HO1.out]; rfl)
        have LEF := Lib.hid (show Own wr w.heap.size (.slice (some ⟨gl, 0, none⟩) n CL) n (gvF0 fr ct) by have h9 := HOW.out; rw [mixS_end (by rw [negL_len, HFR.out, HCL.out]) (by have := HFR.out; omega)] at h9; exact h9)
        have MAP := Lib.hid (show zs.map FV.f = gvL0 (ys0.map FV.f) (j : Int) ct by
          rw [HMP.out, gvL0, Int.toNat_natCast, frmAt_nat HYJ.out, mixF, giveF, mixS_end (by rw [hlh.out, HCL.out]) (by have := hlh.out; omega), mixS_end (by rw [negL_len, hlw.out, HCL.out]) (by have := hlw.out; omega)])
        have hb9 := hb
        clear HOK HMP
        go_wp2_with fail
        refine (stGood_a (own_rints LEF.out) hn0 (OwnF.aforms HOO.out HOI.out MAP.out (fun f hf => by have := HLS.out f hf; omega)) hm0).mono ?_
        rintro e w10 ⟨rfl, hn⟩
        have hb10 := hb9.trans (hn.mono hb9.size)
        obtain ⟨v, hv⟩ : ∃ v, v = stG (gvF0 fr ct) (gvL0 (ys0.map FV.f) (j : Int) ct) := ⟨_, rfl⟩
        rw [← hv]
        have HG2 := Lib.hid (HG.out.trans hv.symm)
        have LE2 := Lib.hid (row_step LEF.out hn)
        have RF2 := Lib.hid (RF.mk' (row_step HOO.out hn) (OIn.step HOI.out hn) MAP.out hn6 hm8 HLS.out)
        clear hv hn hb9 hb
        cases v
        · go_wp2_with fail
          go_ret3
          exact GvPost.nil HG2.out hb10
        · go_wp2_with fail
          go_ret3
          exact GvPost.yes HG2.out LE2.out RF2.out HNI.out hn0 hb10
end Go.Proofs.Ytfemacefkaehjaa
