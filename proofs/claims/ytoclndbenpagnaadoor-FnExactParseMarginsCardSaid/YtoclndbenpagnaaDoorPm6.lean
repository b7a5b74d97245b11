/-
  Contracts: the program's ParseMargins.
-/
import Derived.Test.YtoclndbenpagnaaDoorPm5
import Derived.Deep.RegionHeld3
namespace Go.Proofs.YtoclndbenpagnaaDoor
open Go.RowKit
def eqS (a b : ByteArray) : Bool := a.toList == b.toList
theorem eqS_t {a b : ByteArray} (h : eqS a b = true) : (a.toList == b.toList) = true ∧ (a.toList != b.toList) = false := by
  have h1 : a.toList = b.toList := by simpa [eqS] using h
  simp [h1]
theorem eqS_f {a b : ByteArray} (h : eqS a b = false) : (a.toList == b.toList) = false ∧ (a.toList != b.toList) = true := by
  have h1 : ¬ a.toList = b.toList := by simpa [eqS] using h
  simp [h1]
theorem eqS_str {l : List UInt8} {s : ByteArray} : eqS (str l) s = true ↔ bytes s = l := by
  rw [eqS, beq_iff_eq, str_toList, ByteArray.toList_eq]
  exact ⟨fun h => h.symm, fun h => h.symm⟩
set_option maxRecDepth 100000 in
set_option maxHeartbeats 4000000 in
theorem parseMargins_impl (s : ByteArray) (hs : s.size ≤ 1048576) (w : World) (hT : Tab w) (hE : ErrV w) :
    Calls Tryd.prog 6 #[.string s] w fun e w' => PmPost s w e w' := by
  have hz : Blk (w.alloc (.cells #[.int .i64 0, .int .i64 0, .int .i64 0, .int .i64 0] 23)) w.heap.size 23 [.int .i64 0, .int .i64 0, .int .i64 0, .int .i64 0] := Blk.new' w 23 #[.int .i64 0, .int .i64 0, .int .i64 0, .int .i64 0]
  have hb : Below w.heap.size w (w.alloc (.cells #[.int .i64 0, .int .i64 0, .int .i64 0, .int .i64 0] 23)) := (by (repeat (first | exact Below.refl _ _ | exact hb | apply Below.drew | (refine Below.alloc ?_ (by first | (simp; done) | (simp; omega) | (have := hb.size; simp at this ⊢; omega)) _) | (refine Below.setCell ?_ (by simp) _))))
  have HE := Lib.hid (hE.below hb)
  have HT := Lib.hid hT
  clear hT hE
  go_enter Tryd.func6, Tryd.ntmps6
  go_wp2_with fail
  refine (numbersIn_any s hs _ HE.out).mono ?_
  rintro e w2 ⟨V, N, C, rfl, ho, hn⟩
  replace hb := hb.trans (hn.mono hb.size)
  replace hz := hz.below hn hz.lt
  have HO := Lib.hid ho
  have HL := Lib.hid (show (numF s).length = N from own_len ho)
  clear hn ho
  by_cases h4 : N = 4
  case neg =>
    have HNO := Lib.hid (show ∀ a b c d : Nat, ¬ IsT s a b c d from fun a b c d h => by
      have := HL.out
      rw [numF_text h] at this
      simp at this
      omega)
    have e1 := ne_t (show (N : Int) ≠ 4 by omega)
    have e2 := e1.1
    have e3 := e1.2
    clear e1 h4
    (have z0 : _ = some (Value.int .i64 0) := hz.cell 0); (have z1 : _ = some (Value.int .i64 0) := hz.cell 1); (have z2 : _ = some (Value.int .i64 0) := hz.cell 2); (have z3 : _ = some (Value.int .i64 0) := hz.cell 3); have y0 := hz.frozen 0; have y1 := hz.frozen 1; have y2 := hz.frozen 2; have y3 := hz.frozen 3
    go_wp2_with fail
    clear z0 z1 z2 z3 y0 y1 y2 y3; have hz4 := (((hz.set_ 0 ((.int .i64 0))).set_ 1 ((.int .i64 0))).set_ 2 ((.int .i64 0))).set_ 3 ((.int .i64 0)); (have q0 : _ = some ((.int .i64 0) : Value) := hz4.cell 0); (have q1 : _ = some ((.int .i64 0) : Value) := hz4.cell 1); (have q2 : _ = some ((.int .i64 0) : Value) := hz4.cell 2); (have q3 : _ = some ((.int .i64 0) : Value) := hz4.cell 3); exact bodyPost_ret (v := .tuple #[.agg #[(.int .i64 0), (.int .i64 0), (.int .i64 0), (.int .i64 0)], .bool false]) (by simp [results, Tryd.results6, go_sem, q0, q1, q2, q3]) rfl (⟨.inr ⟨HNO.out, rfl⟩, ((((hb.setCell (by simp) _).setCell (by simp) _).setCell (by simp) _).setCell (by simp) _)⟩)
  subst h4
  obtain ⟨p, q, r, t, hsp⟩ := four HL.out
  have HSP := Lib.hid hsp
  obtain ⟨g, cap, hv, _, hg⟩ := HO.out.form (by omega)
  injection hv with hv1 hv2 hv3
  subst hv1 hv3
  have hg2 := (HO.out.lt g rfl).2
  have hcell : ∀ j x, ([p, q, r, t] : List Int)[j]? = some x → w2.cell? ⟨g, j, none⟩ = some (.int .i64 x) := fun j x hx => by
    rw [World.ownsRow.cellAt HO.out j (by have h9 := (List.getElem?_eq_some_iff.1 hx).1; simp at h9; omega), hsp, List.getElem?_map, hx]; rfl
  have hS0 : w2.cell? ⟨g, 0, none⟩ = some (.int .i64 p) ∧ w2.cell? ⟨g, 1, none⟩ = some (.int .i64 q) ∧ w2.cell? ⟨g, 2, none⟩ = some (.int .i64 r) ∧ w2.cell? ⟨g, 3, none⟩ = some (.int .i64 t) := ⟨hcell 0 p rfl, hcell 1 q rfl, hcell 2 r rfl, hcell 3 t rfl⟩
  have HS := Lib.hid (show ∀ o, (w2.alloc o).drew.cell? ⟨g, 0, none⟩ = some (.int .i64 p) ∧ (w2.alloc o).drew.cell? ⟨g, 1, none⟩ = some (.int .i64 q) ∧ (w2.alloc o).drew.cell? ⟨g, 2, none⟩ = some (.int .i64 r) ∧ (w2.alloc o).drew.cell? ⟨g, 3, none⟩ = some (.int .i64 t) from fun o => ⟨(World.cell?_alloc_lt w2 o _ hg2).trans hS0.1, (World.cell?_alloc_lt w2 o _ hg2).trans hS0.2.1, (World.cell?_alloc_lt w2 o _ hg2).trans hS0.2.2.1, (World.cell?_alloc_lt w2 o _ hg2).trans hS0.2.2.2⟩)
  clear hcell hsp hg
  go_wp2_with fail
  go_region_held3 (fun wx => wx.cell? ⟨g, 0, none⟩ = some (.int .i64 p) ∧ wx.cell? ⟨g, 1, none⟩ = some (.int .i64 q) ∧ wx.cell? ⟨g, 2, none⟩ = some (.int .i64 r) ∧ wx.cell? ⟨g, 3, none⟩ = some (.int .i64 t)) ((first | exact hS0 | exact HS.out _ | assumption | go_keep)) (fail)
  have hm : Blk (w2.alloc (.cells #[.int .i64 p, .int .i64 q, .int .i64 r, .int .i64 t] 23)).drew w2.heap.size 23 [.int .i64 p, .int .i64 q, .int .i64 r, .int .i64 t] := Blk.new' w2 23 #[.int .i64 p, .int .i64 q, .int .i64 r, .int .i64 t]
  have hb3 : Below w.heap.size w (w2.alloc (.cells #[.int .i64 p, .int .i64 q, .int .i64 r, .int .i64 t] 23)).drew := (hb.alloc hb.size _).drew
  have hz3 : Blk (w2.alloc (.cells #[.int .i64 p, .int .i64 q, .int .i64 r, .int .i64 t] 23)).drew w.heap.size 23 [.int .i64 0, .int .i64 0, .int .i64 0, .int .i64 0] := (hz.alloc _).drew
  obtain ⟨w3, hw3⟩ : ∃ x, x = (w2.alloc (.cells #[.int .i64 p, .int .i64 q, .int .i64 r, .int .i64 t] 23)).drew := ⟨_, rfl⟩
  rw [← hw3] at hm hb3 hz3 ⊢
  clear hw3 hS0 HS hz hb
  have m0 : _ = some (Value.int .i64 p) := hm.cell 0
  have m1 : _ = some (Value.int .i64 q) := hm.cell 1
  have m2 : _ = some (Value.int .i64 r) := hm.cell 2
  have m3 : _ = some (Value.int .i64 t) := hm.cell 3
  go_wp2_with fail
  refine (areMargins_any).mono ?_
  rintro e1 w4 ⟨rfl, hn⟩
  have hb := hb3.trans (hn.mono hb3.size)
  have hz := hz3.below hn hz3.lt
  replace hm := hm.below hn hm.lt
  clear m0 m1 m2 m3 hn hb3 hz3
  cases h : mgB p q r t
  · have HNO := Lib.hid (show ∀ a b c d : Nat, ¬ IsT s a b c d from fun a b c d hT => by
      have e := HSP.out.symm.trans (numF_text hT)
      simp only [List.cons.injEq, and_true] at e
      obtain ⟨f1, f2, f3, f4⟩ := e
      rw [f1, f2, f3, f4, mgB_nat hT.1 hT.2.1 hT.2.2.1 hT.2.2.2.1] at h
      cases h)
    clear h
    (have z0 : _ = some (Value.int .i64 0) := hz.cell 0); (have z1 : _ = some (Value.int .i64 0) := hz.cell 1); (have z2 : _ = some (Value.int .i64 0) := hz.cell 2); (have z3 : _ = some (Value.int .i64 0) := hz.cell 3); have y0 := hz.frozen 0; have y1 := hz.frozen 1; have y2 := hz.frozen 2; have y3 := hz.frozen 3
    go_wp2_with fail
    clear z0 z1 z2 z3 y0 y1 y2 y3; have hz4 := (((hz.set_ 0 ((.int .i64 0))).set_ 1 ((.int .i64 0))).set_ 2 ((.int .i64 0))).set_ 3 ((.int .i64 0)); (have q0 : _ = some ((.int .i64 0) : Value) := hz4.cell 0); (have q1 : _ = some ((.int .i64 0) : Value) := hz4.cell 1); (have q2 : _ = some ((.int .i64 0) : Value) := hz4.cell 2); (have q3 : _ = some ((.int .i64 0) : Value) := hz4.cell 3); exact bodyPost_ret (v := .tuple #[.agg #[(.int .i64 0), (.int .i64 0), (.int .i64 0), (.int .i64 0)], .bool false]) (by simp [results, Tryd.results6, go_sem, q0, q1, q2, q3]) rfl (⟨.inr ⟨HNO.out, rfl⟩, ((((hb.setCell (by simp) _).setCell (by simp) _).setCell (by simp) _).setCell (by simp) _)⟩)
  obtain ⟨r1, r2, r3, r4⟩ := mgB_true h
  obtain ⟨a, rfl⟩ := nat_of r1.1
  obtain ⟨b, rfl⟩ := nat_of r2.1
  obtain ⟨c, rfl⟩ := nat_of r3.1
  obtain ⟨d, rfl⟩ := nat_of r4.1
  have ha : a ≤ 300 := by omega
  have hb' : b ≤ 300 := by omega
  have hc : c ≤ 300 := by omega
  have hd : d ≤ 300 := by omega
  have HT4 := Lib.hid (HT.out.below hb)
  have m0 : _ = some (Value.int .i64 (a : Int)) := hm.cell 0
  have m1 : _ = some (Value.int .i64 (b : Int)) := hm.cell 1
  have m2 : _ = some (Value.int .i64 (c : Int)) := hm.cell 2
  have m3 : _ = some (Value.int .i64 (d : Int)) := hm.cell 3
  clear h r1 r2 r3 r4
  go_wp2_with fail
  refine (marginsText_any (by omega) (by omega) (by omega) (by omega) HT4.out).mono ?_
  rintro e1 w5 ⟨rfl, hn⟩
  replace hz := hz.below hn hz.lt
  replace hm := hm.below hn hm.lt
  replace hb := hb.trans (hn.mono hb.size)
  clear m0 m1 m2 m3 hn
  cases hq : eqS (str (joinN [a, b, c, d])) s
  · have HNO := Lib.hid (show ∀ a b c d : Nat, ¬ IsT s a b c d from fun a' b' c' d' hT => by
      have e := HSP.out.symm.trans (numF_text hT)
      simp only [List.cons.injEq, and_true, Int.natCast_inj] at e
      obtain ⟨f1, f2, f3, f4⟩ := e
      subst f1 f2 f3 f4
      rw [eqS_str.2 hT.2.2.2.2] at hq
      cases hq)
    obtain ⟨e1, e2⟩ := eqS_f hq
    clear hq
    (have z0 : _ = some (Value.int .i64 0) := hz.cell 0); (have z1 : _ = some (Value.int .i64 0) := hz.cell 1); (have z2 : _ = some (Value.int .i64 0) := hz.cell 2); (have z3 : _ = some (Value.int .i64 0) := hz.cell 3); have y0 := hz.frozen 0; have y1 := hz.frozen 1; have y2 := hz.frozen 2; have y3 := hz.frozen 3
    go_wp2_with fail
    clear z0 z1 z2 z3 y0 y1 y2 y3; have hz4 := (((hz.set_ 0 ((.int .i64 0))).set_ 1 ((.int .i64 0))).set_ 2 ((.int .i64 0))).set_ 3 ((.int .i64 0)); (have q0 : _ = some ((.int .i64 0) : Value) := hz4.cell 0); (have q1 : _ = some ((.int .i64 0) : Value) := hz4.cell 1); (have q2 : _ = some ((.int .i64 0) : Value) := hz4.cell 2); (have q3 : _ = some ((.int .i64 0) : Value) := hz4.cell 3); exact bodyPost_ret (v := .tuple #[.agg #[(.int .i64 0), (.int .i64 0), (.int .i64 0), (.int .i64 0)], .bool false]) (by simp [results, Tryd.results6, go_sem, q0, q1, q2, q3]) rfl (⟨.inr ⟨HNO.out, rfl⟩, ((((hb.setCell (by simp) _).setCell (by simp) _).setCell (by simp) _).setCell (by simp) _)⟩)
  · have HIT := Lib.hid (show IsT s a b c d from ⟨ha, hb', hc, hd, eqS_str.1 hq⟩)
    obtain ⟨e1, e2⟩ := eqS_t hq
    have m0 : _ = some (Value.int .i64 (a : Int)) := hm.cell 0
    have m1 : _ = some (Value.int .i64 (b : Int)) := hm.cell 1
    have m2 : _ = some (Value.int .i64 (c : Int)) := hm.cell 2
    have m3 : _ = some (Value.int .i64 (d : Int)) := hm.cell 3
    clear hq
    (have z0 : _ = some (Value.int .i64 0) := hz.cell 0); (have z1 : _ = some (Value.int .i64 0) := hz.cell 1); (have z2 : _ = some (Value.int .i64 0) := hz.cell 2); (have z3 : _ = some (Value.int .i64 0) := hz.cell 3); have y0 := hz.frozen 0; have y1 := hz.frozen 1; have y2 := hz.frozen 2; have y3 := hz.frozen 3
    go_wp2_with fail
    clear m0 m1 m2 m3
    clear z0 z1 z2 z3 y0 y1 y2 y3; have hz4 := (((hz.set_ 0 ((.int .i64 (a : Int)))).set_ 1 ((.int .i64 (b : Int)))).set_ 2 ((.int .i64 (c : Int)))).set_ 3 ((.int .i64 (d : Int))); (have q0 : _ = some ((.int .i64 (a : Int)) : Value) := hz4.cell 0); (have q1 : _ = some ((.int .i64 (b : Int)) : Value) := hz4.cell 1); (have q2 : _ = some ((.int .i64 (c : Int)) : Value) := hz4.cell 2); (have q3 : _ = some ((.int .i64 (d : Int)) : Value) := hz4.cell 3); exact bodyPost_ret (v := .tuple #[.agg #[(.int .i64 (a : Int)), (.int .i64 (b : Int)), (.int .i64 (c : Int)), (.int .i64 (d : Int))], .bool true]) (by simp [results, Tryd.results6, go_sem, q0, q1, q2, q3]) rfl (⟨.inl ⟨a, b, c, d, HIT.out, rfl⟩, ((((hb.setCell (by simp) _).setCell (by simp) _).setCell (by simp) _).setCell (by simp) _)⟩)
end Go.Proofs.YtoclndbenpagnaaDoor
