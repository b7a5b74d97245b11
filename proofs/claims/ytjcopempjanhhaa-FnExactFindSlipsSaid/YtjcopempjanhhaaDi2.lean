/-
  Contracts: CaseDifference.
-/
import Derived.Test.YtjcopempjanhhaaDi1
namespace Go.Proofs.Ytjcopempjanhhaa
open Go.RowKit
def subL : List Bx → List Bx → List Int
  | a :: r, b :: s => (b.count - a.count) :: subL r s
  | _, _ => []
theorem subL_end {a b : List Bx} (h : a = []) : subL a b = [] := by subst h; cases b <;> rfl
theorem subL_step {xs ys r t : List Bx} {zs : List Int} {a b : Bx} {k : Nat} (hd : xs.drop k = a :: r) (he : ys.drop k = b :: t) (hR : zs ++ subL (xs.drop k) (ys.drop k) = subL xs ys) : (zs ++ [b.count - a.count]) ++ subL r t = subL xs ys := by
  rw [← hR, hd, he, subL, List.append_assoc]; rfl
theorem twoB_true {a b : List Bx} (h : twoB a b = true) : caseB a = true ∧ caseB b = true ∧ a.length = b.length ∧ alikeL a b = true := by
  simp only [twoB, alikeB, Bool.and_eq_true, decide_eq_true_eq] at h
  exact ⟨h.1, h.2.1, h.2.2.1, h.2.2.2⟩
def cdV (a b : List Bx) : List Int := if twoB a b then subL a b else []
/-- the cells that a region reads, behind an append to a row of the call's own -/
theorem cell_grew {w w1 : World} {v : Value} {p : Addr} {z : Value} (hg : w.grownBy w1 v.ownBlock) (h : w.cell? p = some z) (hne : ∀ q, v.ownBlock = some q → q ≠ p.block) : w1.cell? p = some z :=
  hg.cell h (fun e => hne _ e.symm rfl)
theorem new_oneD {w : World} {g : Nat} {v : Value} {t : TypeId} (h : w.heap.size = g) : ∀ (j : Nat) (u : Value), [v][j]? = some u → (w.alloc (.cells #[v] t)).drew.cell? ((⟨g, 0, none⟩ : Addr).add j) = some u := by
  subst h
  exact new_one w _ rfl v t

set_option maxRecDepth 100000 in
theorem difference_any {A B : Option Addr} {n cp cq : Nat} {xs ys : List Bx} {w1 : World} (hr : RBxs w1 w1.heap.size A n xs) (hs : RBxs w1 w1.heap.size B n ys) (hn0 : n ≤ 1048576) (hx : ∀ x ∈ xs, 0 ≤ x.count ∧ x.count ≤ 9999) (hy : ∀ x ∈ ys, 0 ≤ x.count ∧ x.count ≤ 9999) :
    Calls Try.prog 81 #[.slice A n cp, .slice B n cq] w1 fun e w' => ∃ V C, e = .returned (.slice V n C) ∧ Own w' w1.heap.size (.slice V n C) n (subL xs ys) ∧ Below w1.heap.size w1 w' := by
  obtain ⟨i0, hi, hz0, hz1, hz2⟩ := info_parts info3
  have HL := Lib.hid hr.len
  have HX := Lib.hid hx
  have HY := Lib.hid hy
  clear hx hy
  have h0 := own_empty w1 w1.heap.size (Nat.le_refl _)
  go_enter Try.func81, Try.ntmps81
  go_wp2_with fail
  go_loopw [5, 11] (fun v u wr => ∃ (k : Nat) (zs : List Int), k ≤ n ∧ u = .int .i64 k ∧ Own wr w1.heap.size v k zs ∧ zs ++ subL (xs.drop k) (ys.drop k) = subL xs ys ∧ Below w1.heap.size w1 wr) (fun _ u _ => n - (intOf u).toNat)
  case atStart => exact ⟨0, [], Nat.zero_le _, rfl, h0, rfl, (Below.refl _ _).alloc (Nat.le_refl _) _⟩
  case round =>
    obtain ⟨k, zs, hk, rfl, ho0, hR, hbr⟩ := hrel
    by_cases hlt : k < n
    · obtain ⟨bb, off, x, eA, hb1, hd, hx, c0, c1, c2, c3⟩ := RBxs.at_ (RBxs.below hr hbr) hlt
      obtain ⟨b2, o2, y, eB, hb2, he, hy, d0, d1, d2, d3⟩ := RBxs.at_ (RBxs.below hs hbr) hlt
      have bx := HX.out x (List.mem_of_getElem? hx)
      have by_ := HY.out y (List.mem_of_getElem? hy)
      have HR := Lib.hid (subL_step hd he hR)
      have HA := Lib.hid eA
      have HB := Lib.hid eB
      have hsz := hbr.size
      clear hd he hR hx hy
      rw [eA, eB]
      clear eA eB
      have l0 : (0 : Int) ≤ (k : Int) := by omega
      have l1 : (k : Int) < (n : Int) := by omega
      have ew : IntKind.i64.wrap (y.count - x.count) = y.count - x.count := wrapI (by omega) (by omega)
      have hS0 : (wr.alloc (.cells #[.string x.code, .int .i64 x.line, .int .i64 x.column, .int .i64 x.count] 98)).cell? ⟨b2, o2 + k * 4 + 3, none⟩ = some (.int .i64 y.count) ∧ (wr.alloc (.cells #[.string x.code, .int .i64 x.line, .int .i64 x.column, .int .i64 x.count] 98)).cell? ⟨wr.heap.size, 3, none⟩ = some (.int .i64 x.count) := ⟨(World.cell?_alloc_lt _ _ _ (by simp <;> omega)).trans d3, (Blk.new' wr 98 #[.string x.code, .int .i64 x.line, .int .i64 x.column, .int .i64 x.count]).cell 3⟩
      have ho1 := row_alloc ho0 (.cells #[.string x.code, .int .i64 x.line, .int .i64 x.column, .int .i64 x.count] 98)
      go_wp2_with fail
      go_region_held3 (fun wx => wx.cell? ⟨b2, o2 + k * 4 + 3, none⟩ = some (.int .i64 y.count) ∧ wx.cell? ⟨wr.heap.size, 3, none⟩ = some (.int .i64 x.count)) ((first | exact hS0 | (refine ⟨(World.cell?_alloc_lt _ _ _ ?_).trans hS0.1, (World.cell?_alloc_lt _ _ _ ?_).trans hS0.2⟩ <;> (simp <;> omega)) | exact hS9 | assumption | go_keep)) (first
        | (refine step_append_lies _ rfl (.tmp 16) (.tmp 25) 45 rfl w1.heap.size 3 i0 (.int .i64 0) 1 8 Try.underlying45 hi hz0 hz1 hz2 rfl (by decide) _ k _ rfl (row_alloc ho1 _) _ 1 1 [.int .i64 (y.count - x.count)] rfl rfl (new_oneD (by simp)) (by intro u hu; simp at hu; subst hu; rfl) (by omega) (by unfold maxLen; omega) (by omega) (by simp <;> omega) _ rfl ?_; intro g cap w9 hown9 hgr9 _ _; have hkb : Below w1.heap.size _ w9 := grown_below hgr9 (by simp <;> omega) (fun q hq => (ho0.lt q hq).1); have hS9 : w9.cell? ⟨b2, o2 + k * 4 + 3, none⟩ = some (.int .i64 y.count) ∧ w9.cell? ⟨wr.heap.size, 3, none⟩ = some (.int .i64 x.count) := ⟨cell_grew hgr9 ((World.cell?_alloc_lt _ _ _ (by simp <;> omega)).trans hS0.1) (by intro q hq e; have := (ho0.lt q hq).1; simp at e; omega), cell_grew hgr9 ((World.cell?_alloc_lt _ _ _ (by simp <;> omega)).trans hS0.2) (by intro q hq e; have := (ho0.lt q hq).2; simp at e; omega)⟩; have HN := Lib.hid (own_app hown9); clear hown9 hgr9))
      clear hS0 ho1
      have hbe := (((hbr.alloc hsz (.cells #[.string x.code, .int .i64 x.line, .int .i64 x.column, .int .i64 x.count] 98)).drew).alloc (by simp <;> omega) _).trans hkb
      go_wp2_with fail
      (try rw [← HA.out]); (try rw [← HB.out])
      go_roundw
      case rel => exact ⟨k + 1, _, by omega, by go_num, HN.out, HR.out, hbe⟩
      case measure => simp [intOf]; omega
    · have hkn : k = n := by omega
      have HR := Lib.hid (show zs = subL xs ys by rw [← hR, subL_end (drop_end HL.out hlt), List.append_nil])
      clear hR
      obtain ⟨V, C, rfl⟩ := own_slice ho0
      have HO := Lib.hid ho0
      have HK := Lib.hid hkn
      clear ho0 hkn
      go_wp2_with fail
      go_ret
      have ho9 := HO.out
      rw [HR.out] at ho9
      have hkn := HK.out
      subst hkn
      exact ⟨V, C, rfl, ho9, hbr⟩
set_option maxRecDepth 100000 in
theorem caseDifference_spec {A B : Option Addr} {n cp m cq : Nat} {xs ys : List Bx} {w : World} (hr : RBxs w w.heap.size A n xs) (hn0 : n ≤ 1048576) (hcp : n ≤ cp) (hL : ∀ b ∈ xs, b.code.size ≤ 1048576) (hs : RBxs w w.heap.size B m ys) (hm0 : m ≤ 1048576) (hcq : m ≤ cq) (hM : ∀ b ∈ ys, b.code.size ≤ 1048576) :
    Calls Try.prog 28 #[.slice A n cp, .slice B m cq] w fun e w' => ∃ V N C, e = .returned (.tuple #[.slice V N C, .bool (twoB xs ys)]) ∧ Own w' w.heap.size (.slice V N C) N (cdV xs ys) ∧ N ≤ 1048576 ∧ Below w.heap.size w w' := by
  obtain ⟨i0, hi, hz0, hz1, hz2⟩ := info_parts info3
  have HL := Lib.hid hr.len
  have HM := Lib.hid hs.len
  cases h1 : twoB xs ys
  · (go_enter Try.func28, Try.ntmps28; go_wp2_with fail; refine (diTwo_any hr hs hn0 hm0 hcp hcq hL hM).mono ?_; rintro e1 w1 ⟨rfl, hb⟩)
    go_wp2_with fail
    go_ret2
    exact ⟨none, 0, 0, rfl, by rw [cdV, h1]; exact own_nil _ _, by omega, hb⟩
  · obtain ⟨g1, g2, g3, g4⟩ := twoB_true h1
    have hnm : n = m := by have := hr.len; have := hs.len; omega
    subst hnm
    have HX := Lib.hid (show ∀ x ∈ xs, 0 ≤ x.count ∧ x.count ≤ 9999 from fun x hx => (boxB_true ((caseB_true g1).2 x hx)).2.2.2)
    have HY := Lib.hid (show ∀ x ∈ ys, 0 ≤ x.count ∧ x.count ≤ 9999 from fun x hx => (boxB_true ((caseB_true g2).2 x hx)).2.2.2)
    have HV := Lib.hid (show cdV xs ys = subL xs ys by rw [cdV, h1]; rfl)
    clear g1 g2 g3 g4
    (go_enter Try.func28, Try.ntmps28; go_wp2_with fail; refine (diTwo_any hr hs hn0 hm0 hcp hcq hL hM).mono ?_; rintro e1 w1 ⟨rfl, hb⟩)
    replace hr := (RBxs.below hr hb).more hb.size
    replace hs := (RBxs.below hs hb).more hb.size
    have hsz1 := hb.size
    go_wp2_with fail
    clear h1
    go_loopw [6, 14] (fun v u wr => ∃ (k : Nat) (zs : List Int), k ≤ n ∧ u = .int .i64 k ∧ Own wr w1.heap.size v k zs ∧ zs ++ subL (xs.drop k) (ys.drop k) = subL xs ys ∧ Below w1.heap.size w1 wr) (fun _ u _ => n - (intOf u).toNat)
    case atStart => exact ⟨0, [], Nat.zero_le _, rfl, own_nil _ _, rfl, Below.refl _ _⟩
    case round =>
      obtain ⟨k, zs, hk, rfl, ho0, hR, hbr⟩ := hrel
      by_cases hlt : k < n
      · obtain ⟨bb, off, x, eA, hb1, hd, hx, c0, c1, c2, c3⟩ := RBxs.at_ (RBxs.below hr hbr) hlt
        obtain ⟨b2, o2, y, eB, hb2, he, hy, d0, d1, d2, d3⟩ := RBxs.at_ (RBxs.below hs hbr) hlt
        have bx := HX.out x (List.mem_of_getElem? hx)
        have by_ := HY.out y (List.mem_of_getElem? hy)
        have HR := Lib.hid (subL_step hd he hR)
        have HA := Lib.hid eA
        have HB := Lib.hid eB
        have hsz := hbr.size
        clear hd he hR hx hy
        rw [eA, eB]
        clear eA eB
        have l0 : (0 : Int) ≤ (k : Int) := by omega
        have l1 : (k : Int) < (n : Int) := by omega
        have ew : IntKind.i64.wrap (y.count - x.count) = y.count - x.count := wrapI (by omega) (by omega)
        have hS0 : wr.cell? ⟨b2, o2 + k * 4 + 3, none⟩ = some (.int .i64 y.count) ∧ wr.cell? ⟨bb, off + k * 4 + 3, none⟩ = some (.int .i64 x.count) := ⟨d3, c3⟩
        have ho1 := ho0
        go_wp2_with fail
        go_region_held3 (fun wx => wx.cell? ⟨b2, o2 + k * 4 + 3, none⟩ = some (.int .i64 y.count) ∧ wx.cell? ⟨bb, off + k * 4 + 3, none⟩ = some (.int .i64 x.count)) ((first | exact hS0 | (refine ⟨(World.cell?_alloc_lt _ _ _ ?_).trans hS0.1, (World.cell?_alloc_lt _ _ _ ?_).trans hS0.2⟩ <;> (simp <;> omega)) | exact hS9 | assumption | go_keep)) (first
          | (refine step_append_lies _ rfl (.tmp 17) (.tmp 29) 45 rfl w1.heap.size 3 i0 (.int .i64 0) 1 8 Try.underlying45 hi hz0 hz1 hz2 rfl (by decide) _ k _ rfl (row_alloc ho1 _) _ 1 1 [.int .i64 (y.count - x.count)] rfl rfl (new_oneD (by simp)) (by intro u hu; simp at hu; subst hu; rfl) (by omega) (by unfold maxLen; omega) (by omega) (by simp <;> omega) _ rfl ?_; intro g cap w9 hown9 hgr9 _ _; have hkb : Below w1.heap.size _ w9 := grown_below hgr9 (by simp <;> omega) (fun q hq => (ho0.lt q hq).1); have hS9 : w9.cell? ⟨b2, o2 + k * 4 + 3, none⟩ = some (.int .i64 y.count) ∧ w9.cell? ⟨bb, off + k * 4 + 3, none⟩ = some (.int .i64 x.count) := ⟨cell_grew hgr9 ((World.cell?_alloc_lt _ _ _ (by simp <;> omega)).trans hS0.1) (by intro q hq e; have := (ho0.lt q hq).1; simp at e; omega), cell_grew hgr9 ((World.cell?_alloc_lt _ _ _ (by simp <;> omega)).trans hS0.2) (by intro q hq e; have := (ho0.lt q hq).1; simp at e; omega)⟩; have HN := Lib.hid (own_app hown9); clear hown9 hgr9))
        clear hS0 ho1
        have hbe := ((hbr.drew).alloc (by simpa using hsz) _).trans hkb
        go_wp2_with fail
        (try rw [← HA.out]); (try rw [← HB.out])
        go_roundw
        case rel => exact ⟨k + 1, _, by omega, by go_num, HN.out, HR.out, hbe⟩
        case measure => simp [intOf]; omega
      · have hkn : k = n := by omega
        have HR := Lib.hid (show zs = subL xs ys by rw [← hR, subL_end (drop_end HL.out hlt), List.append_nil])
        clear hR
        obtain ⟨V, C, rfl⟩ := own_slice ho0
        have HO := Lib.hid ho0
        have HK := Lib.hid hkn
        clear ho0 hkn
        go_wp2_with fail
        go_ret2
        have ho9 := HO.out
        rw [HR.out] at ho9
        have hkn := HK.out
        subst hkn
        refine ⟨V, k, C, rfl, ?_, by omega, hb.trans (hbr.mono hsz1)⟩
        rw [HV.out]
        exact own_lower ho9 hsz1
set_option maxRecDepth 100000 in
theorem caseDifference_impl {A B : Option Addr} {n cp m cq : Nat} {xs ys : List Bx} {w : World} (hr : RBxs w w.heap.size A n xs) (hn0 : n ≤ 1048576) (hcp : n ≤ cp) (hL : ∀ b ∈ xs, b.code.size ≤ 1048576) (hs : RBxs w w.heap.size B m ys) (hm0 : m ≤ 1048576) (hcq : m ≤ cq) (hM : ∀ b ∈ ys, b.code.size ≤ 1048576) :
    Calls Try.prog 30 #[.slice A n cp, .slice B m cq] w fun e w' => ∃ V N C, e = .returned (.tuple #[.slice V N C, .bool (twoB xs ys)]) ∧ Own w' w.heap.size (.slice V N C) N (cdV xs ys) ∧ N ≤ 1048576 ∧ Below w.heap.size w w' := by
  obtain ⟨i0, hi, hz0, hz1, hz2⟩ := info_parts info3
  have HL := Lib.hid hr.len
  have HM := Lib.hid hs.len
  cases h1 : twoB xs ys
  · (go_enter Try.func30, Try.ntmps30; go_wp2_with fail; refine (areAlike_any hr hs hn0 hm0 hcp hcq hL hM).mono ?_; rintro e1 w1 ⟨rfl, hb⟩)
    go_wp2_with fail
    go_ret2
    exact ⟨some ⟨w1.heap.size, 0, none⟩, 0, 0, rfl, by rw [cdV, h1]; exact own_lower (own_empty w1 w1.heap.size (Nat.le_refl _)) hb.size, by omega, hb.alloc hb.size _⟩
  · obtain ⟨g1, g2, g3, g4⟩ := twoB_true h1
    have hnm : n = m := by have := hr.len; have := hs.len; omega
    subst hnm
    have HX := Lib.hid (show ∀ x ∈ xs, 0 ≤ x.count ∧ x.count ≤ 9999 from fun x hx => (boxB_true ((caseB_true g1).2 x hx)).2.2.2)
    have HY := Lib.hid (show ∀ x ∈ ys, 0 ≤ x.count ∧ x.count ≤ 9999 from fun x hx => (boxB_true ((caseB_true g2).2 x hx)).2.2.2)
    have HV := Lib.hid (show cdV xs ys = subL xs ys by rw [cdV, h1]; rfl)
    clear g1 g2 g3 g4
    (go_enter Try.func30, Try.ntmps30; go_wp2_with fail; refine (areAlike_any hr hs hn0 hm0 hcp hcq hL hM).mono ?_; rintro e1 w1 ⟨rfl, hb⟩)
    go_wp2_with fail
    refine (difference_any ((RBxs.below hr hb).more hb.size) ((RBxs.below hs hb).more hb.size) hn0 HX.out HY.out).mono ?_
    rintro e1 w2 ⟨V, C, rfl, hO, hn⟩
    go_wp2_with fail
    go_ret2
    refine ⟨V, n, C, rfl, ?_, hn0, hb.trans (hn.mono hb.size)⟩
    rw [HV.out]
    exact own_lower hO hb.size
end Go.Proofs.Ytjcopempjanhhaa
