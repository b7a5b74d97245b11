/-
  Contracts: two cases with the same codes; the differences of their counts.
-/
import Derived.Test.YtjcopempjanhhaaCa4
import Derived.Deep.RegionHeld3
import Derived.Deep.AppendLies
namespace Go.Proofs.Ytjcopempjanhhaa
open Go.RowKit
theorem goodF_mem {ms : List Bx} : ∀ (f k : Nat), goodF ms f k = true → ∀ (j : Nat) (b : Bx), k ≤ j → j < k + f → ms[j]? = some b → boxB b = true
  | 0, k, _, j, b, h1, h2, _ => by omega
  | f + 1, k, h, j, b, h1, h2, hb => by
    rw [goodF, Bool.and_eq_true] at h
    by_cases e : j = k
    · subst e
      have h3 := h.1
      rw [hb, goodK, Bool.and_eq_true] at h3
      exact h3.1
    · exact goodF_mem f (k + 1) h.2 j b (by omega) (by omega) hb
theorem caseB_true {ms : List Bx} (h : caseB ms = true) : (1 ≤ ms.length ∧ ms.length ≤ 32) ∧ ∀ b ∈ ms, boxB b = true := by
  rw [caseB, Bool.and_eq_true] at h
  refine ⟨by have := inB_true.1 h.2; omega, fun b hb => ?_⟩
  obtain ⟨j, hj⟩ := List.getElem?_of_mem hb
  exact goodF_mem _ 0 h.1 j b (by omega) (by have := (List.getElem?_eq_some_iff.1 hj).1; omega) hj
theorem boxB_true {b : Bx} (h : boxB b = true) : letB b.code 1 3 = true ∧ (0 ≤ b.line ∧ b.line ≤ 9) ∧ (0 ≤ b.column ∧ b.column ≤ 9) ∧ (0 ≤ b.count ∧ b.count ≤ 9999) := by
  simp only [boxB, Bool.and_eq_true, inB_true] at h
  exact ⟨h.1, h.2.1, h.2.2.1, h.2.2.2⟩
def alikeL : List Bx → List Bx → Bool
  | a :: r, b :: s => eqS a.code b.code && alikeL r s
  | _, _ => true
def alikeB (a b : List Bx) : Bool := decide (a.length = b.length) && alikeL a b
def twoB (a b : List Bx) : Bool := caseB a && (caseB b && alikeB a b)
theorem alikeL_end {a b : List Bx} (h : a = []) : alikeL a b = true := by subst h; cases b <;> rfl
theorem eqS_t {a b : ByteArray} (h : eqS a b = true) : (a.toList == b.toList) = true ∧ (a.toList != b.toList) = false ∧ (b.toList == a.toList) = true ∧ (b.toList != a.toList) = false := by
  have h1 : a.toList = b.toList := by simpa [eqS] using h
  simp [h1]
theorem eqS_f {a b : ByteArray} (h : eqS a b = false) : (a.toList == b.toList) = false ∧ (a.toList != b.toList) = true ∧ (b.toList == a.toList) = false ∧ (b.toList != a.toList) = true := by
  have h1 : ¬ a.toList = b.toList := by simpa [eqS] using h
  simp [h1, Ne.symm h1]
set_option maxRecDepth 100000 in
theorem diAlike_any {A B : Option Addr} {n cp m cq : Nat} {xs ys : List Bx} {w : World} (hr : RBxs w w.heap.size A n xs) (hs : RBxs w w.heap.size B m ys) (hn0 : n ≤ 1048576) (hm0 : m ≤ 1048576) :
    Calls Try.prog 101 #[.slice A n cp, .slice B m cq] w fun e w' => e = .returned (.bool (alikeB xs ys)) ∧ Below w.heap.size w w' := by
  have HL := Lib.hid hr.len
  have HM := Lib.hid hs.len
  by_cases hnm : n = m
  · subst hnm
    have HA := Lib.hid (show alikeB xs ys = alikeL xs ys by rw [alikeB, HL.out, HM.out]; simp)
    have e0 : ((n : Int) != (n : Int)) = false := by simp
    go_enter Try.func101, Try.ntmps101
    go_wp2_with fail
    go_loopw [13] (fun u wr => ∃ k : Nat, k ≤ n ∧ u = .int .i64 k ∧ alikeL (xs.drop k) (ys.drop k) = alikeL xs ys ∧ ∃ j, wr = w.drewN j) (fun u _ => n - (intOf u).toNat)
    case atStart => exact ⟨0, Nat.zero_le _, rfl, rfl, 0, rfl⟩
    case round =>
      obtain ⟨k, hk, rfl, hR, jd, rfl⟩ := hrel
      by_cases hlt : k < n
      · obtain ⟨bb, off, x, rfl, _, hd, _, c0, c1, c2, c3⟩ := RBxs.at_ hr hlt
        obtain ⟨b2, o2, y, rfl, _, he, _, d0, d1, d2, d3⟩ := RBxs.at_ hs hlt
        have HR := Lib.hid (show (eqS x.code y.code && alikeL (xs.drop (k + 1)) (ys.drop (k + 1))) = alikeL xs ys by rw [← hR, hd, he, alikeL])
        clear hd he hR
        have l0 : (0 : Int) ≤ (k : Int) := by omega
        have l1 : (k : Int) < (n : Int) := by omega
        cases hq : eqS x.code y.code
        · obtain ⟨e1, e2, e3, e4⟩ := eqS_f hq
          have HQ := Lib.hid hq; clear hq
          go_wp2_with fail
          go_quiet (fail)
          go_wp2_with fail
          go_ret
          exact ⟨ret_bool (by rw [HA.out, ← HR.out, HQ.out]; rfl), below_drewN (below_drewN (Below.refl _ _) _) _⟩
        · obtain ⟨e1, e2, e3, e4⟩ := eqS_t hq
          have HQ := Lib.hid hq; clear hq
          go_wp2_with fail
          go_quiet (fail)
          go_wp2_with fail
          go_roundw
          case rel => exact ⟨k + 1, by omega, by go_num, by rw [← HR.out, HQ.out, Bool.true_and], _, rfl⟩
          case measure => simp [intOf]; omega
      · have HR := Lib.hid (show alikeL xs ys = true by rw [← hR]; exact alikeL_end (drop_end HL.out hlt))
        clear hR
        go_wp2_with fail
        go_ret
        exact ⟨ret_bool (by rw [HA.out, HR.out]), below_drewN (Below.refl _ _) _⟩
  · go_enter Try.func101, Try.ntmps101
    have e1 : ((n : Int) != (m : Int)) = true := by rw [bne_iff_ne]; omega
    go_wp2_with fail
    go_ret
    exact ⟨ret_bool (by rw [alikeB, HL.out, HM.out]; simp [hnm]), Below.refl _ _⟩
set_option maxRecDepth 100000 in
theorem areAlike_any {A B : Option Addr} {n cp m cq : Nat} {xs ys : List Bx} {w : World} (hr : RBxs w w.heap.size A n xs) (hs : RBxs w w.heap.size B m ys) (hn0 : n ≤ 1048576) (hm0 : m ≤ 1048576) (hcp : n ≤ cp) (hcq : m ≤ cq) (hL : ∀ b ∈ xs, b.code.size ≤ 1048576) (hM : ∀ b ∈ ys, b.code.size ≤ 1048576) :
    Calls Try.prog 80 #[.slice A n cp, .slice B m cq] w fun e w' => e = .returned (.bool (twoB xs ys)) ∧ Below w.heap.size w w' := by
  have HL := Lib.hid hr.len
  have HM := Lib.hid hs.len
  have HX := Lib.hid hL
  have HY := Lib.hid hM
  clear hL hM
  cases h1 : caseB xs
  · (go_enter Try.func80, Try.ntmps80; go_wp2_with fail; refine (isCase_any hr hn0 hcp HX.out).mono ?_; rintro e1 w1 ⟨rfl, hb⟩; replace hs := (RBxs.below hs hb).more hb.size)
    go_wp2_with fail
    go_ret
    exact ⟨ret_bool (by rw [twoB, h1]; rfl), hb⟩
  cases h2 : caseB ys
  · ((go_enter Try.func80, Try.ntmps80; go_wp2_with fail; refine (isCase_any hr hn0 hcp HX.out).mono ?_; rintro e1 w1 ⟨rfl, hb⟩; replace hs := (RBxs.below hs hb).more hb.size); go_wp2_with fail; refine (isCase_any hs hm0 hcq HY.out).mono ?_; rintro e1 w2 ⟨rfl, hn⟩; replace hs := (RBxs.below hs hn).more hn.size; replace hb := hb.trans (hn.mono hb.size); clear hn)
    go_wp2_with fail
    go_ret
    exact ⟨ret_bool (by rw [twoB, h1, h2]; rfl), hb⟩
  by_cases hnm : n = m
  · subst hnm
    have HA := Lib.hid (show twoB xs ys = alikeL xs ys by rw [twoB, h1, h2, alikeB, HL.out, HM.out]; simp)
    have e0 : ((n : Int) != (n : Int)) = false := by simp
    ((go_enter Try.func80, Try.ntmps80; go_wp2_with fail; refine (isCase_any hr hn0 hcp HX.out).mono ?_; rintro e1 w1 ⟨rfl, hb⟩; replace hs := (RBxs.below hs hb).more hb.size); go_wp2_with fail; refine (isCase_any hs hm0 hcq HY.out).mono ?_; rintro e1 w2 ⟨rfl, hn⟩; replace hs := (RBxs.below hs hn).more hn.size; replace hb := hb.trans (hn.mono hb.size); clear hn)
    have hr2 := (RBxs.below hr hb).more hb.size
    clear hr
    go_wp2_with fail
    clear h1 h2
    go_loopw [24] (fun u wr => ∃ k : Nat, k ≤ n ∧ u = .int .i64 k ∧ alikeL (xs.drop k) (ys.drop k) = alikeL xs ys ∧ Below w2.heap.size w2 wr) (fun u _ => n - (intOf u).toNat)
    case atStart => exact ⟨0, Nat.zero_le _, rfl, rfl, Below.refl _ _⟩
    case round =>
      obtain ⟨k, hk, rfl, hR, hbr⟩ := hrel
      by_cases hlt : k < n
      · obtain ⟨bb, off, x, rfl, _, hd, _, c0, c1, c2, c3⟩ := RBxs.at_ (RBxs.below hr2 hbr) hlt
        obtain ⟨b2, o2, y, rfl, hb2, he, _, d0, d1, d2, d3⟩ := RBxs.at_ (RBxs.below hs hbr) hlt
        have hsz := hbr.size
        have d0' : (wr.alloc (.cells #[.string x.code, .int .i64 x.line, .int .i64 x.column, .int .i64 x.count] 98)).cell? ⟨b2, o2 + k * 4, none⟩ = some (.string y.code) := (World.cell?_alloc_lt _ _ _ (by simp; omega)).trans d0
        have HR := Lib.hid (show (eqS x.code y.code && alikeL (xs.drop (k + 1)) (ys.drop (k + 1))) = alikeL xs ys by rw [← hR, hd, he, alikeL])
        clear hd he hR d0 d1 d2 d3
        have l0 : (0 : Int) ≤ (k : Int) := by omega
        have l1 : (k : Int) < (n : Int) := by omega
        cases hq : eqS x.code y.code
        · obtain ⟨e1, e2, e3, e4⟩ := eqS_f hq
          have HQ := Lib.hid hq; clear hq
          go_wp2_with fail
          go_quiet (fail)
          go_wp2_with fail
          go_ret
          exact ⟨ret_bool (by rw [HA.out, ← HR.out, HQ.out]; rfl), hb.trans ((below_drewN (hbr.alloc hbr.size _) _).mono hb.size)⟩
        · obtain ⟨e1, e2, e3, e4⟩ := eqS_t hq
          have HQ := Lib.hid hq; clear hq
          go_wp2_with fail
          go_quiet (fail)
          go_wp2_with fail
          go_roundw
          case rel => exact ⟨k + 1, by omega, by go_num, by rw [← HR.out, HQ.out, Bool.true_and], below_drewN (hbr.alloc hbr.size _) _⟩
          case measure => simp [intOf]; omega
      · have HR := Lib.hid (show alikeL xs ys = true by rw [← hR]; exact alikeL_end (drop_end HL.out hlt))
        clear hR
        go_wp2_with fail
        go_ret
        exact ⟨ret_bool (by rw [HA.out, HR.out]), hb.trans (hbr.mono hb.size)⟩
  · have e1 : ((n : Int) != (m : Int)) = true := by rw [bne_iff_ne]; omega
    ((go_enter Try.func80, Try.ntmps80; go_wp2_with fail; refine (isCase_any hr hn0 hcp HX.out).mono ?_; rintro e1 w1 ⟨rfl, hb⟩; replace hs := (RBxs.below hs hb).more hb.size); go_wp2_with fail; refine (isCase_any hs hm0 hcq HY.out).mono ?_; rintro e1 w2 ⟨rfl, hn⟩; replace hs := (RBxs.below hs hn).more hn.size; replace hb := hb.trans (hn.mono hb.size); clear hn)
    go_wp2_with fail
    go_ret
    exact ⟨ret_bool (by rw [twoB, h1, h2, alikeB, HL.out, HM.out]; simp [hnm]), hb⟩
theorem diTwo_any {A B : Option Addr} {n cp m cq : Nat} {xs ys : List Bx} {w : World} (hr : RBxs w w.heap.size A n xs) (hs : RBxs w w.heap.size B m ys) (hn0 : n ≤ 1048576) (hm0 : m ≤ 1048576) (hcp : n ≤ cp) (hcq : m ≤ cq) (hL : ∀ b ∈ xs, b.code.size ≤ 1048576) (hM : ∀ b ∈ ys, b.code.size ≤ 1048576) :
    Calls Try.prog 78 #[.slice A n cp, .slice B m cq] w fun e w' => e = .returned (.bool (twoB xs ys)) ∧ Below w.heap.size w w' := by
  have HX := Lib.hid hL
  have HY := Lib.hid hM
  clear hL hM
  cases h1 : caseB xs
  · (go_enter Try.func78, Try.ntmps78; go_wp2_with fail; refine (caGood_any hr hn0 hcp HX.out).mono ?_; rintro e1 w1 ⟨rfl, hb⟩; replace hs := (RBxs.below hs hb).more hb.size)
    go_wp2_with fail
    go_ret
    exact ⟨ret_bool (by rw [twoB, h1]; rfl), hb⟩
  cases h2 : caseB ys
  · ((go_enter Try.func78, Try.ntmps78; go_wp2_with fail; refine (caGood_any hr hn0 hcp HX.out).mono ?_; rintro e1 w1 ⟨rfl, hb⟩; replace hs := (RBxs.below hs hb).more hb.size); go_wp2_with fail; refine (caGood_any hs hm0 hcq HY.out).mono ?_; rintro e1 w2 ⟨rfl, hn⟩; replace hs := (RBxs.below hs hn).more hn.size; replace hb := hb.trans (hn.mono hb.size); clear hn)
    go_wp2_with fail
    go_ret
    exact ⟨ret_bool (by rw [twoB, h1, h2]; rfl), hb⟩
  · ((go_enter Try.func78, Try.ntmps78; go_wp2_with fail; refine (caGood_any hr hn0 hcp HX.out).mono ?_; rintro e1 w1 ⟨rfl, hb⟩; replace hs := (RBxs.below hs hb).more hb.size); go_wp2_with fail; refine (caGood_any hs hm0 hcq HY.out).mono ?_; rintro e1 w2 ⟨rfl, hn⟩; replace hs := (RBxs.below hs hn).more hn.size; replace hb := hb.trans (hn.mono hb.size); clear hn)
    go_wp2_with fail
    refine (diAlike_any ((RBxs.below hr hb).more hb.size) hs hn0 hm0).mono ?_
    rintro e1 w3 ⟨rfl, hn⟩
    go_wp2_with fail
    go_ret
    exact ⟨ret_bool (by rw [twoB, h1, h2]; rfl), hb.trans (hn.mono hb.size)⟩
end Go.Proofs.Ytjcopempjanhhaa
