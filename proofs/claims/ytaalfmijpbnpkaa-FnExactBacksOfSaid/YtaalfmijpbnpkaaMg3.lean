/-
  Contracts: folds are valid; how many columns, rows and pages a sheet has; the pile behind all folds.
-/
import Derived.Test.YtaalfmijpbnpkaaMg2
import Derived.Test.YtaalfmijpbnpkaaIn
namespace Go.Proofs.Ytaalfmijpbnpkaa
open Go.RowKit
def allF2 : List Fld → Bool
  | [] => true
  | f :: r => inB f.along 1 2 && allF2 r
def foldsB (fs : List Fld) : Bool := allF2 fs && decide (fs.length ≤ 4)
def colN : List Fld → Nat
  | [] => 1
  | f :: r => if f.along = 1 then colN r + colN r else colN r
def rowN : List Fld → Nat
  | [] => 1
  | f :: r => if f.along = 1 then rowN r else rowN r + rowN r
def lfN : Nat → Nat
  | 0 => 1
  | k + 1 => lfN k + lfN k
theorem size_all : ∀ fs : List Fld, colN fs * rowN fs = lfN fs.length
  | [] => rfl
  | f :: r => by
    have ih := size_all r
    rw [colN, rowN, List.length_cons, lfN, ← ih]
    split
    · rw [Nat.add_mul]
    · rw [Nat.mul_add]
theorem colN_pos : ∀ fs : List Fld, 1 ≤ colN fs
  | [] => by simp [colN]
  | f :: r => by have := colN_pos r; rw [colN]; split <;> omega
theorem rowN_pos : ∀ fs : List Fld, 1 ≤ rowN fs
  | [] => by simp [rowN]
  | f :: r => by have := rowN_pos r; rw [rowN]; split <;> omega
theorem lfN_bd : ∀ {n : Nat}, n ≤ 4 → 1 ≤ lfN n ∧ lfN n ≤ 16
  | 0, _ => by decide
  | 1, _ => by decide
  | 2, _ => by decide
  | 3, _ => by decide
  | 4, _ => by decide
  | n + 5, h => by omega
theorem size_bd {fs : List Fld} (h : fs.length ≤ 4) : colN fs ≤ 16 ∧ rowN fs ≤ 16 := by
  have h1 := size_all fs
  have h2 := (lfN_bd h).2
  have h3 := colN_pos fs
  have h4 := rowN_pos fs
  constructor
  · have := Nat.le_mul_of_pos_right (colN fs) h4; omega
  · have := Nat.le_mul_of_pos_left (rowN fs) h3; omega
theorem drop_bd {fs : List Fld} (h : fs.length ≤ 4) (k : Nat) : colN (fs.drop k) ≤ 16 ∧ rowN (fs.drop k) ≤ 16 := size_bd (by simp; omega)
theorem foldsB_true {fs : List Fld} (h : foldsB fs = true) : fs.length ≤ 4 ∧ ∀ f ∈ fs, f.along = 1 ∨ f.along = 2 := by
  simp only [foldsB, Bool.and_eq_true, decide_eq_true_eq] at h
  refine ⟨h.2, ?_⟩
  have : ∀ l : List Fld, allF2 l = true → ∀ f ∈ l, f.along = 1 ∨ f.along = 2 := by
    intro l
    induction l with
    | nil => simp
    | cons x r ih =>
      intro hl f hf
      simp only [allF2, Bool.and_eq_true, inB_true] at hl
      rcases List.mem_cons.1 hf with rfl | hf
      · omega
      · exact ih hl.2 f hf
  exact this fs h.1

set_option maxRecDepth 100000 in
theorem imGood_any {A : Option Addr} {n cp : Nat} {fs : List Fld} {w : World} (hr : RFlds w w.heap.size A n fs) (hn0 : n ≤ 1048576) :
    Calls Try.prog 32 #[.slice A n cp] w fun e w' => e = .returned (.bool (foldsB fs)) ∧ Below w.heap.size w w' := by
  have HL := Lib.hid hr.len
  go_enter Try.func32, Try.ntmps32
  go_wp2_with fail
  go_loopw [7] (fun u wr => ∃ k : Nat, k ≤ n ∧ u = .int .i64 k ∧ allF2 (fs.drop k) = allF2 fs ∧ Below w.heap.size w wr) (fun u _ => n - (intOf u).toNat)
  case atStart => exact ⟨0, Nat.zero_le _, rfl, rfl, Below.refl _ _⟩
  case round =>
    obtain ⟨k, hk, rfl, hR, hb⟩ := hrel
    by_cases hlt : k < n
    · obtain ⟨bb, off, x, rfl, _, hd, _, c0, c1⟩ := RFlds.at_ (RFlds.below hr hb) hlt
      have HR := Lib.hid (show (inB x.along 1 2 && allF2 (fs.drop (k + 1))) = allF2 fs by rw [← hR, hd, allF2])
      clear hd hR
      replace hb := hb.alloc hb.size (.cells #[.int .i64 x.along, .bool x.over] 49)

      cases hq : inB x.along 1 2
      · have HQ := Lib.hid (show foldsB fs = false by rw [foldsB, ← HR.out, hq]; rfl)
        go_wp2_with (go_at_call 38; refine (in_any _ _ _ _).mono ?_; rintro e1 w1 ⟨rfl, rfl⟩)
        go_ret
        exact ⟨ret_bool HQ.out.symm, hb⟩
      · have HQ := Lib.hid hq
        go_wp2_with (go_at_call 38; refine (in_any _ _ _ _).mono ?_; rintro e1 w1 ⟨rfl, rfl⟩)
        go_roundw
        case rel => exact ⟨k + 1, by omega, by go_num, by rw [← HR.out, HQ.out, Bool.true_and], hb⟩
        case measure => simp [intOf] <;> omega
    · have HR := Lib.hid (show allF2 fs = true by rw [← hR, drop_end HL.out hlt]; rfl)
      clear hR
      by_cases h4 : n ≤ 4
      · go_wp2_with fail
        go_ret
        exact ⟨ret_bool (by rw [foldsB, HR.out, HL.out]; simp <;> omega), hb⟩
      · go_wp2_with fail
        go_ret
        exact ⟨ret_bool (by rw [foldsB, HR.out, HL.out]; simp <;> omega), hb⟩
set_option maxRecDepth 100000 in
theorem areFolds_any {A : Option Addr} {n cp : Nat} {fs : List Fld} {w : World} (hr : RFlds w w.heap.size A n fs) (hn0 : n ≤ 1048576) :
    Calls Try.prog 41 #[.slice A n cp] w fun e w' => e = .returned (.bool (foldsB fs)) ∧ Below w.heap.size w w' := by
  have HL := Lib.hid hr.len
  go_enter Try.func41, Try.ntmps41
  go_wp2_with fail
  go_loopw [7] (fun u wr => ∃ k : Nat, k ≤ n ∧ u = .int .i64 k ∧ allF2 (fs.drop k) = allF2 fs ∧ Below w.heap.size w wr) (fun u _ => n - (intOf u).toNat)
  case atStart => exact ⟨0, Nat.zero_le _, rfl, rfl, Below.refl _ _⟩
  case round =>
    obtain ⟨k, hk, rfl, hR, hb⟩ := hrel
    by_cases hlt : k < n
    · obtain ⟨bb, off, x, rfl, _, hd, _, c0, c1⟩ := RFlds.at_ (RFlds.below hr hb) hlt
      have HR := Lib.hid (show (inB x.along 1 2 && allF2 (fs.drop (k + 1))) = allF2 fs by rw [← hR, hd, allF2])
      clear hd hR
      replace hb := hb.alloc hb.size (.cells #[.int .i64 x.along, .bool x.over] 49)

      by_cases h1 : x.along = 1
      · obtain ⟨e1, e2⟩ := (show (x.along != 1) = false ∧ (x.along == 1) = true by simp [h1])
        have HQ := Lib.hid (show inB x.along 1 2 = true by rw [h1]; rfl)
        clear h1
        go_wp2_with fail
        go_roundw
        case rel => exact ⟨k + 1, by omega, by go_num, by rw [← HR.out, HQ.out, Bool.true_and], hb⟩
        case measure => simp [intOf] <;> omega
      · obtain ⟨e1, e2⟩ := (show (x.along != 1) = true ∧ (x.along == 1) = false by simp [h1])
        by_cases h2 : x.along = 2
        · obtain ⟨e3, e4⟩ := (show (x.along != 2) = false ∧ (x.along == 2) = true by simp [h2])
          have HQ := Lib.hid (show inB x.along 1 2 = true by rw [h2]; rfl)
          clear h1 h2
          go_wp2_with fail
          go_roundw
          case rel => exact ⟨k + 1, by omega, by go_num, by rw [← HR.out, HQ.out, Bool.true_and], hb⟩
          case measure => simp [intOf] <;> omega
        · obtain ⟨e3, e4⟩ := (show (x.along != 2) = true ∧ (x.along == 2) = false by simp [h2])
          have HQ := Lib.hid (show foldsB fs = false by rw [foldsB, ← HR.out, inB_false.2 (by omega)]; rfl)
          clear h1 h2
          go_wp2_with fail
          go_ret
          exact ⟨ret_bool HQ.out.symm, hb⟩
    · have HR := Lib.hid (show allF2 fs = true by rw [← hR, drop_end HL.out hlt]; rfl)
      clear hR
      by_cases h4 : n ≤ 4
      · go_wp2_with fail
        go_ret
        exact ⟨ret_bool (by rw [foldsB, HR.out, HL.out]; simp <;> omega), hb⟩
      · go_wp2_with fail
        go_ret
        exact ⟨ret_bool (by rw [foldsB, HR.out, HL.out]; simp <;> omega), hb⟩
set_option maxRecDepth 100000 in
theorem imSize_any {A : Option Addr} {n cp : Nat} {fs : List Fld} {w : World} (hr : RFlds w w.heap.size A n fs) (hn4 : n ≤ 4) :
    Calls Try.prog 40 #[.slice A n cp] w fun e w' => e = .returned (.tuple #[.int .i64 (colN fs), .int .i64 (rowN fs)]) ∧ Below w.heap.size w w' := by
  have HL := Lib.hid hr.len
  have HB := Lib.hid (size_bd (fs := fs) (by have := hr.len; omega))
  go_enter Try.func40, Try.ntmps40
  go_wp2_with fail
  go_loopw [4, 5, 10] (fun v4 v5 u wr => ∃ (k c r : Nat), k ≤ n ∧ u = .int .i64 k ∧ v4 = .int .i64 c ∧ v5 = .int .i64 r ∧ c * colN (fs.drop k) = colN fs ∧ r * rowN (fs.drop k) = rowN fs ∧ Below w.heap.size w wr) (fun _ _ u _ => n - (intOf u).toNat)
  case atStart => exact ⟨0, 1, 1, Nat.zero_le _, rfl, rfl, rfl, by simp, by simp, Below.refl _ _⟩
  case round =>
    obtain ⟨k, c, r, hk, rfl, rfl, rfl, hc, hrr, hb⟩ := hrel
    have bc : c ≤ 16 := by have := HB.out.1; have h2 := Nat.le_mul_of_pos_right c (colN_pos (fs.drop k)); omega
    have br : r ≤ 16 := by have := HB.out.2; have h2 := Nat.le_mul_of_pos_right r (rowN_pos (fs.drop k)); omega
    by_cases hlt : k < n
    · obtain ⟨bb, off, x, rfl, _, hd, _, c0, c1⟩ := RFlds.at_ (RFlds.below hr hb) hlt
      rw [hd, colN] at hc
      rw [hd, rowN] at hrr
      have HC := Lib.hid hc
      have HR := Lib.hid hrr
      clear hd hc hrr
      replace hb := hb.alloc hb.size (.cells #[.int .i64 x.along, .bool x.over] 49)
      by_cases h1 : x.along = 1
      · have e2 : (x.along == 1) = true := by simp [h1]
        have H1 := Lib.hid h1
        clear h1
        go_wp2_with fail
        go_roundw
        case rel =>
          have h8 := HC.out; rw [if_pos H1.out] at h8
          have h9 := HR.out; rw [if_pos H1.out] at h9
          exact ⟨k + 1, c * 2, r, by omega, by go_num, by go_num, rfl, by rw [← h8, Nat.mul_assoc, Nat.two_mul], h9, hb⟩
        case measure => simp [intOf] <;> omega
      · have e2 : (x.along == 1) = false := by simp [h1]
        have H1 := Lib.hid h1
        clear h1
        go_wp2_with fail
        go_roundw
        case rel =>
          have h8 := HC.out; rw [if_neg H1.out] at h8
          have h9 := HR.out; rw [if_neg H1.out] at h9
          exact ⟨k + 1, c, r * 2, by omega, by go_num, rfl, by go_num, h8, by rw [← h9, Nat.mul_assoc, Nat.two_mul], hb⟩
        case measure => simp [intOf] <;> omega
    · have HC := Lib.hid (show c = colN fs by rw [← hc, drop_end HL.out hlt, colN, Nat.mul_one])
      have HR := Lib.hid (show r = rowN fs by rw [← hrr, drop_end HL.out hlt, rowN, Nat.mul_one])
      clear hc hrr
      go_wp2_with fail
      go_ret2
      rw [← HC.out, ← HR.out]
      exact ⟨rfl, hb⟩
set_option maxRecDepth 100000 in
theorem sheetSize_any {A : Option Addr} {n cp : Nat} {fs : List Fld} {w : World} (hr : RFlds w w.heap.size A n fs) (hn4 : n ≤ 4) :
    Calls Try.prog 47 #[.slice A n cp] w fun e w' => e = .returned (.tuple #[.int .i64 (colN fs), .int .i64 (rowN fs)]) ∧ Below w.heap.size w w' := by
  have HL := Lib.hid hr.len
  have HB := Lib.hid (size_bd (fs := fs) (by have := hr.len; omega))
  go_enter Try.func47, Try.ntmps47
  go_wp2_with fail
  go_loopw [4, 5, 10] (fun v4 v5 u wr => ∃ (k c r : Nat), k ≤ n ∧ u = .int .i64 k ∧ v4 = .int .i64 c ∧ v5 = .int .i64 r ∧ c * colN (fs.drop k) = colN fs ∧ r * rowN (fs.drop k) = rowN fs ∧ Below w.heap.size w wr) (fun _ _ u _ => n - (intOf u).toNat)
  case atStart => exact ⟨0, 1, 1, Nat.zero_le _, rfl, rfl, rfl, by simp, by simp, Below.refl _ _⟩
  case round =>
    obtain ⟨k, c, r, hk, rfl, rfl, rfl, hc, hrr, hb⟩ := hrel
    have bc : c ≤ 16 := by have := HB.out.1; have h2 := Nat.le_mul_of_pos_right c (colN_pos (fs.drop k)); omega
    have br : r ≤ 16 := by have := HB.out.2; have h2 := Nat.le_mul_of_pos_right r (rowN_pos (fs.drop k)); omega
    by_cases hlt : k < n
    · obtain ⟨bb, off, x, rfl, _, hd, _, c0, c1⟩ := RFlds.at_ (RFlds.below hr hb) hlt
      rw [hd, colN] at hc
      rw [hd, rowN] at hrr
      have HC := Lib.hid hc
      have HR := Lib.hid hrr
      clear hd hc hrr
      replace hb := hb.alloc hb.size (.cells #[.int .i64 x.along, .bool x.over] 49)
      by_cases h1 : x.along = 1
      · have e2 : (x.along == 1) = true := by simp [h1]
        have H1 := Lib.hid h1
        clear h1
        go_wp2_with fail
        go_roundw
        case rel =>
          have h8 := HC.out; rw [if_pos H1.out] at h8
          have h9 := HR.out; rw [if_pos H1.out] at h9
          exact ⟨k + 1, c * 2, r, by omega, by go_num, by go_num, rfl, by rw [← h8, Nat.mul_assoc, Nat.two_mul], h9, hb⟩
        case measure => simp [intOf] <;> omega
      · have e2 : (x.along == 1) = false := by simp [h1]
        have H1 := Lib.hid h1
        clear h1
        go_wp2_with fail
        go_roundw
        case rel =>
          have h8 := HC.out; rw [if_neg H1.out] at h8
          have h9 := HR.out; rw [if_neg H1.out] at h9
          exact ⟨k + 1, c, r * 2, by omega, by go_num, rfl, by go_num, h8, by rw [← h9, Nat.mul_assoc, Nat.two_mul], hb⟩
        case measure => simp [intOf] <;> omega
    · have HC := Lib.hid (show c = colN fs by rw [← hc, drop_end HL.out hlt, colN, Nat.mul_one])
      have HR := Lib.hid (show r = rowN fs by rw [← hrr, drop_end HL.out hlt, rowN, Nat.mul_one])
      clear hc hrr
      go_wp2_with fail
      go_ret2
      rw [← HC.out, ← HR.out]
      exact ⟨rfl, hb⟩
/-- the pages of a sheet -/
def pgN (n : Nat) : Nat := 2 * lfN n
theorem imCount_any {A : Option Addr} {n cp : Nat} {fs : List Fld} {w : World} (hr : RFlds w w.heap.size A n fs) (hn4 : n ≤ 4) :
    Calls Try.prog 26 #[.slice A n cp] w fun e w' => e = .returned (.int .i64 (pgN n)) ∧ Below w.heap.size w w' := by
  obtain ⟨c, hc⟩ : ∃ c, c = colN fs := ⟨_, rfl⟩
  obtain ⟨r, hr9⟩ : ∃ r, r = rowN fs := ⟨_, rfl⟩
  have hl := hr.len
  have h1 := size_bd (fs := fs) (by omega)
  have h2 := size_all fs
  rw [hl, ← hc, ← hr9] at h2
  rw [← hc, ← hr9] at h1
  have h3 := lfN_bd hn4
  have hp : 2 * (c : Int) * (r : Int) = (pgN n : Int) := by rw [pgN, ← h2, Int.mul_assoc]; push_cast; rfl
  have hb : 0 ≤ 2 * (c : Int) * (r : Int) ∧ 2 * (c : Int) * (r : Int) ≤ 32 := by rw [hp, pgN]; omega
  have HP := Lib.hid hp
  have HC := Lib.hid hc
  have HR := Lib.hid hr9
  clear hp hc hr9 h2 h3 hl
  go_enter Try.func26, Try.ntmps26
  go_wp2_with fail
  refine (imSize_any hr hn4).mono ?_
  rintro e1 w1 ⟨rfl, hb1⟩
  rw [← HC.out, ← HR.out]
  go_wp2_with fail
  go_ret
  exact ⟨ret_int HP.out, hb1⟩

end Go.Proofs.Ytaalfmijpbnpkaa
