/-
  Contracts on inked lines. Printed by program out of two other texts.
-/
import Derived.Test.YtjcopempjanhhaaStr
import Derived.WalkSpells
import Derived.Outline
import Derived.Lib.OthersKept
import Derived.Lib.Strings
import Derived.Deep.QuietTactic
import Derived.BigQuiet
namespace Go.Proofs.Ytjcopempjanhhaa
open Go.RowKit
/-- a blank or a letter -/
def plC (c : UInt8) : Bool := decide ((c.toNat : Int) = 32) || (decide (97 ≤ (c.toNat : Int)) && decide ((c.toNat : Int) ≤ 122))
def plB : List UInt8 → Bool
  | [] => true
  | c :: r => plC c && plB r
def txB (s : ByteArray) : Bool := plB (bytes s) && decide (s.size ≤ 30)
theorem plC_true {c : UInt8} (h : (c.toNat : Int) = 32 ∨ (97 ≤ (c.toNat : Int) ∧ (c.toNat : Int) ≤ 122)) : plC c = true := by simp only [plC, Bool.or_eq_true, Bool.and_eq_true, decide_eq_true_eq]; exact h
theorem plC_false {c : UInt8} (h : (c.toNat : Int) ≠ 32) (h' : (c.toNat : Int) < 97 ∨ 122 < (c.toNat : Int)) : plC c = false := by
  rw [← Bool.not_eq_true]; intro h0; simp only [plC, Bool.or_eq_true, Bool.and_eq_true, decide_eq_true_eq] at h0; omega
theorem plC_cases (c : UInt8) : (plC c = true ∧ (c.toNat : Int) = 32) ∨ (plC c = true ∧ (c.toNat : Int) ≠ 32 ∧ 97 ≤ (c.toNat : Int) ∧ (c.toNat : Int) ≤ 122) ∨ (plC c = false ∧ (c.toNat : Int) ≠ 32 ∧ (c.toNat : Int) < 97) ∨ (plC c = false ∧ (c.toNat : Int) ≠ 32 ∧ 122 < (c.toNat : Int)) := by
  by_cases h : (c.toNat : Int) = 32
  · exact .inl ⟨plC_true (.inl h), h⟩
  · by_cases h1 : (c.toNat : Int) < 97
    · exact .inr (.inr (.inl ⟨plC_false h (.inl h1), h, h1⟩))
    · by_cases h2 : 122 < (c.toNat : Int)
      · exact .inr (.inr (.inr ⟨plC_false h (.inr h2), h, h2⟩))
      · exact .inr (.inl ⟨plC_true (.inr ⟨by omega, by omega⟩), h, by omega, by omega⟩)
theorem coText_any (s : ByteArray) (w : World) (hs : s.size ≤ 1048576) : Calls Try.prog 123 #[.string s] w fun e w' => e = .returned (.bool (txB s)) ∧ w = w' := by
  go_enter Try.func123, Try.ntmps123
  go_wp2
  go_loop [3] (fun i => ∃ k : Nat, k ≤ s.size ∧ i = .int .i64 k ∧ plB ((bytes s).drop k) = plB (bytes s)) (fun i => s.size - (intOf i).toNat)
  case atStart => exact ⟨0, Nat.zero_le _, rfl, rfl⟩
  case round =>
    obtain ⟨k, hk, rfl, hR⟩ := hrel
    have HR := Lib.hid hR; clear hR
    by_cases hlt : k < s.size
    · have HD := Lib.hid (bytes_drop s k hlt)
      rcases plC_cases s[k] with ⟨hp, h32⟩ | ⟨hp, h32, g1, g2⟩ | ⟨hp, h32, g1⟩ | ⟨hp, h32, g1⟩
      · obtain ⟨f1, f2⟩ := ne_f h32
        have HP := Lib.hid hp; clear hp h32
        go_wp2
        go_round; (case rel => exact ⟨k + 1, by omega, by go_num, by rw [← HR.out, HD.out, plB, HP.out, Bool.true_and]⟩); (case measure => simp [intOf]; omega)
      · obtain ⟨f1, f2⟩ := ne_t h32
        have HP := Lib.hid hp; clear hp h32
        go_wp2
        go_round; (case rel => exact ⟨k + 1, by omega, by go_num, by rw [← HR.out, HD.out, plB, HP.out, Bool.true_and]⟩); (case measure => simp [intOf]; omega)
      all_goals
        obtain ⟨f1, f2⟩ := ne_t h32
        have HP := Lib.hid hp; clear hp h32
        go_wp2
        go_ret
        have hF : plB (bytes s) = false := (by rw [← HR.out, HD.out, plB, HP.out, Bool.false_and])
        exact ⟨ret_bool (by simp [txB, hF]), rfl⟩
    · go_wp2
      go_ret
      have h : plB (bytes s) = true := by rw [← HR.out, List.drop_of_length_le (by rw [bytes_len]; omega)]; rfl
      exact ⟨ret_bool (by rw [txB, h, Bool.true_and]; congr 1; simp; omega), rfl⟩
theorem plain_any (s : ByteArray) (w : World) (hs : s.size ≤ 1048576) : Calls Try.prog 124 #[.string s, .int .i64 0, .int .i64 30] w fun e w' => e = .returned (.bool (txB s)) ∧ w = w' := by
  go_enter Try.func124, Try.ntmps124
  go_wp2
  go_loop [7] (fun i => ∃ k : Nat, k ≤ s.size ∧ i = .int .i64 k ∧ plB ((bytes s).drop k) = plB (bytes s)) (fun i => s.size - (intOf i).toNat)
  case atStart => exact ⟨0, Nat.zero_le _, rfl, rfl⟩
  case round =>
    obtain ⟨k, hk, rfl, hR⟩ := hrel
    have HR := Lib.hid hR; clear hR
    by_cases hlt : k < s.size
    · have HD := Lib.hid (bytes_drop s k hlt)
      rcases plC_cases s[k] with ⟨hp, h32⟩ | ⟨hp, h32, g1, g2⟩ | ⟨hp, h32, g1⟩ | ⟨hp, h32, g1⟩
      · obtain ⟨f1, f2⟩ := ne_f h32
        have HP := Lib.hid hp; clear hp h32
        go_wp2
        go_round; (case rel => exact ⟨k + 1, by omega, by go_num, by rw [← HR.out, HD.out, plB, HP.out, Bool.true_and]⟩); (case measure => simp [intOf]; omega)
      · obtain ⟨f1, f2⟩ := ne_t h32
        have HP := Lib.hid hp; clear hp h32
        go_wp2
        go_round; (case rel => exact ⟨k + 1, by omega, by go_num, by rw [← HR.out, HD.out, plB, HP.out, Bool.true_and]⟩); (case measure => simp [intOf]; omega)
      all_goals
        obtain ⟨f1, f2⟩ := ne_t h32
        have HP := Lib.hid hp; clear hp h32
        go_wp2
        go_ret
        have hF : plB (bytes s) = false := (by rw [← HR.out, HD.out, plB, HP.out, Bool.false_and])
        exact ⟨ret_bool (by simp [txB, hF]), rfl⟩
    · go_wp2_with (go_at_call 100; refine (within_any _ _ _ _).mono ?_; rintro e1 w1 ⟨rfl, rfl⟩)
      go_ret
      have h : plB (bytes s) = true := by rw [← HR.out, List.drop_of_length_le (by rw [bytes_len]; omega)]; rfl
      exact ⟨ret_bool (by rw [txB, h, Bool.true_and]; simp [inB]; omega), rfl⟩

/-- The inks of a line: b, or r at a letter. -/
def inkC (c i : UInt8) : Bool := decide ((i.toNat : Int) = 98) || (decide ((i.toNat : Int) = 114) && !decide ((c.toNat : Int) = 32))
def inkB : List UInt8 → List UInt8 → Bool
  | c :: r, i :: s => inkC c i && inkB r s
  | _, _ => true
/-- A valid inked line. -/
def ikB (t i : ByteArray) : Bool := txB t && (decide (t.size = i.size) && inkB (bytes t) (bytes i))
theorem inkC_cases (c i : UInt8) : (inkC c i = true ∧ (i.toNat : Int) = 98) ∨ (inkC c i = true ∧ (i.toNat : Int) ≠ 98 ∧ (i.toNat : Int) = 114 ∧ (c.toNat : Int) ≠ 32) ∨
    (inkC c i = false ∧ (i.toNat : Int) ≠ 98 ∧ (i.toNat : Int) ≠ 114) ∨ (inkC c i = false ∧ (i.toNat : Int) ≠ 98 ∧ (i.toNat : Int) = 114 ∧ (c.toNat : Int) = 32) := by
  unfold inkC
  by_cases h1 : (i.toNat : Int) = 98
  · left; simp [h1]
  · by_cases h2 : (i.toNat : Int) = 114
    · by_cases h3 : (c.toNat : Int) = 32
      · right; right; right; simp [h2, h3]
      · right; left; simp [h2, h3]
    · right; right; left; simp [h1, h2]
theorem inkB_cons {t i : List UInt8} {c d : UInt8} {r s : List UInt8} (h : t = c :: r) (h' : i = d :: s) : inkB t i = (inkC c d && inkB r s) := by subst h h'; rfl
theorem inkB_end {t i : List UInt8} (h : t = [] ∨ i = []) : inkB t i = true := by
  rcases h with rfl | rfl
  · rfl
  · cases t <;> rfl
theorem coGood_any (t i : ByteArray) (w : World) (ht : t.size ≤ 1048576) : Calls Try.prog 104 #[.agg #[.string t, .string i]] w fun e w' => e = .returned (.bool (ikB t i)) ∧ Below w.heap.size w w' := by
  have hx := Blk.new' w 82 #[.string t, .string i]
  have c0 : _ = some (Value.string t) := hx.cell 0; have c1 : _ = some (Value.string i) := hx.cell 1
  have hb : Below w.heap.size w (w.alloc (.cells #[.string t, .string i] 82)) := (by (repeat (first | exact Below.refl _ _ | exact hb | apply Below.drew | (refine Below.alloc ?_ (by first | (simp; done) | (simp; omega) | (have := hb.size; simp at this ⊢; omega)) _) | (refine Below.setCell ?_ (by simp) _))))
  go_enter Try.func104, Try.ntmps104
  go_wp2
  go_loop [3] (fun u => ∃ k : Nat, k ≤ t.size ∧ k ≤ i.size ∧ u = .int .i64 k ∧ inkB ((bytes t).drop k) ((bytes i).drop k) = inkB (bytes t) (bytes i)) (fun u => t.size - (intOf u).toNat)
  case atStart => exact ⟨0, Nat.zero_le _, Nat.zero_le _, rfl, rfl⟩
  case round =>
    obtain ⟨k, hk, hk', rfl, hR⟩ := hrel
    have HR := Lib.hid hR; clear hR
    by_cases hlt : k < t.size ∧ k < i.size
    · obtain ⟨hl1, hl2⟩ := hlt
      have HD := Lib.hid (bytes_drop t k hl1)
      have HE := Lib.hid (bytes_drop i k hl2)
      rcases inkC_cases t[k] i[k] with ⟨hp, h98⟩ | ⟨hp, h98, h114, h32⟩ | ⟨hp, h98, h114⟩ | ⟨hp, h98, h114, h32⟩
      · obtain ⟨f1, f2⟩ := ne_f h98
        have HP := Lib.hid hp; clear hp h98
        by_cases h32 : (t[k].toNat : Int) = 32
        · obtain ⟨f5, f6⟩ := ne_f h32
          clear h32
          go_wp2
          go_round; (case rel => exact ⟨k + 1, by omega, by omega, by go_num, by rw [← HR.out, HD.out, HE.out, inkB_cons rfl rfl, HP.out, Bool.true_and]⟩); (case measure => simp [intOf]; omega)
        · obtain ⟨f5, f6⟩ := ne_t h32
          clear h32
          go_wp2
          go_round; (case rel => exact ⟨k + 1, by omega, by omega, by go_num, by rw [← HR.out, HD.out, HE.out, inkB_cons rfl rfl, HP.out, Bool.true_and]⟩); (case measure => simp [intOf]; omega)
      · obtain ⟨f1, f2⟩ := ne_t h98
        obtain ⟨f3, f4⟩ := ne_f h114
        obtain ⟨f5, f6⟩ := ne_t h32
        have HP := Lib.hid hp; clear hp h98 h114 h32
        go_wp2
        go_round; (case rel => exact ⟨k + 1, by omega, by omega, by go_num, by rw [← HR.out, HD.out, HE.out, inkB_cons rfl rfl, HP.out, Bool.true_and]⟩); (case measure => simp [intOf]; omega)
      · obtain ⟨f1, f2⟩ := ne_t h98
        obtain ⟨f3, f4⟩ := ne_t h114
        have HP := Lib.hid hp; clear hp h98 h114
        go_wp2
        go_ret
        have hF : inkB (bytes t) (bytes i) = false := (by rw [← HR.out, HD.out, HE.out, inkB_cons rfl rfl, HP.out, Bool.false_and])
        exact ⟨ret_bool (by simp [ikB, hF]), hb⟩
      · obtain ⟨f1, f2⟩ := ne_t h98
        obtain ⟨f3, f4⟩ := ne_f h114
        obtain ⟨f5, f6⟩ := ne_f h32
        have HP := Lib.hid hp; clear hp h98 h114 h32
        go_wp2
        go_ret
        have hF : inkB (bytes t) (bytes i) = false := (by rw [← HR.out, HD.out, HE.out, inkB_cons rfl rfl, HP.out, Bool.false_and])
        exact ⟨ret_bool (by simp [ikB, hF]), hb⟩
    · have h : inkB (bytes t) (bytes i) = true := by
        rw [← HR.out]
        refine inkB_end ?_
        by_cases h1 : k < t.size
        · right; exact List.drop_of_length_le (by rw [bytes_len]; omega)
        · left; exact List.drop_of_length_le (by rw [bytes_len]; omega)
      have HH := Lib.hid h; clear h
      have hend : ¬ (k < i.size ∧ k < t.size) := by omega
      by_cases hq : t.size = i.size
      · have h1 : ¬ k < i.size := by omega
        have h2 : ((t.size : Int) == (i.size : Int)) = true := by simp [hq]
        have HQ := Lib.hid hq; clear hq hlt hend
        go_wp2_with (go_at_call 123; refine (coText_any _ _ (by omega)).mono ?_; rintro e1 w1 ⟨rfl, rfl⟩)
        go_ret
        exact ⟨ret_bool (by rw [ikB, HH.out]; simp [HQ.out]), hb⟩
      · have h2 : ((t.size : Int) == (i.size : Int)) = false := by rw [beq_eq_false_iff_ne]; omega
        by_cases h1 : k < i.size
        · have h3 : ¬ k < t.size := by omega
          clear hlt hend
          go_wp2_with fail
          go_ret
          exact ⟨ret_bool (by rw [ikB]; simp [hq]), hb⟩
        · clear hlt hend
          go_wp2_with fail
          go_ret
          exact ⟨ret_bool (by rw [ikB]; simp [hq]), hb⟩
theorem isInked_any (t i : ByteArray) (w : World) (ht : t.size ≤ 1048576) : Calls Try.prog 107 #[.agg #[.string t, .string i]] w fun e w' => e = .returned (.bool (ikB t i)) ∧ Below w.heap.size w w' := by
  have hx := Blk.new' w 82 #[.string t, .string i]
  have c0 : _ = some (Value.string t) := hx.cell 0; have c1 : _ = some (Value.string i) := hx.cell 1
  have hb : Below w.heap.size w (w.alloc (.cells #[.string t, .string i] 82)) := (by (repeat (first | exact Below.refl _ _ | exact hb | apply Below.drew | (refine Below.alloc ?_ (by first | (simp; done) | (simp; omega) | (have := hb.size; simp at this ⊢; omega)) _) | (refine Below.setCell ?_ (by simp) _))))
  cases hT : txB t
  · go_enter Try.func107, Try.ntmps107
    go_wp2_with (go_at_call 124; refine (plain_any _ _ ht).mono ?_; rintro e1 w1 ⟨rfl, rfl⟩)
    go_ret
    exact ⟨ret_bool (by simp [ikB, hT]), hb⟩
  by_cases hq : t.size = i.size
  · have h2 : ((i.size : Int) != (t.size : Int)) = false := by simp [hq]
    have HT := Lib.hid hT
    have HQ := Lib.hid hq
    have hi : i.size ≤ 1048576 := by omega
    clear hT hq
    go_enter Try.func107, Try.ntmps107
    have hT := HT.out
    go_wp2_with (go_at_call 124; refine (plain_any _ _ ht).mono ?_; rintro e1 w1 ⟨rfl, rfl⟩)
    clear hT
    go_loop [3] (fun u => ∃ k : Nat, k ≤ t.size ∧ k ≤ i.size ∧ u = .int .i64 k ∧ inkB ((bytes t).drop k) ((bytes i).drop k) = inkB (bytes t) (bytes i)) (fun u => i.size - (intOf u).toNat)
    case atStart => exact ⟨0, Nat.zero_le _, Nat.zero_le _, rfl, rfl⟩
    case round =>
      obtain ⟨k, hk, hk', rfl, hR⟩ := hrel
      have HR := Lib.hid hR; clear hR
      by_cases hl2 : k < i.size
      · have hl1 : k < t.size := by rw [HQ.out]; exact hl2
        have HD := Lib.hid (bytes_drop t k hl1)
        have HE := Lib.hid (bytes_drop i k hl2)
        rcases inkC_cases t[k] i[k] with ⟨hp, h98⟩ | ⟨hp, h98, h114, h32⟩ | ⟨hp, h98, h114⟩ | ⟨hp, h98, h114, h32⟩
        · obtain ⟨f1, f2⟩ := ne_f h98
          have HP := Lib.hid hp; clear hp h98
          go_wp2
          go_round; (case rel => exact ⟨k + 1, by omega, by omega, by go_num, by rw [← HR.out, HD.out, HE.out, inkB_cons rfl rfl, HP.out, Bool.true_and]⟩); (case measure => simp [intOf]; omega)
        · obtain ⟨f1, f2⟩ := ne_t h98
          obtain ⟨f3, f4⟩ := ne_f h114
          obtain ⟨f5, f6⟩ := ne_t h32
          have HP := Lib.hid hp; clear hp h98 h114 h32
          go_wp2
          go_round; (case rel => exact ⟨k + 1, by omega, by omega, by go_num, by rw [← HR.out, HD.out, HE.out, inkB_cons rfl rfl, HP.out, Bool.true_and]⟩); (case measure => simp [intOf]; omega)
        · obtain ⟨f1, f2⟩ := ne_t h98
          obtain ⟨f3, f4⟩ := ne_t h114
          have HP := Lib.hid hp; clear hp h98 h114
          go_wp2
          go_ret
          have hF : inkB (bytes t) (bytes i) = false := (by rw [← HR.out, HD.out, HE.out, inkB_cons rfl rfl, HP.out, Bool.false_and])
          exact ⟨ret_bool (by simp [ikB, hF]), hb⟩
        · obtain ⟨f1, f2⟩ := ne_t h98
          obtain ⟨f3, f4⟩ := ne_f h114
          obtain ⟨f5, f6⟩ := ne_f h32
          have HP := Lib.hid hp; clear hp h98 h114 h32
          go_wp2
          go_ret
          have hF : inkB (bytes t) (bytes i) = false := (by rw [← HR.out, HD.out, HE.out, inkB_cons rfl rfl, HP.out, Bool.false_and])
          exact ⟨ret_bool (by simp [ikB, hF]), hb⟩
      · have h : inkB (bytes t) (bytes i) = true := by
          rw [← HR.out]
          exact inkB_end (.inr (List.drop_of_length_le (by rw [bytes_len]; omega)))
        have HH := Lib.hid h; clear h
        go_wp2
        go_ret
        exact ⟨ret_bool (by rw [ikB, HH.out, HT.out]; simp [HQ.out]), hb⟩
  · have h2 : ((i.size : Int) != (t.size : Int)) = true := by rw [bne_iff_ne]; omega
    go_enter Try.func107, Try.ntmps107
    go_wp2_with (go_at_call 124; refine (plain_any _ _ ht).mono ?_; rintro e1 w1 ⟨rfl, rfl⟩)
    go_ret
    exact ⟨ret_bool (by rw [ikB]; simp [hq]), hb⟩
theorem toInked_any (t i : ByteArray) (w : World) : Calls Try.prog 63 #[.agg #[.string t, .string i]] w fun e w' => e = .returned (.agg #[.string t, .string i]) ∧ Below w.heap.size w w' := by
  go_enter Try.func63, Try.ntmps63
  go_wp2
  exact bodyPost_ret (v := .agg #[.string t, .string i]) (by simp [results, Try.results63, go_sem]) rfl ⟨rfl, (by (repeat (first | exact Below.refl _ _ | exact hb | apply Below.drew | (refine Below.alloc ?_ (by first | (simp; done) | (simp; omega) | (have := hb.size; simp at this ⊢; omega)) _) | (refine Below.setCell ?_ (by simp) _))))⟩
/-- The law's own bound on a line. -/
def szI (t i : ByteArray) (l : Int) : Int := if l < t.size then -1 else if l - t.size < i.size then -1 else l - t.size - i.size
theorem szInked_any (t i : ByteArray) (l : Int) (w : World) (ht : t.size ≤ maxLen) (hi : i.size ≤ maxLen) (hl : 0 ≤ l ∧ l ≤ 1048576) : Calls Try.prog 61 #[.agg #[.string t, .string i], .int .i64 l] w fun e w' => e = .returned (.int .i64 (szI t i l)) ∧ Below w.heap.size w w' := by
  unfold maxLen at ht hi
  by_cases h1 : l < t.size
  · go_enter Try.func61, Try.ntmps61
    go_wp2
    go_ret
    exact ⟨ret_int (by rw [szI, if_pos h1]), (by (repeat (first | exact Below.refl _ _ | exact hb | apply Below.drew | (refine Below.alloc ?_ (by first | (simp; done) | (simp; omega) | (have := hb.size; simp at this ⊢; omega)) _) | (refine Below.setCell ?_ (by simp) _))))⟩
  by_cases h2 : l - t.size < i.size
  · go_enter Try.func61, Try.ntmps61
    go_wp2
    go_ret
    exact ⟨ret_int (by rw [szI, if_neg (by omega), if_pos h2]), (by (repeat (first | exact Below.refl _ _ | exact hb | apply Below.drew | (refine Below.alloc ?_ (by first | (simp; done) | (simp; omega) | (have := hb.size; simp at this ⊢; omega)) _) | (refine Below.setCell ?_ (by simp) _))))⟩
  · go_enter Try.func61, Try.ntmps61
    go_wp2
    go_ret
    exact ⟨ret_int (by rw [szI, if_neg (by omega), if_neg (by omega)]), (by (repeat (first | exact Below.refl _ _ | exact hb | apply Below.drew | (refine Below.alloc ?_ (by first | (simp; done) | (simp; omega) | (have := hb.size; simp at this ⊢; omega)) _) | (refine Below.setCell ?_ (by simp) _))))⟩
theorem szI_ok {t i : ByteArray} {l : Int} (h : 0 ≤ szI t i l) (hl : l ≤ 1048576) : t.size ≤ 1048576 ∧ i.size ≤ 1048576 ∧ szI t i l ≤ 1048576 := by
  unfold szI at *
  split at h
  · omega
  · split at h
    · omega
    · rw [if_neg (by omega), if_neg (by omega)]; omega
theorem str_extract (s : ByteArray) (k : Nat) (h : k < s.size) : s.extract k (k + 1) = str [s[k]] := by
  refine bytes_ext ?_
  rw [bytes_str]
  show (s.extract k (k + 1)).data.toList = _
  rw [Lib.extract_data, show s.data.toList.drop k = s[k] :: s.data.toList.drop (k + 1) from bytes_drop s k h]
  simp
theorem str_size1 (s : ByteArray) (k : Nat) (h : k < s.size) : (s.extract k (k + 1)).size = 1 := by rw [str_extract s k h, str_size]; rfl
def ikC (s : ByteArray) : Bool := s.toList == [98] || s.toList == [114]
theorem ikC_true {s : ByteArray} (h : ikC s = true) : s = str [98] ∨ s = str [114] := by
  simp only [ikC, Bool.or_eq_true, beq_iff_eq, ByteArray.toList_eq] at h
  rcases h with h | h
  · left; exact bytes_ext (by rw [bytes_str]; exact h)
  · right; exact bytes_ext (by rw [bytes_str]; exact h)
theorem coInk_any (s : ByteArray) (w : World) : Calls Try.prog 105 #[.string s] w fun e w' => e = .returned (.bool (ikC s)) ∧ w = w' := by
  go_enter Try.func105, Try.ntmps105
  go_wp2
  all_goals go_ret
  all_goals exact ⟨ret_bool (by simp [ikC, *]), rfl⟩
theorem isInk_any (s : ByteArray) (w : World) : Calls Try.prog 108 #[.string s] w fun e w' => e = .returned (.bool (ikC s)) ∧ w = w' := by
  go_enter Try.func108, Try.ntmps108
  go_wp2
  all_goals go_ret
  all_goals exact ⟨ret_bool (by simp [ikC, *]), rfl⟩
theorem ikB_true {t i : ByteArray} (h : ikB t i = true) : plB (bytes t) = true ∧ t.size ≤ 30 ∧ t.size = i.size ∧ inkB (bytes t) (bytes i) = true := by
  simp only [ikB, txB, Bool.and_eq_true, decide_eq_true_eq] at h
  exact ⟨h.1.1, h.1.2, h.2.1, h.2.2⟩
end Go.Proofs.Ytjcopempjanhhaa
