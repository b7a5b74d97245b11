/-
  Contracts: GreatestCreep; margins are valid.
-/
import Derived.Test.YtaalfmijpbnpkaaMg5
import Derived.Test.YtaalfmijpbnpkaaQuiet
namespace Go.Proofs.Ytaalfmijpbnpkaa
open Go.RowKit
def crs (P t : Int) (k : Nat) : List Int := (List.range k).map fun j : Nat => crF P t ((j : Int) + 1)
theorem crs_succ (P t : Int) (k : Nat) : crs P t (k + 1) = crs P t k ++ [crF P t ((k : Int) + 1)] := by simp [crs, List.range_succ]
def gmL : List Int → Int → Int
  | [], m => m
  | x :: r, m => gmL r (if m < x then x else m)
theorem gmL_prop : ∀ (xs : List Int) (m : Int), m ≤ gmL xs m ∧ (∀ x ∈ xs, x ≤ gmL xs m) ∧ (gmL xs m = m ∨ gmL xs m ∈ xs)
  | [], m => by simp [gmL]
  | y :: r, m => by
    rw [gmL]
    by_cases q : m < y
    · rw [if_pos q]
      obtain ⟨h1, h2, h3⟩ := gmL_prop r y
      refine ⟨by omega, fun x hx => ?_, ?_⟩
      · rcases List.mem_cons.1 hx with rfl | hx
        · exact h1
        · exact h2 x hx
      · rcases h3 with h3 | h3
        · right; rw [h3]; simp
        · right; exact List.mem_cons_of_mem _ h3
    · rw [if_neg q]
      obtain ⟨h1, h2, h3⟩ := gmL_prop r m
      refine ⟨h1, fun x hx => ?_, ?_⟩
      · rcases List.mem_cons.1 hx with rfl | hx
        · omega
        · exact h2 x hx
      · rcases h3 with h3 | h3
        · left; exact h3
        · right; exact List.mem_cons_of_mem _ h3
theorem gm_crs {L : Nat} {t : Int} (hL : 1 ≤ L) (hL2 : L ≤ 16) (ht : 0 ≤ t ∧ t ≤ 500) : gmL (crs (2 * (L : Int)) t (2 * L)) 0 = crF (2 * (L : Int)) t L := by
  obtain ⟨h1, h2, h3⟩ := gmL_prop (crs (2 * (L : Int)) t (2 * L)) 0
  have hm : crF (2 * (L : Int)) t L ∈ crs (2 * (L : Int)) t (2 * L) := by
    refine List.mem_map.2 ⟨L - 1, List.mem_range.2 (by omega), ?_⟩
    congr 1
    omega
  have hle : ∀ x ∈ crs (2 * (L : Int)) t (2 * L), x ≤ crF (2 * (L : Int)) t L := by
    intro x hx
    obtain ⟨j, hj, rfl⟩ := List.mem_map.1 hx
    have := List.mem_range.1 hj
    exact crF_mid (by omega) (by omega) (by omega) ht.1
  have h0 : 0 ≤ crF (2 * (L : Int)) t L := (crF_bd (by omega) (by omega) (by omega) ht).1
  have h4 := h2 _ hm
  rcases h3 with h3 | h3
  · omega
  · have := hle _ h3
    omega
set_option maxRecDepth 100000 in
theorem greatest_any {A : Option Addr} {n c : Nat} {xs : List Int} {w : World} (hr : RInts w w.heap.size A n xs) (hn : n ≤ 1048576) :
    Calls Try.prog 34 #[.slice A n c] w fun e w' => e = .returned (.int .i64 (gmL xs 0)) ∧ w = w' := by
  have HL := Lib.hid hr.len
  go_enter Try.func34, Try.ntmps34
  go_wp2_with fail
  go_loop [3, 8] (fun q i => ∃ (k : Nat) (m : Int), k ≤ n ∧ i = .int .i64 k ∧ q = .int .i64 m ∧ gmL (xs.drop k) m = gmL xs 0) (fun _ i => n - (intOf i).toNat)
  case atStart => exact ⟨0, 0, Nat.zero_le _, rfl, rfl, rfl⟩
  case round =>
    obtain ⟨k, m, hk, rfl, rfl, hR⟩ := hrel
    by_cases hlt : k < n
    · obtain ⟨ad, z, rfl, _, hd, _, hc⟩ := RInts.at_ hr hlt
      rw [hd, gmL] at hR
      have HR := Lib.hid hR
      clear hd hR
      rcases (by omega : m < z ∨ z ≤ m) with h1 | h1
      · have H1 := Lib.hid (show (if m < z then z else m) = z by rw [if_pos h1])
        go_wp2_with fail
        go_round
        case rel => exact ⟨k + 1, z, by omega, by go_num, rfl, by rw [← HR.out, H1.out]⟩
        case measure => simp [intOf] <;> omega
      · have H1 := Lib.hid (show (if m < z then z else m) = m by rw [if_neg (by omega)])
        go_wp2_with fail
        go_round
        case rel => exact ⟨k + 1, m, by omega, by go_num, rfl, by rw [← HR.out, H1.out]⟩
        case measure => simp [intOf] <;> omega
    · have HR := Lib.hid (show m = gmL xs 0 by rw [← hR, drop_end HL.out hlt]; rfl)
      clear hR
      go_wp2_with fail
      go_ret
      exact ⟨ret_int HR.out, rfl⟩
set_option maxRecDepth 100000 in
set_option maxHeartbeats 1000000 in
theorem creeps_any {t : Int} {A : Option Addr} {n cp : Nat} {fs : List Fld} {w : World} (hr : RFlds w w.heap.size A n fs) (hn0 : n ≤ 1048576) (hn4 : n ≤ 4) (hal : ∀ f ∈ fs, f.along = 1 ∨ f.along = 2) (ht : 0 ≤ t ∧ t ≤ 500) :
    Calls Try.prog 35 #[.slice A n cp, .int .i64 t] w fun e w' => ∃ V C, e = .returned (.slice V (pgN n) C) ∧ Own w' w.heap.size (.slice V (pgN n) C) (pgN n) (crs (pgN n) t (pgN n)) ∧ Below w.heap.size w w' := by
  obtain ⟨i0, hi, hz0, hz1, hz2⟩ := info_parts info3
  have HA := Lib.hid hal
  obtain ⟨q1, q2, q3⟩ := pgN_half hn4
  have hP2 : pgN n ≤ 32 ∧ 2 ≤ pgN n := by omega
  clear hal q1 q2 q3
  have h0 := own_empty w w.heap.size (Nat.le_refl _)
  go_enter Try.func35, Try.ntmps35
  go_wp2_with fail
  go_loopw [5, 6] (fun v u wr => ∃ k : Nat, k ≤ pgN n ∧ u = .int .i64 ((k : Int) + 1) ∧ Own wr w.heap.size v k (crs (pgN n) t k) ∧ Below w.heap.size w wr) (fun _ u _ => (pgN n : Nat) + 1 - (intOf u).toNat)
  case atStart => exact ⟨0, Nat.zero_le _, rfl, h0, (Below.refl _ _).alloc (Nat.le_refl _) _⟩
  case round =>
    clear h0
    obtain ⟨k, hk, rfl, hown, hb⟩ := hrel
    have HO := Lib.hid hown
    have hrw := (RFlds.below hr hb).more hb.size
    by_cases hlt : k < pgN n
    · go_wp2_with fail
      refine (pageCount_any hrw hn4 HA.out).mono ?_
      rintro e1 w1 ⟨rfl, hb1⟩
      have hbb := hb.trans (hb1.mono hb.size)
      have hrw1 := (RFlds.below hr hbb).more hbb.size
      have ho1 := row_step HO.out hb1
      go_wp2_with fail
      refine (creep_any hrw1 hn0 hn4 HA.out (by omega) (by omega) ht).mono ?_
      rintro e1 w2 ⟨rfl, hb2⟩
      have ho2 := row_step ho1 hb2
      have hb3 := hbb.trans (hb2.mono hbb.size)
      have hsz := hb3.size
      clear hown ho1
      go_wp2_with (at_builtin; refine wpList_append_own _ rfl (.tmp 14) (.tmp 19) 38 rfl w.heap.size 3 i0 (.int .i64 0) 1 8 Try.underlying38 hi hz0 hz1 hz2 rfl (by decide) _ k _ rfl (row_alloc ho2 _) _ 1 1 [.int .i64 (crF (pgN n) t ((k : Int) + 1))] rfl rfl (new_one _ _ rfl _ _) (by intro u hu; simp at hu; subst hu; rfl) (by unfold maxLen; omega) (by omega) (by simp <;> omega) ?_)
      intro v' w3 hown3 hgr3 _
      have hkb := below_grown (row_alloc ho2 (.cells #[.int .i64 (crF (pgN n) t ((k : Int) + 1))] 3)) (by simp <;> omega) hgr3
      have HN := Lib.hid (show Own w3 w.heap.size v' (k + 1) (crs (pgN n) t (k + 1)) by rw [crs_succ]; exact own_app hown3)
      have hb4 := (hb3.alloc hsz (.cells #[.int .i64 (crF (pgN n) t ((k : Int) + 1))] 3)).trans hkb
      clear hown3 hgr3 hkb ho2
      go_wp2_with fail
      go_roundw
      case rel => exact ⟨k + 1, by omega, by go_num, HN.out, hb4⟩
      case measure => simp [intOf] <;> omega
    · have hkn : k = pgN n := by omega
      have HK := Lib.hid hkn
      obtain ⟨V, C, rfl⟩ := own_slice hown
      clear hown hkn
      go_wp2_with fail
      refine (pageCount_any hrw hn4 HA.out).mono ?_
      rintro e1 w1 ⟨rfl, hb1⟩
      have ho1 := Lib.hid (row_step HO.out hb1)
      have hbb := hb.trans (hb1.mono hb.size)
      go_wp2_with fail
      go_ret
      refine ⟨V, C, by rw [← HK.out]; rfl, ?_, hbb⟩
      have h9 := ho1.out
      rw [← HK.out]
      rw [← HK.out] at h9
      exact h9
def gcV (fs : List Fld) (t : Int) : Int := if thB fs t then crF (2 * (lfN fs.length : Int)) t (lfN fs.length) else 0
theorem thB_true {fs : List Fld} {t : Int} (h : thB fs t = true) : foldsB fs = true ∧ 0 ≤ t ∧ t ≤ 500 := by
  simp only [thB, Bool.and_eq_true, inB_true] at h
  exact ⟨h.1, h.2.1, h.2.2⟩
theorem greatestCreep_spec {t : Int} {A : Option Addr} {n cp : Nat} {fs : List Fld} {w : World} (hr : RFlds w w.heap.size A n fs) (hn0 : n ≤ 1048576) (_ : -9223372036854775808 ≤ t ∧ t ≤ 9223372036854775807) :
    Calls Try.prog 12 #[.slice A n cp, .int .i64 t] w fun e w' => e = .returned (.tuple #[.int .i64 (gcV fs t), .bool (thB fs t)]) ∧ Below w.heap.size w w' := by
  cases h1 : foldsB fs
  · have HT := Lib.hid (show thB fs t = false by rw [thB, h1]; rfl)
    (go_enter Try.func12, Try.ntmps12; go_wp2_with fail; refine (imGood_any hr hn0).mono ?_; rintro e1 w1 ⟨rfl, hb⟩)
    go_wp2_with fail
    go_ret2
    exact ⟨by simp [gcV, HT.out], hb⟩
  cases h2 : inB t 0 500
  · have HT := Lib.hid (show thB fs t = false by rw [thB, h2]; simp)
    (go_enter Try.func12, Try.ntmps12; go_wp2_with fail; refine (imGood_any hr hn0).mono ?_; rintro e1 w1 ⟨rfl, hb⟩)
    go_wp2_with (go_at_call 24; refine (mgThick_any _ _).mono ?_; rintro e1 w1 ⟨rfl, rfl⟩)
    go_ret2
    exact ⟨by simp [gcV, HT.out], hb⟩
  · have g3 := inB_true.1 h2
    have g4 := foldsB_true h1
    have hl := hr.len
    have hn4 : n ≤ 4 := by omega
    have HT := Lib.hid (show thB fs t = true by rw [thB, h1, h2]; rfl)
    have HV := Lib.hid (show gcV fs t = crF (2 * (lfN n : Int)) t (lfN n) by rw [gcV, HT.out, hl]; rfl)
    obtain ⟨q1, q2, q3⟩ := pgN_half hn4
    have Q1 := Lib.hid q1
    clear g4 hl q1
    (go_enter Try.func12, Try.ntmps12; go_wp2_with fail; refine (imGood_any hr hn0).mono ?_; rintro e1 w1 ⟨rfl, hb⟩)
    go_wp2_with (go_at_call 24; refine (mgThick_any _ _).mono ?_; rintro e1 w1 ⟨rfl, rfl⟩)
    refine (imCount_any ((RFlds.below hr hb).more hb.size) hn4).mono ?_
    rintro e1 w2 ⟨rfl, hn⟩
    rw [Q1.out]
    go_wp2_with fail
    refine (mgMost_any (by omega) g3).mono ?_
    rintro e1 w3 ⟨rfl, rfl⟩
    go_wp2_with fail
    go_ret2
    exact ⟨by rw [HV.out, HT.out]; rfl, hb.trans (hn.mono hb.size)⟩
theorem greatestCreep_impl {t : Int} {A : Option Addr} {n cp : Nat} {fs : List Fld} {w : World} (hr : RFlds w w.heap.size A n fs) (hn0 : n ≤ 1048576) (_ : -9223372036854775808 ≤ t ∧ t ≤ 9223372036854775807) :
    Calls Try.prog 13 #[.slice A n cp, .int .i64 t] w fun e w' => e = .returned (.tuple #[.int .i64 (gcV fs t), .bool (thB fs t)]) ∧ Below w.heap.size w w' := by
  cases h1 : thB fs t
  · (go_enter Try.func13, Try.ntmps13; go_wp2_with fail; refine (isThick_any hr hn0).mono ?_; rintro e1 w1 ⟨rfl, hb⟩)
    go_wp2_with fail
    go_ret2
    exact ⟨by simp [gcV, h1], hb⟩
  · obtain ⟨g0, g1⟩ := thB_true h1
    have g4 := foldsB_true g0
    have hl := hr.len
    have hn4 : n ≤ 4 := by omega
    have HV := Lib.hid (show gcV fs t = crF (2 * (lfN n : Int)) t (lfN n) by rw [gcV, h1, hl]; rfl)
    obtain ⟨q1, q2, q3⟩ := pgN_half hn4
    have HG := Lib.hid (show gmL (crs (pgN n) t (pgN n)) 0 = crF (2 * (lfN n : Int)) t (lfN n) by rw [q1]; exact gm_crs (by omega) (by omega) g1)
    have HA := Lib.hid g4.2
    have hp : pgN n ≤ 32 := by omega
    clear g4 hl q1 g0
    (go_enter Try.func13, Try.ntmps13; go_wp2_with fail; refine (isThick_any hr hn0).mono ?_; rintro e1 w1 ⟨rfl, hb⟩)
    go_wp2_with fail
    refine (creeps_any ((RFlds.below hr hb).more hb.size) hn0 hn4 HA.out g1).mono ?_
    rintro e1 w2 ⟨V, C, rfl, hO, hn⟩
    go_wp2_with fail
    refine (greatest_any (own_rints hO) (by omega)).mono ?_
    rintro e1 w3 ⟨rfl, rfl⟩
    go_wp2_with fail
    go_ret2
    exact ⟨by rw [HV.out, ← HG.out]; rfl, hb.trans (hn.mono hb.size)⟩
end Go.Proofs.Ytaalfmijpbnpkaa
