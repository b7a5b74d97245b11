/-
  Contracts: BacksOf.
-/
import Derived.Test.YtaalfmijpbnpkaaMg7
import Derived.Maps.AppendAt
import Derived.Deep.RegionHeld3
namespace Go.Proofs.Ytaalfmijpbnpkaa
open Go.RowKit
theorem row_apart {w w' : World} {B size n : Nat} {e : TypeId} {v v' : Value} {cs : List Value} (h : w.ownsRow B e size v n cs) (hg : w.grownBy w' v'.ownBlock) (hne : ∀ k, v.ownBlock = some k → v'.ownBlock ≠ some k) : w'.ownsRow B e size v n cs := by
  refine h.kept hg ?_
  cases hv : v.ownBlock with
  | none => exact .inl rfl
  | some k => right; intro e; exact hne k hv e.symm
def bkL (P t b : Int) (k : Nat) : List Int := (crs P t k).map fun z => b - z
theorem bkL_succ (P t b : Int) (k : Nat) : bkL P t b (k + 1) = bkL P t b k ++ [b - crF P t ((k : Int) + 1)] := by simp [bkL, crs_succ]
theorem crs_at (P t : Int) {m k : Nat} (h : k < m) : (crs P t m)[k]? = some (crF P t ((k : Int) + 1)) := by simp [crs, h]
theorem crs_len (P t : Int) (m : Nat) : (crs P t m).length = m := by simp [crs]
def bkG (fs : List Fld) (a b c d t : Int) : Bool := thB fs t && (mgB a b c d && decide (gcV fs t ≤ b))
def bkV (fs : List Fld) (a b c d t : Int) : List Int := if bkG fs a b c d t then bkL (pgN fs.length) t b (pgN fs.length) else []
theorem mgCreep_is {pages thick page z : Int} {w : World} (h1 : 1 ≤ page) (h2 : (page - 1) / 2 ≤ pages / 2 - 1) (h3 : pages ≤ 64) (ht : 0 ≤ thick ∧ thick ≤ 500) (hz : crF pages thick page = z) :
    Calls Try.prog 25 #[.int .i64 pages, .int .i64 thick, .int .i64 page] w fun e w' => e = .returned (.int .i64 z) ∧ w = w' := by subst hz; exact mgCreep_any h1 h2 h3 ht
theorem isThick_is {t : Int} {A : Option Addr} {n cp : Nat} {fs : List Fld} {w : World} (hr : RFlds w w.heap.size A n fs) (hn0 : n ≤ 1048576) {v : Bool} (hv : thB fs t = v) :
    Calls Try.prog 28 #[.slice A n cp, .int .i64 t] w fun e w' => e = .returned (.bool v) ∧ Below w.heap.size w w' := by subst hv; exact isThick_any hr hn0
theorem areMargins_is {a b c d : Int} {w : World} {v : Bool} (hv : mgB a b c d = v) : Calls Try.prog 37 #[.agg #[.int .i64 a, .int .i64 b, .int .i64 c, .int .i64 d]] w fun e w' => e = .returned (.bool v) ∧ Below w.heap.size w w' := by subst hv; exact areMargins_any
theorem greatest_is {A : Option Addr} {n c : Nat} {xs : List Int} {w : World} (hr : RInts w w.heap.size A n xs) (hn : n ≤ 1048576) {v : Int} (hv : gmL xs 0 = v) :
    Calls Try.prog 34 #[.slice A n c] w fun e w' => e = .returned (.int .i64 v) ∧ w = w' := by subst hv; exact greatest_any hr hn
set_option maxRecDepth 100000 in
set_option maxHeartbeats 1000000 in
theorem backsOf_spec {t : Int} {a b c d : Int} {A : Option Addr} {n cp : Nat} {fs : List Fld} {w : World} (hr : RFlds w w.heap.size A n fs) (hn0 : n ≤ 1048576) (_ : -9223372036854775808 ≤ a ∧ a ≤ 9223372036854775807) (_ : -9223372036854775808 ≤ b ∧ b ≤ 9223372036854775807) (_ : -9223372036854775808 ≤ c ∧ c ≤ 9223372036854775807) (_ : -9223372036854775808 ≤ d ∧ d ≤ 9223372036854775807) (_ : -9223372036854775808 ≤ t ∧ t ≤ 9223372036854775807) :
    Calls Try.prog 17 #[.slice A n cp, .agg #[.int .i64 a, .int .i64 b, .int .i64 c, .int .i64 d], .int .i64 t] w fun e w' => ∃ V N C, e = .returned (.tuple #[.slice V N C, .bool (bkG fs a b c d t)]) ∧ Own w' w.heap.size (.slice V N C) N (bkV fs a b c d t) ∧ N ≤ 1048576 ∧ Below w.heap.size w w' := by
  have hM := Blk.new' w 35 #[.int .i64 a, .int .i64 b, .int .i64 c, .int .i64 d]
  have hb : Below w.heap.size w (w.alloc (.cells #[.int .i64 a, .int .i64 b, .int .i64 c, .int .i64 d] 35)) := (by (repeat (first | exact Below.refl _ _ | exact hb | apply Below.drew | (refine Below.alloc ?_ (by first | (simp; done) | (simp; omega) | (have := hb.size; simp at this ⊢; omega)) _) | (refine Below.setCell ?_ (by simp) _))))
  have hr1 := (RRow.alloc hr (Nat.le_refl _) (.cells #[.int .i64 a, .int .i64 b, .int .i64 c, .int .i64 d] 35)).more (B' := (w.alloc (.cells #[.int .i64 a, .int .i64 b, .int .i64 c, .int .i64 d] 35)).heap.size) (by simp)
  cases h1 : foldsB fs
  · have HG := Lib.hid (show bkG fs a b c d t = false by rw [bkG, thB, h1]; rfl)
    (go_enter Try.func17, Try.ntmps17; (have p0 : _ = some (.int .i64 a : Value) := hM.cell 0); (have p1 : _ = some (.int .i64 b : Value) := hM.cell 1); (have p2 : _ = some (.int .i64 c : Value) := hM.cell 2); (have p3 : _ = some (.int .i64 d : Value) := hM.cell 3); go_wp2_with fail; refine (imGood_is hr1 hn0 h1).mono ?_; rintro e1 w1 ⟨rfl, hn⟩; replace hM := hM.below hn hM.lt; replace hb := hb.trans (hn.mono hb.size); clear p0 p1 p2 p3; (have p0 : _ = some (.int .i64 a : Value) := hM.cell 0); (have p1 : _ = some (.int .i64 b : Value) := hM.cell 1); (have p2 : _ = some (.int .i64 c : Value) := hM.cell 2); (have p3 : _ = some (.int .i64 d : Value) := hM.cell 3); go_wp2_with fail)
    go_ret2
    (refine ⟨none, 0, 0, by rw [HG.out]; rfl, ?_, by omega, hb⟩; rw [bkV, HG.out]; exact own_nil _ _)
  cases h2 : mgB a b c d
  · have HG := Lib.hid (show bkG fs a b c d t = false by rw [bkG, h2]; simp)
    (go_enter Try.func17, Try.ntmps17; (have p0 : _ = some (.int .i64 a : Value) := hM.cell 0); (have p1 : _ = some (.int .i64 b : Value) := hM.cell 1); (have p2 : _ = some (.int .i64 c : Value) := hM.cell 2); (have p3 : _ = some (.int .i64 d : Value) := hM.cell 3); go_wp2_with fail; refine (imGood_is hr1 hn0 h1).mono ?_; rintro e1 w1 ⟨rfl, hn⟩; replace hM := hM.below hn hM.lt; replace hb := hb.trans (hn.mono hb.size); clear p0 p1 p2 p3; (have p0 : _ = some (.int .i64 a : Value) := hM.cell 0); (have p1 : _ = some (.int .i64 b : Value) := hM.cell 1); (have p2 : _ = some (.int .i64 c : Value) := hM.cell 2); (have p3 : _ = some (.int .i64 d : Value) := hM.cell 3); go_wp2_with fail)
    (refine (mgGood_is h2).mono ?_; rintro e1 w2 ⟨rfl, hn⟩; replace hM := hM.below hn hM.lt; replace hb := hb.trans (hn.mono hb.size); clear p0 p1 p2 p3; (have p0 : _ = some (.int .i64 a : Value) := hM.cell 0); (have p1 : _ = some (.int .i64 b : Value) := hM.cell 1); (have p2 : _ = some (.int .i64 c : Value) := hM.cell 2); (have p3 : _ = some (.int .i64 d : Value) := hM.cell 3); go_wp2_with fail)
    go_ret2
    (refine ⟨none, 0, 0, by rw [HG.out]; rfl, ?_, by omega, hb⟩; rw [bkV, HG.out]; exact own_nil _ _)
  cases h3 : inB t 0 500
  · have HG := Lib.hid (show bkG fs a b c d t = false by rw [bkG, thB, h3]; simp)
    (go_enter Try.func17, Try.ntmps17; (have p0 : _ = some (.int .i64 a : Value) := hM.cell 0); (have p1 : _ = some (.int .i64 b : Value) := hM.cell 1); (have p2 : _ = some (.int .i64 c : Value) := hM.cell 2); (have p3 : _ = some (.int .i64 d : Value) := hM.cell 3); go_wp2_with fail; refine (imGood_is hr1 hn0 h1).mono ?_; rintro e1 w1 ⟨rfl, hn⟩; replace hM := hM.below hn hM.lt; replace hb := hb.trans (hn.mono hb.size); clear p0 p1 p2 p3; (have p0 : _ = some (.int .i64 a : Value) := hM.cell 0); (have p1 : _ = some (.int .i64 b : Value) := hM.cell 1); (have p2 : _ = some (.int .i64 c : Value) := hM.cell 2); (have p3 : _ = some (.int .i64 d : Value) := hM.cell 3); go_wp2_with fail)
    (refine (mgGood_is h2).mono ?_; rintro e1 w2 ⟨rfl, hn⟩; replace hM := hM.below hn hM.lt; replace hb := hb.trans (hn.mono hb.size); clear p0 p1 p2 p3; (have p0 : _ = some (.int .i64 a : Value) := hM.cell 0); (have p1 : _ = some (.int .i64 b : Value) := hM.cell 1); (have p2 : _ = some (.int .i64 c : Value) := hM.cell 2); (have p3 : _ = some (.int .i64 d : Value) := hM.cell 3); go_wp2_with fail)
    (refine (mgThick_is h3).mono ?_; rintro e1 w3 ⟨rfl, hw3⟩; subst hw3; go_wp2_with fail)
    go_ret2
    (refine ⟨none, 0, 0, by rw [HG.out]; rfl, ?_, by omega, hb⟩; rw [bkV, HG.out]; exact own_nil _ _)
  have g3 := inB_true.1 h3
  have g4 := foldsB_true h1
  have gm := mgB_true h2
  have hl := hr.len
  have hn4 : n ≤ 4 := by omega
  obtain ⟨q1, q2, q3⟩ := pgN_half hn4
  obtain ⟨P, hP⟩ : ∃ P : Int, P = (lfN n : Int) := ⟨_, rfl⟩
  have Q1 := Lib.hid (show (pgN n : Int) = 2 * P by rw [hP]; exact q1)
  have hP2 : 1 ≤ P ∧ P ≤ 32 := by omega
  have HZ := Lib.hid (show gcV fs t = crF (2 * P) t P by rw [gcV, thB, h1, h3, hl, hP]; rfl)
  have HV := Lib.hid (show bkG fs a b c d t = decide (crF (2 * P) t P ≤ b) by rw [← HZ.out, bkG, thB, h1, h2, h3]; rfl)
  have HL := Lib.hid hl
  obtain ⟨_, gb, _, _⟩ := gm
  have hpn : pgN n ≤ 64 := by omega
  obtain ⟨i0, hi, hz0, hz1, hz2⟩ := info_parts info3
  clear g4 hl q1 q2 q3 hP
  (go_enter Try.func17, Try.ntmps17; (have p0 : _ = some (.int .i64 a : Value) := hM.cell 0); (have p1 : _ = some (.int .i64 b : Value) := hM.cell 1); (have p2 : _ = some (.int .i64 c : Value) := hM.cell 2); (have p3 : _ = some (.int .i64 d : Value) := hM.cell 3); go_wp2_with fail; refine (imGood_is hr1 hn0 h1).mono ?_; rintro e1 w1 ⟨rfl, hn⟩; replace hM := hM.below hn hM.lt; replace hb := hb.trans (hn.mono hb.size); clear p0 p1 p2 p3; (have p0 : _ = some (.int .i64 a : Value) := hM.cell 0); (have p1 : _ = some (.int .i64 b : Value) := hM.cell 1); (have p2 : _ = some (.int .i64 c : Value) := hM.cell 2); (have p3 : _ = some (.int .i64 d : Value) := hM.cell 3); go_wp2_with fail)
  (refine (mgGood_is h2).mono ?_; rintro e1 w2 ⟨rfl, hn⟩; replace hM := hM.below hn hM.lt; replace hb := hb.trans (hn.mono hb.size); clear p0 p1 p2 p3; (have p0 : _ = some (.int .i64 a : Value) := hM.cell 0); (have p1 : _ = some (.int .i64 b : Value) := hM.cell 1); (have p2 : _ = some (.int .i64 c : Value) := hM.cell 2); (have p3 : _ = some (.int .i64 d : Value) := hM.cell 3); go_wp2_with fail)
  (refine (mgThick_is h3).mono ?_; rintro e1 w3 ⟨rfl, hw3⟩; subst hw3; go_wp2_with fail)
  clear p0 p1 p2 p3
  have hr3 := Lib.hid hr
  go_loopw [8, 9] (fun v u wr => ∃ k : Nat, k ≤ pgN n ∧ u = .int .i64 ((k : Int) + 1) ∧ Own wr (w.heap.size + 1) v k (bkL (2 * P) t b k) ∧ (∀ j : Nat, j < k → crF (2 * P) t ((j : Int) + 1) ≤ b) ∧ Blk wr w.heap.size 35 [.int .i64 a, .int .i64 b, .int .i64 c, .int .i64 d] ∧ Below w.heap.size w wr) (fun _ u _ => (pgN n : Nat) + 1 - (intOf u).toNat)
  case atStart => exact ⟨0, Nat.zero_le _, rfl, own_nil _ _, by intro j h; omega, hM, hb⟩
  case round =>
    clear hM hb hn
    obtain ⟨k, hk, rfl, hown, hall, hM, hb⟩ := hrel
    have HA := Lib.hid hall
    have HO := Lib.hid hown
    clear hall
    have hrw := (RFlds.below hr3.out hb).more hb.size
    by_cases hlt : k < pgN n
    · go_wp2_with fail
      refine (imCount_is hrw hn4 Q1.out).mono ?_
      rintro e1 w4 ⟨rfl, hn4_⟩
      have hbb := hb.trans (hn4_.mono hb.size)
      have hMx := hM.below hn4_ hM.lt
      have ho1 := Lib.hid (row_step HO.out hn4_)
      have hsz := hbb.size
      clear hown hM
      have hrx := Lib.hid (show ∀ x : Later w4.heap.size w4, RFlds x.wx x.wx.heap.size A n fs from fun x => (RFlds.below ((RFlds.below hr3.out hbb).more hbb.size) x.ok).more x.ok.size)
      have q2 : ∀ x : Later w4.heap.size w4, x.wx.cell? ⟨w.heap.size, 1, none⟩ = some (.int .i64 b) := fun x => x.cell hMx.lt (hMx.cell 1)
      obtain ⟨z, hz⟩ : ∃ z, crF (2 * P) t ((k : Int) + 1) = z := ⟨_, rfl⟩
      have hQ := Q1.out
      have hzb := crF_bd (pages := 2 * P) (thick := t) (page := (k : Int) + 1) (by omega) (by omega) (by omega) g3
      rw [hz] at hzb
      have HZ1 := Lib.hid hz
      clear hz hQ
      have ew : IntKind.i64.wrap (b - z) = b - z := wrapI (by omega) (by omega)
      have hkP : (k : Int) + 1 ≤ 2 * P := by have := Q1.out; omega
      go_wp2_with fail
      refine quiet_start (w4.heap.size) (by kernel_rfl) (by kernel_rfl) ?_; (repeat (go_big_quiet_step ((first | (go_at_call 26; rename_i x; exact later_call (Nat.le_refl _) (imCount_is (hrx.out x) hn4 Q1.out)) | (go_at_call 25; exact later_same (mgCreep_is (by omega) (by omega) (by omega) g3 HZ1.out)))))); refine wpQuiet_nil ?_; rintro wx ⟨⟨wy, hn⟩, rfl⟩; (try dsimp only)
      clear q2
      have ho2 := Lib.hid (row_step ho1.out hn)
      have hM3 := hMx.below hn hMx.lt
      have hb3 := hbb.trans (hn.mono hbb.size)
      have hs3 : w.heap.size + 1 ≤ wx.heap.size := hM3.lt
      clear ho1 hMx hrw hn4_
      rcases (by omega : b - z < 0 ∨ 0 ≤ b - z) with h5 | h5
      · have HG := Lib.hid (show bkG fs a b c d t = false by
          have h6 := crF_mid (P := P) (thick := t) (page := (k : Int) + 1) (by omega) hkP (by omega) g3.1
          rw [HZ1.out] at h6
          rw [HV.out]
          simp
          omega)
        have hb := hb3
        go_wp2_with fail
        go_ret2
        (refine ⟨none, 0, 0, by rw [HG.out]; rfl, ?_, by omega, hb⟩; rw [bkV, HG.out]; exact own_nil _ _)
      · have h6 := Lib.hid (show ∀ j : Nat, j < k + 1 → crF (2 * P) t ((j : Int) + 1) ≤ b from fun j hj => by
          by_cases e : j < k
          · exact HA.out j e
          · have e2 : j = k := by omega
            subst e2
            rw [HZ1.out]
            omega)
        go_wp2_with (at_builtin; refine wpList_append_own _ rfl (.tmp 40) (.tmp 42) 38 rfl (w.heap.size + 1) 3 i0 (.int .i64 0) 1 8 Try.underlying38 hi hz0 hz1 hz2 rfl (by decide) _ k _ rfl (row_alloc ho2.out _) _ 1 1 [.int .i64 (b - z)] rfl rfl (new_one _ _ rfl _ _) (by intro u hu; simp at hu; subst hu; rfl) (by unfold maxLen; omega) (by omega) (by simp <;> omega) ?_)
        intro v' w5 hown5 hgr5 _
        have hkb := below_grown (row_alloc ho2.out (.cells #[.int .i64 (b - z)] 3)) (by simp <;> omega) hgr5
        have HN := Lib.hid (show Own w5 (w.heap.size + 1) v' (k + 1) (bkL (2 * P) t b (k + 1)) by rw [bkL_succ, HZ1.out]; exact own_app hown5)
        have hb4 := (hb3.alloc (by omega) (.cells #[.int .i64 (b - z)] 3)).trans (hkb.mono (by omega))
        have hM4 := Lib.hid ((hM3.alloc (.cells #[.int .i64 (b - z)] 3)).below hkb (by omega))
        clear hown5 hgr5 hkb ho2 hM3
        go_wp2_with fail
        go_roundw
        case rel => exact ⟨k + 1, by omega, by go_num, HN.out, h6.out, hM4.out, hb4⟩
        case measure => simp [intOf] <;> omega
    · have hkn : k = pgN n := by omega
      subst hkn
      obtain ⟨V, C, rfl⟩ := own_slice hown
      have HG := Lib.hid (show bkG fs a b c d t = true by
        have h6 := HA.out (lfN n - 1) (by have := Q1.out; have := pgN_half hn4; omega)
        have e9 : ((lfN n - 1 : Nat) : Int) + 1 = P := by have := Q1.out; have := pgN_half hn4; omega
        rw [e9] at h6
        rw [HV.out]
        simpa using h6)
      clear hown
      have hge : 2 * P < (pgN n : Int) + 1 := by have := Q1.out; omega
      go_wp2_with fail
      refine (imCount_is hrw hn4 Q1.out).mono ?_
      rintro e1 w4 ⟨rfl, hn4_⟩
      have ho1 := Lib.hid (row_step HO.out hn4_)
      have hbb := hb.trans (hn4_.mono hb.size)
      go_wp2_with fail
      go_ret2
      refine ⟨V, pgN n, C, by rw [HG.out]; rfl, ?_, by omega, hbb⟩
      rw [bkV, HG.out, if_pos rfl, HL.out, Q1.out]
      exact own_lower ho1.out (by omega)
set_option maxRecDepth 100000 in
set_option maxHeartbeats 1000000 in
theorem backsOf_impl {t : Int} {a b c d : Int} {A : Option Addr} {n cp : Nat} {fs : List Fld} {w : World} (hr : RFlds w w.heap.size A n fs) (hn0 : n ≤ 1048576) (_ : -9223372036854775808 ≤ a ∧ a ≤ 9223372036854775807) (_ : -9223372036854775808 ≤ b ∧ b ≤ 9223372036854775807) (_ : -9223372036854775808 ≤ c ∧ c ≤ 9223372036854775807) (_ : -9223372036854775808 ≤ d ∧ d ≤ 9223372036854775807) (_ : -9223372036854775808 ≤ t ∧ t ≤ 9223372036854775807) :
    Calls Try.prog 18 #[.slice A n cp, .agg #[.int .i64 a, .int .i64 b, .int .i64 c, .int .i64 d], .int .i64 t] w fun e w' => ∃ V N C, e = .returned (.tuple #[.slice V N C, .bool (bkG fs a b c d t)]) ∧ Own w' w.heap.size (.slice V N C) N (bkV fs a b c d t) ∧ N ≤ 1048576 ∧ Below w.heap.size w w' := by
  have hM := Blk.new' w 35 #[.int .i64 a, .int .i64 b, .int .i64 c, .int .i64 d]
  have hb : Below w.heap.size w (w.alloc (.cells #[.int .i64 a, .int .i64 b, .int .i64 c, .int .i64 d] 35)) := (by (repeat (first | exact Below.refl _ _ | exact hb | apply Below.drew | (refine Below.alloc ?_ (by first | (simp; done) | (simp; omega) | (have := hb.size; simp at this ⊢; omega)) _) | (refine Below.setCell ?_ (by simp) _))))
  have HR := Lib.hid (show ∀ wx, Below (w.heap.size + 1) (w.alloc (.cells #[.int .i64 a, .int .i64 b, .int .i64 c, .int .i64 d] 35)) wx → RFlds wx wx.heap.size A n fs from fun wx h => (RFlds.below ((RRow.alloc hr (Nat.le_refl _) (.cells #[.int .i64 a, .int .i64 b, .int .i64 c, .int .i64 d] 35)).more (B' := w.heap.size + 1) (by omega)) h).more (by have := h.size; simp at this; omega))
  cases h1 : thB fs t
  · have HG := Lib.hid (show bkG fs a b c d t = false by rw [bkG, h1]; rfl)
    go_enter Try.func18, Try.ntmps18
    (have q1 : ∀ x : Later (w.heap.size + 1) (w.alloc (.cells #[.int .i64 a, .int .i64 b, .int .i64 c, .int .i64 d] 35)), x.wx.cell? ⟨w.heap.size, 1, none⟩ = some (.int .i64 b) := fun x => x.cell (by omega) (hM.cell 1)); (have q0 : ∀ x : Later (w.heap.size + 1) (w.alloc (.cells #[.int .i64 a, .int .i64 b, .int .i64 c, .int .i64 d] 35)), x.wx.cell? ⟨w.heap.size, 0, none⟩ = some (.int .i64 a) := fun x => x.cell (by omega) (hM.cell 0)); (have q2 : ∀ x : Later (w.heap.size + 1) (w.alloc (.cells #[.int .i64 a, .int .i64 b, .int .i64 c, .int .i64 d] 35)), x.wx.cell? ⟨w.heap.size, 2, none⟩ = some (.int .i64 c) := fun x => x.cell (by omega) (hM.cell 2)); (have q3 : ∀ x : Later (w.heap.size + 1) (w.alloc (.cells #[.int .i64 a, .int .i64 b, .int .i64 c, .int .i64 d] 35)), x.wx.cell? ⟨w.heap.size, 3, none⟩ = some (.int .i64 d) := fun x => x.cell (by omega) (hM.cell 3))
    go_wp2_with fail
    refine quiet_start (w.heap.size + 1) (by kernel_rfl) (by kernel_rfl) ?_; (repeat (go_big_quiet_step ((go_at_call 28; rename_i x; exact later_call (by simp) (isThick_is (HR.out _ x.ok) hn0 h1))))); refine wpQuiet_nil ?_; rintro wx ⟨⟨wy, hn⟩, rfl⟩; (try dsimp only)
    clear q0 q1 q2 q3
    have hbx := hb.trans (hn.mono (by omega))
    go_wp2_with fail
    go_ret2
    (refine ⟨some ⟨wx.heap.size, 0, none⟩, 0, 0, by rw [HG.out]; rfl, ?_, by omega, hbx.alloc hbx.size _⟩; rw [bkV, HG.out]; exact own_lower (own_empty wx wx.heap.size (Nat.le_refl _)) hbx.size)
  cases h2 : mgB a b c d
  · have HG := Lib.hid (show bkG fs a b c d t = false by rw [bkG, h2]; simp)
    go_enter Try.func18, Try.ntmps18
    (have q1 : ∀ x : Later (w.heap.size + 1) (w.alloc (.cells #[.int .i64 a, .int .i64 b, .int .i64 c, .int .i64 d] 35)), x.wx.cell? ⟨w.heap.size, 1, none⟩ = some (.int .i64 b) := fun x => x.cell (by omega) (hM.cell 1)); (have q0 : ∀ x : Later (w.heap.size + 1) (w.alloc (.cells #[.int .i64 a, .int .i64 b, .int .i64 c, .int .i64 d] 35)), x.wx.cell? ⟨w.heap.size, 0, none⟩ = some (.int .i64 a) := fun x => x.cell (by omega) (hM.cell 0)); (have q2 : ∀ x : Later (w.heap.size + 1) (w.alloc (.cells #[.int .i64 a, .int .i64 b, .int .i64 c, .int .i64 d] 35)), x.wx.cell? ⟨w.heap.size, 2, none⟩ = some (.int .i64 c) := fun x => x.cell (by omega) (hM.cell 2)); (have q3 : ∀ x : Later (w.heap.size + 1) (w.alloc (.cells #[.int .i64 a, .int .i64 b, .int .i64 c, .int .i64 d] 35)), x.wx.cell? ⟨w.heap.size, 3, none⟩ = some (.int .i64 d) := fun x => x.cell (by omega) (hM.cell 3))
    go_wp2_with fail
    refine quiet_start (w.heap.size + 1) (by kernel_rfl) (by kernel_rfl) ?_; (repeat (go_big_quiet_step ((first | (go_at_call 28; rename_i x; exact later_call (by simp) (isThick_is (HR.out _ x.ok) hn0 h1)) | (go_at_call 37; exact later_call (by simp) (areMargins_is h2)))))); refine wpQuiet_nil ?_; rintro wx ⟨⟨wy, hn⟩, rfl⟩; (try dsimp only)
    clear q0 q1 q2 q3
    have hbx := hb.trans (hn.mono (by omega))
    go_wp2_with fail
    go_ret2
    (refine ⟨some ⟨wx.heap.size, 0, none⟩, 0, 0, by rw [HG.out]; rfl, ?_, by omega, hbx.alloc hbx.size _⟩; rw [bkV, HG.out]; exact own_lower (own_empty wx wx.heap.size (Nat.le_refl _)) hbx.size)
  obtain ⟨g0, g1⟩ := thB_true h1
  have g4 := foldsB_true g0
  have hl := hr.len
  have hn4 : n ≤ 4 := by omega
  obtain ⟨_, gb, _, _⟩ := mgB_true h2
  obtain ⟨q1, q2, q3⟩ := pgN_half hn4
  obtain ⟨z, hz⟩ : ∃ z, z = gcV fs t := ⟨_, rfl⟩
  have HZ := Lib.hid (show gmL (crs (pgN n) t (pgN n)) 0 = z by rw [hz, gcV, h1, hl, q1]; exact gm_crs (by omega) (by omega) g1)
  have HV := Lib.hid (show bkG fs a b c d t = decide (z ≤ b) by rw [bkG, h1, h2, hz]; rfl)
  have HA := Lib.hid g4.2
  have HL := Lib.hid hl
  have hp : pgN n ≤ 32 := by omega
  clear g4 hl q1 q2 q3 g0 hz
  have HC := Lib.hid (show ∀ wx, Below (w.heap.size + 1) (w.alloc (.cells #[.int .i64 a, .int .i64 b, .int .i64 c, .int .i64 d] 35)) wx → (wx.cell? ⟨w.heap.size, 0, none⟩ = some (.int .i64 a) ∧ wx.cell? ⟨w.heap.size, 1, none⟩ = some (.int .i64 b) ∧ wx.cell? ⟨w.heap.size, 2, none⟩ = some (.int .i64 c) ∧ wx.cell? ⟨w.heap.size, 3, none⟩ = some (.int .i64 d)) from fun wx h => ⟨(hM.below h (by omega)).cell 0, (hM.below h (by omega)).cell 1, (hM.below h (by omega)).cell 2, (hM.below h (by omega)).cell 3⟩)
  have HZs := Lib.hid (show ∀ wx, Below (w.heap.size + 1) (w.alloc (.cells #[.int .i64 a, .int .i64 b, .int .i64 c, .int .i64 d] 35)) wx → w.heap.size + 1 ≤ wx.heap.size from fun wx h => by have := h.size; simp at this; omega)
  have HB := Lib.hid (show Below (w.heap.size + 1) (w.alloc (.cells #[.int .i64 a, .int .i64 b, .int .i64 c, .int .i64 d] 35)) (w.alloc (.cells #[.int .i64 a, .int .i64 b, .int .i64 c, .int .i64 d] 35)) from Below.refl _ _)
  by_cases hzb : b < z
  · have HG := Lib.hid (show bkG fs a b c d t = false by rw [HV.out]; simp; omega)
    have k1 : decide (b < z) = true := by simpa using hzb
    go_enter Try.func18, Try.ntmps18
    go_wp2_with fail
    go_region_held3 (fun wx => Below (w.heap.size + 1) (w.alloc (.cells #[.int .i64 a, .int .i64 b, .int .i64 c, .int .i64 d] 35)) wx ∧ wx.cell? ⟨w.heap.size, 0, none⟩ = some (.int .i64 a) ∧ wx.cell? ⟨w.heap.size, 1, none⟩ = some (.int .i64 b) ∧ wx.cell? ⟨w.heap.size, 2, none⟩ = some (.int .i64 c) ∧ wx.cell? ⟨w.heap.size, 3, none⟩ = some (.int .i64 d)) ((first | exact ⟨HB.out.drew, HC.out _ HB.out.drew⟩ | assumption | ((have hh : Below _ _ _ ∧ _ := (by assumption)); have hh0 := hh.1.trans (hn.mono (HZs.out _ hh.1)); exact ⟨hh0, HC.out _ hh0⟩) | go_keep)) (first | (go_at_call 28; (have hh : Below _ _ _ ∧ _ := (by assumption)); refine (isThick_is (HR.out _ hh.1) hn0 h1).mono ?_; rintro e1 wi ⟨rfl, hn⟩) | (go_at_call 37; refine (areMargins_is h2).mono ?_; rintro e1 wi ⟨rfl, hn⟩) | (go_at_call 35; (have hh : Below _ _ _ ∧ _ := (by assumption)); refine (creeps_any (HR.out _ hh.1) hn0 hn4 HA.out g1).mono ?_; rintro e1 wi ⟨V, C, rfl, hO, hn⟩) | (go_at_call 34; refine (greatest_is (own_rints (by exact hO)) (by omega) HZ.out).mono ?_; rintro e1 wi ⟨rfl, rfl⟩))
    have hn0 : Below (w.heap.size + 1) (w.alloc (.cells #[.int .i64 a, .int .i64 b, .int .i64 c, .int .i64 d] 35)) wi ∧ _ := (by assumption)
    obtain ⟨hn, _⟩ := hn0
    have hbx := hb.trans (hn.mono (by omega))
    go_wp2_with fail
    go_ret2
    refine ⟨some ⟨wi.heap.size, 0, none⟩, 0, 0, by rw [HG.out]; rfl, ?_, by omega, hbx.alloc hbx.size _⟩
    rw [bkV, HG.out]
    exact own_lower (own_empty wi wi.heap.size (Nat.le_refl _)) hbx.size
  · have HG := Lib.hid (show bkG fs a b c d t = true by rw [HV.out]; simp; omega)
    have k1 : decide (b < z) = false := by simpa using hzb
    obtain ⟨i0, hi, hz0, hz1, hz2⟩ := info_parts info3
    have HP := Lib.hid (show ∀ j : Nat, j < pgN n → 0 ≤ crF (pgN n) t ((j : Int) + 1) ∧ crF (pgN n) t ((j : Int) + 1) ≤ 160 from fun j hj => by
      have := pgN_half hn4
      exact crF_bd (by omega) (by omega) (by omega) g1)
    go_enter Try.func18, Try.ntmps18
    go_wp2_with fail
    go_region_held3 (fun wx => Below (w.heap.size + 1) (w.alloc (.cells #[.int .i64 a, .int .i64 b, .int .i64 c, .int .i64 d] 35)) wx ∧ wx.cell? ⟨w.heap.size, 0, none⟩ = some (.int .i64 a) ∧ wx.cell? ⟨w.heap.size, 1, none⟩ = some (.int .i64 b) ∧ wx.cell? ⟨w.heap.size, 2, none⟩ = some (.int .i64 c) ∧ wx.cell? ⟨w.heap.size, 3, none⟩ = some (.int .i64 d)) ((first | exact ⟨HB.out.drew, HC.out _ HB.out.drew⟩ | assumption | ((have hh : Below _ _ _ ∧ _ := (by assumption)); have hh0 := hh.1.trans (hn.mono (HZs.out _ hh.1)); exact ⟨hh0, HC.out _ hh0⟩) | go_keep)) (first | (go_at_call 28; (have hh : Below _ _ _ ∧ _ := (by assumption)); refine (isThick_is (HR.out _ hh.1) hn0 h1).mono ?_; rintro e1 wi ⟨rfl, hn⟩) | (go_at_call 37; refine (areMargins_is h2).mono ?_; rintro e1 wi ⟨rfl, hn⟩) | (go_at_call 35; (have hh : Below _ _ _ ∧ _ := (by assumption)); refine (creeps_any (HR.out _ hh.1) hn0 hn4 HA.out g1).mono ?_; rintro e1 wi ⟨V, C, rfl, hO, hn⟩) | (go_at_call 34; refine (greatest_is (own_rints (by exact hO)) (by omega) HZ.out).mono ?_; rintro e1 wi ⟨rfl, rfl⟩))
    have hn0 : Below (w.heap.size + 1) (w.alloc (.cells #[.int .i64 a, .int .i64 b, .int .i64 c, .int .i64 d] 35)) wi ∧ _ := (by assumption)
    obtain ⟨hn, p0, p1, p2, p3⟩ := hn0
    have hbx := hb.trans (hn.mono (by omega))
    have hMx := hM.below hn (by omega)
    have hrx := HR.out _ hn
    clear hb hO hr p0 p1 p2 p3
    obtain ⟨w0, hw0⟩ : ∃ w0, w0 = wi.alloc (.cells #[] 3) := ⟨_, rfl⟩
    have hb0 : Below w.heap.size w w0 := by rw [hw0]; exact hbx.alloc hbx.size _
    have hM0 : Blk w0 w.heap.size 35 [.int .i64 a, .int .i64 b, .int .i64 c, .int .i64 d] := by rw [hw0]; exact hMx.alloc _
    have hr0 : RFlds w0 w0.heap.size A n fs := by rw [hw0]; exact (RRow.alloc hrx (Nat.le_refl _) (.cells #[] 3)).more (by simp)
    have ho0 := own_empty wi wi.heap.size (Nat.le_refl _)
    rw [← hw0] at ho0
    have hs0 : w0.heap.size = wi.heap.size + 1 := by rw [hw0]; simp
    go_wp2_with fail
    rw [← hw0]
    clear hw0
    refine (creeps_any hr0 (by omega) hn4 HA.out g1).mono ?_
    rintro e1 w1 ⟨V2, C2, rfl, hO, hn1⟩
    have hszi : w.heap.size + 1 ≤ wi.heap.size := HZs.out _ hn
    have hb1 := hb0.trans (hn1.mono hb0.size)
    have hM1 := hM0.below hn1 hM0.lt
    have ho1 : Own w1 wi.heap.size _ 0 [] := row_step ho0 hn1
    have hs1 : wi.heap.size ≤ w1.heap.size := by have := hn1.size; omega
    have hO1 := own_lower hO (show wi.heap.size ≤ w0.heap.size by omega)
    have hD1 : ∀ x, (Value.slice V2 (pgN n) C2).ownBlock = some x → (Value.slice (some ⟨wi.heap.size, 0, none⟩) 0 0).ownBlock ≠ some x := by
      intro x hx e
      have h1 := (hO.lt x hx).1
      have e2 : wi.heap.size = x := by injection e
      omega
    clear hO hn1 ho0 hM0 hb0 hr0 hn hs0 hMx hbx hrx
    go_wp2_with fail
    go_loopw [8, 35] (fun v u wr => ∃ k : Nat, k ≤ pgN n ∧ u = .int .i64 k ∧ Own wr wi.heap.size v k (bkL (pgN n) t b k) ∧ Own wr wi.heap.size (.slice V2 (pgN n) C2) (pgN n) (crs (pgN n) t (pgN n)) ∧ (∀ x, (Value.slice V2 (pgN n) C2).ownBlock = some x → v.ownBlock ≠ some x) ∧ Blk wr w.heap.size 35 [.int .i64 a, .int .i64 b, .int .i64 c, .int .i64 d] ∧ wi.heap.size ≤ wr.heap.size ∧ Below w.heap.size w wr) (fun _ u _ => (pgN n : Nat) - (intOf u).toNat)
    case atStart => exact ⟨0, Nat.zero_le _, rfl, ho1, hO1, hD1, hM1, hs1, hb1⟩
    case round =>
      clear ho1 hO1 hD1 hM1 hs1 hb1
      obtain ⟨k, hk, rfl, hown, hO, hD, hM, hs1, hb⟩ := hrel
      have HO := Lib.hid hown
      have HC2 := Lib.hid hO
      have HD := Lib.hid hD
      clear hD
      by_cases hlt : k < pgN n
      · obtain ⟨ad, y, hA, hadlt, _, hy, hc⟩ := RInts.at_ (own_rints hO) hlt
        rw [crs_at _ _ hlt] at hy
        have HY := Lib.hid (show crF (pgN n) t ((k : Int) + 1) = y by injection hy)
        have hyb := HP.out k hlt
        rw [HY.out] at hyb
        have ew : IntKind.i64.wrap (b - y) = b - y := wrapI (by omega) (by omega)
        have p1 : _ = some (Value.int .i64 b) := hM.cell 1
        clear hy hown hO
        subst hA
        go_wp2_with (at_builtin; refine wpList_append_own_at _ rfl (.tmp 39) (.tmp 44) 38 rfl wi.heap.size 3 i0 (.int .i64 0) 1 8 Try.underlying38 hi hz0 hz1 hz2 rfl (by decide) _ k _ rfl (row_alloc HO.out _) _ 1 1 [.int .i64 (b - y)] rfl rfl (new_one _ _ rfl _ _) (by intro u hu; simp at hu; subst hu; rfl) (by unfold maxLen; omega) (by omega) (by simp <;> omega) ?_)
        intro v' w5 hown5 hgr5 _ hob
        have hkb := below_grown (row_alloc HO.out (.cells #[.int .i64 (b - y)] 3)) (by simp <;> omega) hgr5
        have HN := Lib.hid (show Own w5 wi.heap.size v' (k + 1) (bkL (pgN n) t b (k + 1)) by rw [bkL_succ, HY.out]; exact own_app hown5)
        have HC5 := Lib.hid (show Own w5 wi.heap.size (.slice (some ad) (pgN n) C2) (pgN n) (crs (pgN n) t (pgN n)) from row_apart (row_alloc HC2.out _) hgr5 HD.out)
        have HD5 := Lib.hid (show ∀ x, (Value.slice (some ad) (pgN n) C2).ownBlock = some x → v'.ownBlock ≠ some x from fun x hx e => by
          rcases hob with h | h
          · exact HD.out x hx (h.symm.trans e)
          · rw [h] at e
            have e2 : wr.heap.size + 1 = x := by injection e
            have := (HC2.out.lt x hx).2
            omega)
        have hs5 : wi.heap.size ≤ w5.heap.size := by have := hkb.size; have := hgr5.size; simp only [World.size_alloc] at this; omega
        have hb4 := (hb.alloc hb.size (.cells #[.int .i64 (b - y)] 3)).trans (hkb.mono (by omega))
        have hM4 := Lib.hid ((hM.alloc (.cells #[.int .i64 (b - y)] 3)).below hkb (by omega))
        clear hown5 hgr5 hkb hM hb p1 hc
        go_wp2_with fail
        go_roundw
        case rel => exact ⟨k + 1, by omega, by go_num, HN.out, HC5.out, HD5.out, hM4.out, hs5, hb4⟩
        case measure => simp [intOf] <;> omega
      · have hkn : k = pgN n := by omega
        subst hkn
        obtain ⟨V3, C3, rfl⟩ := own_slice hown
        clear hown hO
        go_wp2_with fail
        go_ret2
        refine ⟨V3, pgN n, C3, by rw [HG.out]; rfl, ?_, by omega, hb⟩
        rw [bkV, HG.out, if_pos rfl, HL.out]
        exact own_lower HO.out (by omega)
end Go.Proofs.Ytaalfmijpbnpkaa
