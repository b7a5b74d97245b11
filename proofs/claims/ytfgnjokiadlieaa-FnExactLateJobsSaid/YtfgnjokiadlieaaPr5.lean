/-
  Contracts: SheetsNeeded, JobMinutes, PaperFor.
-/
import Derived.Test.YtfgnjokiadlieaaPr4
namespace Go.Proofs.Ytfgnjokiadlieaa
open Go.RowKit
def snG (a b c : Int) (xs : List Int) (i s d : Int) : Bool := prB a b c xs && jobB ⟨i, s, d⟩
def snV (a b c : Int) (xs : List Int) (i s d : Int) : Int := if snG a b c xs i s d then need c s else 0
def jmV (a b c : Int) (xs : List Int) (i s d : Int) : Int := if snG a b c xs i s d then mins a b c s else 0
theorem sheetsNeeded_spec {a b c i s d : Int} {A : Option Addr} {n cp : Nat} {xs : List Int} {w : World} (hr : RInts w w.heap.size A n xs) (hn0 : n ≤ 1048576) (_ : -9223372036854775808 ≤ i ∧ i ≤ 9223372036854775807) (_ : -9223372036854775808 ≤ s ∧ s ≤ 9223372036854775807) (_ : -9223372036854775808 ≤ d ∧ d ≤ 9223372036854775807) :
    Calls Try.prog 35 #[.agg #[.int .i64 a, .int .i64 b, .int .i64 c, .slice A n cp], .agg #[.int .i64 i, .int .i64 s, .int .i64 d]] w fun e w' => e = .returned (.tuple #[.int .i64 (snV a b c xs i s d), .bool (snG a b c xs i s d)]) ∧ Below w.heap.size w w' := by
  have HL := Lib.hid hr.len
  have hP := (Blk.new' w 34 #[.int .i64 a, .int .i64 b, .int .i64 c, .slice A n cp]).alloc (.cells #[.int .i64 i, .int .i64 s, .int .i64 d] 52); have hJ : Blk ((w.alloc (.cells #[.int .i64 a, .int .i64 b, .int .i64 c, .slice A n cp] 34)).alloc (.cells #[.int .i64 i, .int .i64 s, .int .i64 d] 52)) (w.heap.size + 1) 52 [.int .i64 i, .int .i64 s, .int .i64 d] := (by simpa using Blk.new' (w.alloc (.cells #[.int .i64 a, .int .i64 b, .int .i64 c, .slice A n cp] 34)) 52 #[.int .i64 i, .int .i64 s, .int .i64 d]); have hb : Below w.heap.size w ((w.alloc (.cells #[.int .i64 a, .int .i64 b, .int .i64 c, .slice A n cp] 34)).alloc (.cells #[.int .i64 i, .int .i64 s, .int .i64 d] 52)) := (by (repeat (first | exact Below.refl _ _ | exact hb | apply Below.drew | (refine Below.alloc ?_ (by first | (simp; done) | (simp; omega) | (have := hb.size; simp at this ⊢; omega)) _) | (refine Below.setCell ?_ (by simp) _)))); have hr1 := ((hr.alloc (Nat.le_refl _) (.cells #[.int .i64 a, .int .i64 b, .int .i64 c, .slice A n cp] 34)).alloc (by simp) (.cells #[.int .i64 i, .int .i64 s, .int .i64 d] 52)).more (B' := ((w.alloc (.cells #[.int .i64 a, .int .i64 b, .int .i64 c, .slice A n cp] 34)).alloc (.cells #[.int .i64 i, .int .i64 s, .int .i64 d] 52)).heap.size) (by simp <;> omega)
  cases h1 : prB a b c xs
  · (go_enter Try.func35, Try.ntmps35; go_wp2_with fail; refine (prGood_any hr1 hn0).mono ?_; rintro e1 w1 ⟨rfl, hn⟩; replace hb := hb.trans (hn.mono hb.size); replace hP := hP.below hn hP.lt; replace hJ := hJ.below hn hJ.lt; replace hr1 := (RInts.below hr1 hn).more hn.size; clear hn; have p0 : _ = some (.int .i64 a : Value) := hP.cell 0; have p1 : _ = some (.int .i64 b : Value) := hP.cell 1; have p2 : _ = some (.int .i64 c : Value) := hP.cell 2; have p3 : _ = some (.slice A n cp : Value) := hP.cell 3; have j0 : _ = some (.int .i64 i : Value) := hJ.cell 0; have j1 : _ = some (.int .i64 s : Value) := hJ.cell 1; have j2 : _ = some (.int .i64 d : Value) := hJ.cell 2; go_wp2_with fail)
    go_ret2
    exact ⟨by simp [snV, snG, h1], hb⟩
  obtain ⟨b1, b2, b3, b4, b5⟩ := prB_true h1
  clear b4 b5
  cases h2 : jobB ⟨i, s, d⟩
  · (go_enter Try.func35, Try.ntmps35; go_wp2_with fail; refine (prGood_any hr1 hn0).mono ?_; rintro e1 w1 ⟨rfl, hn⟩; replace hb := hb.trans (hn.mono hb.size); replace hP := hP.below hn hP.lt; replace hJ := hJ.below hn hJ.lt; replace hr1 := (RInts.below hr1 hn).more hn.size; clear hn; have p0 : _ = some (.int .i64 a : Value) := hP.cell 0; have p1 : _ = some (.int .i64 b : Value) := hP.cell 1; have p2 : _ = some (.int .i64 c : Value) := hP.cell 2; have p3 : _ = some (.slice A n cp : Value) := hP.cell 3; have j0 : _ = some (.int .i64 i : Value) := hJ.cell 0; have j1 : _ = some (.int .i64 s : Value) := hJ.cell 1; have j2 : _ = some (.int .i64 d : Value) := hJ.cell 2; go_wp2_with fail)
    (refine (prJob_any ⟨i, s, d⟩ _).mono ?_; rintro e1 w2 ⟨rfl, hn⟩; clear p0 p1 p2 p3 j0 j1 j2; replace hb := hb.trans (hn.mono hb.size); replace hP := hP.below hn hP.lt; replace hJ := hJ.below hn hJ.lt; replace hr1 := (RInts.below hr1 hn).more hn.size; clear hn; have p0 : _ = some (.int .i64 a : Value) := hP.cell 0; have p1 : _ = some (.int .i64 b : Value) := hP.cell 1; have p2 : _ = some (.int .i64 c : Value) := hP.cell 2; have p3 : _ = some (.slice A n cp : Value) := hP.cell 3; have j0 : _ = some (.int .i64 i : Value) := hJ.cell 0; have j1 : _ = some (.int .i64 s : Value) := hJ.cell 1; have j2 : _ = some (.int .i64 d : Value) := hJ.cell 2; go_wp2_with fail)
    go_ret2
    exact ⟨by simp [snV, snG, h2], hb⟩
  have f1 : 1 ≤ s ∧ s ≤ 20000 := (jobB_true h2).2.1
  (go_enter Try.func35, Try.ntmps35; go_wp2_with fail; refine (prGood_any hr1 hn0).mono ?_; rintro e1 w1 ⟨rfl, hn⟩; replace hb := hb.trans (hn.mono hb.size); replace hP := hP.below hn hP.lt; replace hJ := hJ.below hn hJ.lt; replace hr1 := (RInts.below hr1 hn).more hn.size; clear hn; have p0 : _ = some (.int .i64 a : Value) := hP.cell 0; have p1 : _ = some (.int .i64 b : Value) := hP.cell 1; have p2 : _ = some (.int .i64 c : Value) := hP.cell 2; have p3 : _ = some (.slice A n cp : Value) := hP.cell 3; have j0 : _ = some (.int .i64 i : Value) := hJ.cell 0; have j1 : _ = some (.int .i64 s : Value) := hJ.cell 1; have j2 : _ = some (.int .i64 d : Value) := hJ.cell 2; go_wp2_with fail)
  (refine (prJob_any ⟨i, s, d⟩ _).mono ?_; rintro e1 w2 ⟨rfl, hn⟩; clear p0 p1 p2 p3 j0 j1 j2; replace hb := hb.trans (hn.mono hb.size); replace hP := hP.below hn hP.lt; replace hJ := hJ.below hn hJ.lt; replace hr1 := (RInts.below hr1 hn).more hn.size; clear hn; have p0 : _ = some (.int .i64 a : Value) := hP.cell 0; have p1 : _ = some (.int .i64 b : Value) := hP.cell 1; have p2 : _ = some (.int .i64 c : Value) := hP.cell 2; have p3 : _ = some (.slice A n cp : Value) := hP.cell 3; have j0 : _ = some (.int .i64 i : Value) := hJ.cell 0; have j1 : _ = some (.int .i64 s : Value) := hJ.cell 1; have j2 : _ = some (.int .i64 d : Value) := hJ.cell 2; go_wp2_with fail)
  clear p0 p1 p2 p3 j0 j1 j2
  refine (prNeeded_any b3 f1).mono ?_
  rintro e1 w3 ⟨rfl, hn⟩
  replace hb := hb.trans (hn.mono hb.size); replace hP := hP.below hn hP.lt; replace hJ := hJ.below hn hJ.lt; replace hr1 := (RInts.below hr1 hn).more hn.size; clear hn
  go_wp2_with fail
  go_ret2
  exact ⟨by simp [snV, snG, h1, h2], hb⟩
theorem sheetsNeeded_impl {a b c i s d : Int} {A : Option Addr} {n cp : Nat} {xs : List Int} {w : World} (hr : RInts w w.heap.size A n xs) (hn0 : n ≤ 1048576) (_ : -9223372036854775808 ≤ i ∧ i ≤ 9223372036854775807) (_ : -9223372036854775808 ≤ s ∧ s ≤ 9223372036854775807) (_ : -9223372036854775808 ≤ d ∧ d ≤ 9223372036854775807) :
    Calls Try.prog 37 #[.agg #[.int .i64 a, .int .i64 b, .int .i64 c, .slice A n cp], .agg #[.int .i64 i, .int .i64 s, .int .i64 d]] w fun e w' => e = .returned (.tuple #[.int .i64 (snV a b c xs i s d), .bool (snG a b c xs i s d)]) ∧ Below w.heap.size w w' := by
  have HL := Lib.hid hr.len
  have hP := (Blk.new' w 34 #[.int .i64 a, .int .i64 b, .int .i64 c, .slice A n cp]).alloc (.cells #[.int .i64 i, .int .i64 s, .int .i64 d] 52); have hJ : Blk ((w.alloc (.cells #[.int .i64 a, .int .i64 b, .int .i64 c, .slice A n cp] 34)).alloc (.cells #[.int .i64 i, .int .i64 s, .int .i64 d] 52)) (w.heap.size + 1) 52 [.int .i64 i, .int .i64 s, .int .i64 d] := (by simpa using Blk.new' (w.alloc (.cells #[.int .i64 a, .int .i64 b, .int .i64 c, .slice A n cp] 34)) 52 #[.int .i64 i, .int .i64 s, .int .i64 d]); have hb : Below w.heap.size w ((w.alloc (.cells #[.int .i64 a, .int .i64 b, .int .i64 c, .slice A n cp] 34)).alloc (.cells #[.int .i64 i, .int .i64 s, .int .i64 d] 52)) := (by (repeat (first | exact Below.refl _ _ | exact hb | apply Below.drew | (refine Below.alloc ?_ (by first | (simp; done) | (simp; omega) | (have := hb.size; simp at this ⊢; omega)) _) | (refine Below.setCell ?_ (by simp) _)))); have hr1 := ((hr.alloc (Nat.le_refl _) (.cells #[.int .i64 a, .int .i64 b, .int .i64 c, .slice A n cp] 34)).alloc (by simp) (.cells #[.int .i64 i, .int .i64 s, .int .i64 d] 52)).more (B' := ((w.alloc (.cells #[.int .i64 a, .int .i64 b, .int .i64 c, .slice A n cp] 34)).alloc (.cells #[.int .i64 i, .int .i64 s, .int .i64 d] 52)).heap.size) (by simp <;> omega)
  cases h1 : prB a b c xs
  · (go_enter Try.func37, Try.ntmps37; go_wp2_with fail; refine (isPress_any hr1 hn0).mono ?_; rintro e1 w1 ⟨rfl, hn⟩; replace hb := hb.trans (hn.mono hb.size); replace hP := hP.below hn hP.lt; replace hJ := hJ.below hn hJ.lt; replace hr1 := (RInts.below hr1 hn).more hn.size; clear hn; have p0 : _ = some (.int .i64 a : Value) := hP.cell 0; have p1 : _ = some (.int .i64 b : Value) := hP.cell 1; have p2 : _ = some (.int .i64 c : Value) := hP.cell 2; have p3 : _ = some (.slice A n cp : Value) := hP.cell 3; have j0 : _ = some (.int .i64 i : Value) := hJ.cell 0; have j1 : _ = some (.int .i64 s : Value) := hJ.cell 1; have j2 : _ = some (.int .i64 d : Value) := hJ.cell 2; go_wp2_with fail)
    go_ret2
    exact ⟨by simp [snV, snG, h1], hb⟩
  obtain ⟨b1, b2, b3, b4, b5⟩ := prB_true h1
  clear b4 b5
  cases h2 : jobB ⟨i, s, d⟩
  · (go_enter Try.func37, Try.ntmps37; go_wp2_with fail; refine (isPress_any hr1 hn0).mono ?_; rintro e1 w1 ⟨rfl, hn⟩; replace hb := hb.trans (hn.mono hb.size); replace hP := hP.below hn hP.lt; replace hJ := hJ.below hn hJ.lt; replace hr1 := (RInts.below hr1 hn).more hn.size; clear hn; have p0 : _ = some (.int .i64 a : Value) := hP.cell 0; have p1 : _ = some (.int .i64 b : Value) := hP.cell 1; have p2 : _ = some (.int .i64 c : Value) := hP.cell 2; have p3 : _ = some (.slice A n cp : Value) := hP.cell 3; have j0 : _ = some (.int .i64 i : Value) := hJ.cell 0; have j1 : _ = some (.int .i64 s : Value) := hJ.cell 1; have j2 : _ = some (.int .i64 d : Value) := hJ.cell 2; go_wp2_with fail)
    (refine (isPressJob_any ⟨i, s, d⟩ _).mono ?_; rintro e1 w2 ⟨rfl, hn⟩; clear p0 p1 p2 p3 j0 j1 j2; replace hb := hb.trans (hn.mono hb.size); replace hP := hP.below hn hP.lt; replace hJ := hJ.below hn hJ.lt; replace hr1 := (RInts.below hr1 hn).more hn.size; clear hn; have p0 : _ = some (.int .i64 a : Value) := hP.cell 0; have p1 : _ = some (.int .i64 b : Value) := hP.cell 1; have p2 : _ = some (.int .i64 c : Value) := hP.cell 2; have p3 : _ = some (.slice A n cp : Value) := hP.cell 3; have j0 : _ = some (.int .i64 i : Value) := hJ.cell 0; have j1 : _ = some (.int .i64 s : Value) := hJ.cell 1; have j2 : _ = some (.int .i64 d : Value) := hJ.cell 2; go_wp2_with fail)
    go_ret2
    exact ⟨by simp [snV, snG, h2], hb⟩
  have f1 : 1 ≤ s ∧ s ≤ 20000 := (jobB_true h2).2.1
  (go_enter Try.func37, Try.ntmps37; go_wp2_with fail; refine (isPress_any hr1 hn0).mono ?_; rintro e1 w1 ⟨rfl, hn⟩; replace hb := hb.trans (hn.mono hb.size); replace hP := hP.below hn hP.lt; replace hJ := hJ.below hn hJ.lt; replace hr1 := (RInts.below hr1 hn).more hn.size; clear hn; have p0 : _ = some (.int .i64 a : Value) := hP.cell 0; have p1 : _ = some (.int .i64 b : Value) := hP.cell 1; have p2 : _ = some (.int .i64 c : Value) := hP.cell 2; have p3 : _ = some (.slice A n cp : Value) := hP.cell 3; have j0 : _ = some (.int .i64 i : Value) := hJ.cell 0; have j1 : _ = some (.int .i64 s : Value) := hJ.cell 1; have j2 : _ = some (.int .i64 d : Value) := hJ.cell 2; go_wp2_with fail)
  (refine (isPressJob_any ⟨i, s, d⟩ _).mono ?_; rintro e1 w2 ⟨rfl, hn⟩; clear p0 p1 p2 p3 j0 j1 j2; replace hb := hb.trans (hn.mono hb.size); replace hP := hP.below hn hP.lt; replace hJ := hJ.below hn hJ.lt; replace hr1 := (RInts.below hr1 hn).more hn.size; clear hn; have p0 : _ = some (.int .i64 a : Value) := hP.cell 0; have p1 : _ = some (.int .i64 b : Value) := hP.cell 1; have p2 : _ = some (.int .i64 c : Value) := hP.cell 2; have p3 : _ = some (.slice A n cp : Value) := hP.cell 3; have j0 : _ = some (.int .i64 i : Value) := hJ.cell 0; have j1 : _ = some (.int .i64 s : Value) := hJ.cell 1; have j2 : _ = some (.int .i64 d : Value) := hJ.cell 2; go_wp2_with fail)
  clear p0 p1 p2 p3 j0 j1 j2
  refine (sheets_any b3 f1).mono ?_
  rintro e1 w3 ⟨rfl, hn⟩
  replace hb := hb.trans (hn.mono hb.size); replace hP := hP.below hn hP.lt; replace hJ := hJ.below hn hJ.lt; replace hr1 := (RInts.below hr1 hn).more hn.size; clear hn
  go_wp2_with fail
  go_ret2
  exact ⟨by simp [snV, snG, h1, h2], hb⟩
theorem jobMinutes_spec {a b c i s d : Int} {A : Option Addr} {n cp : Nat} {xs : List Int} {w : World} (hr : RInts w w.heap.size A n xs) (hn0 : n ≤ 1048576) (_ : -9223372036854775808 ≤ i ∧ i ≤ 9223372036854775807) (_ : -9223372036854775808 ≤ s ∧ s ≤ 9223372036854775807) (_ : -9223372036854775808 ≤ d ∧ d ≤ 9223372036854775807) :
    Calls Try.prog 38 #[.agg #[.int .i64 a, .int .i64 b, .int .i64 c, .slice A n cp], .agg #[.int .i64 i, .int .i64 s, .int .i64 d]] w fun e w' => e = .returned (.tuple #[.int .i64 (jmV a b c xs i s d), .bool (snG a b c xs i s d)]) ∧ Below w.heap.size w w' := by
  have HL := Lib.hid hr.len
  have hP := (Blk.new' w 34 #[.int .i64 a, .int .i64 b, .int .i64 c, .slice A n cp]).alloc (.cells #[.int .i64 i, .int .i64 s, .int .i64 d] 52); have hJ : Blk ((w.alloc (.cells #[.int .i64 a, .int .i64 b, .int .i64 c, .slice A n cp] 34)).alloc (.cells #[.int .i64 i, .int .i64 s, .int .i64 d] 52)) (w.heap.size + 1) 52 [.int .i64 i, .int .i64 s, .int .i64 d] := (by simpa using Blk.new' (w.alloc (.cells #[.int .i64 a, .int .i64 b, .int .i64 c, .slice A n cp] 34)) 52 #[.int .i64 i, .int .i64 s, .int .i64 d]); have hb : Below w.heap.size w ((w.alloc (.cells #[.int .i64 a, .int .i64 b, .int .i64 c, .slice A n cp] 34)).alloc (.cells #[.int .i64 i, .int .i64 s, .int .i64 d] 52)) := (by (repeat (first | exact Below.refl _ _ | exact hb | apply Below.drew | (refine Below.alloc ?_ (by first | (simp; done) | (simp; omega) | (have := hb.size; simp at this ⊢; omega)) _) | (refine Below.setCell ?_ (by simp) _)))); have hr1 := ((hr.alloc (Nat.le_refl _) (.cells #[.int .i64 a, .int .i64 b, .int .i64 c, .slice A n cp] 34)).alloc (by simp) (.cells #[.int .i64 i, .int .i64 s, .int .i64 d] 52)).more (B' := ((w.alloc (.cells #[.int .i64 a, .int .i64 b, .int .i64 c, .slice A n cp] 34)).alloc (.cells #[.int .i64 i, .int .i64 s, .int .i64 d] 52)).heap.size) (by simp <;> omega)
  cases h1 : prB a b c xs
  · (go_enter Try.func38, Try.ntmps38; go_wp2_with fail; refine (prGood_any hr1 hn0).mono ?_; rintro e1 w1 ⟨rfl, hn⟩; replace hb := hb.trans (hn.mono hb.size); replace hP := hP.below hn hP.lt; replace hJ := hJ.below hn hJ.lt; replace hr1 := (RInts.below hr1 hn).more hn.size; clear hn; have p0 : _ = some (.int .i64 a : Value) := hP.cell 0; have p1 : _ = some (.int .i64 b : Value) := hP.cell 1; have p2 : _ = some (.int .i64 c : Value) := hP.cell 2; have p3 : _ = some (.slice A n cp : Value) := hP.cell 3; have j0 : _ = some (.int .i64 i : Value) := hJ.cell 0; have j1 : _ = some (.int .i64 s : Value) := hJ.cell 1; have j2 : _ = some (.int .i64 d : Value) := hJ.cell 2; go_wp2_with fail)
    go_ret2
    exact ⟨by simp [jmV, snG, h1], hb⟩
  obtain ⟨b1, b2, b3, b4, b5⟩ := prB_true h1
  clear b4 b5
  cases h2 : jobB ⟨i, s, d⟩
  · (go_enter Try.func38, Try.ntmps38; go_wp2_with fail; refine (prGood_any hr1 hn0).mono ?_; rintro e1 w1 ⟨rfl, hn⟩; replace hb := hb.trans (hn.mono hb.size); replace hP := hP.below hn hP.lt; replace hJ := hJ.below hn hJ.lt; replace hr1 := (RInts.below hr1 hn).more hn.size; clear hn; have p0 : _ = some (.int .i64 a : Value) := hP.cell 0; have p1 : _ = some (.int .i64 b : Value) := hP.cell 1; have p2 : _ = some (.int .i64 c : Value) := hP.cell 2; have p3 : _ = some (.slice A n cp : Value) := hP.cell 3; have j0 : _ = some (.int .i64 i : Value) := hJ.cell 0; have j1 : _ = some (.int .i64 s : Value) := hJ.cell 1; have j2 : _ = some (.int .i64 d : Value) := hJ.cell 2; go_wp2_with fail)
    (refine (prJob_any ⟨i, s, d⟩ _).mono ?_; rintro e1 w2 ⟨rfl, hn⟩; clear p0 p1 p2 p3 j0 j1 j2; replace hb := hb.trans (hn.mono hb.size); replace hP := hP.below hn hP.lt; replace hJ := hJ.below hn hJ.lt; replace hr1 := (RInts.below hr1 hn).more hn.size; clear hn; have p0 : _ = some (.int .i64 a : Value) := hP.cell 0; have p1 : _ = some (.int .i64 b : Value) := hP.cell 1; have p2 : _ = some (.int .i64 c : Value) := hP.cell 2; have p3 : _ = some (.slice A n cp : Value) := hP.cell 3; have j0 : _ = some (.int .i64 i : Value) := hJ.cell 0; have j1 : _ = some (.int .i64 s : Value) := hJ.cell 1; have j2 : _ = some (.int .i64 d : Value) := hJ.cell 2; go_wp2_with fail)
    go_ret2
    exact ⟨by simp [jmV, snG, h2], hb⟩
  have f1 : 1 ≤ s ∧ s ≤ 20000 := (jobB_true h2).2.1
  (go_enter Try.func38, Try.ntmps38; go_wp2_with fail; refine (prGood_any hr1 hn0).mono ?_; rintro e1 w1 ⟨rfl, hn⟩; replace hb := hb.trans (hn.mono hb.size); replace hP := hP.below hn hP.lt; replace hJ := hJ.below hn hJ.lt; replace hr1 := (RInts.below hr1 hn).more hn.size; clear hn; have p0 : _ = some (.int .i64 a : Value) := hP.cell 0; have p1 : _ = some (.int .i64 b : Value) := hP.cell 1; have p2 : _ = some (.int .i64 c : Value) := hP.cell 2; have p3 : _ = some (.slice A n cp : Value) := hP.cell 3; have j0 : _ = some (.int .i64 i : Value) := hJ.cell 0; have j1 : _ = some (.int .i64 s : Value) := hJ.cell 1; have j2 : _ = some (.int .i64 d : Value) := hJ.cell 2; go_wp2_with fail)
  (refine (prJob_any ⟨i, s, d⟩ _).mono ?_; rintro e1 w2 ⟨rfl, hn⟩; clear p0 p1 p2 p3 j0 j1 j2; replace hb := hb.trans (hn.mono hb.size); replace hP := hP.below hn hP.lt; replace hJ := hJ.below hn hJ.lt; replace hr1 := (RInts.below hr1 hn).more hn.size; clear hn; have p0 : _ = some (.int .i64 a : Value) := hP.cell 0; have p1 : _ = some (.int .i64 b : Value) := hP.cell 1; have p2 : _ = some (.int .i64 c : Value) := hP.cell 2; have p3 : _ = some (.slice A n cp : Value) := hP.cell 3; have j0 : _ = some (.int .i64 i : Value) := hJ.cell 0; have j1 : _ = some (.int .i64 s : Value) := hJ.cell 1; have j2 : _ = some (.int .i64 d : Value) := hJ.cell 2; go_wp2_with fail)
  clear p0 p1 p2 p3 j0 j1 j2
  refine (prMinutes_any b1 b2 b3 f1).mono ?_
  rintro e1 w3 ⟨rfl, hn⟩
  replace hb := hb.trans (hn.mono hb.size); replace hP := hP.below hn hP.lt; replace hJ := hJ.below hn hJ.lt; replace hr1 := (RInts.below hr1 hn).more hn.size; clear hn
  go_wp2_with fail
  go_ret2
  exact ⟨by simp [jmV, snG, h1, h2], hb⟩
theorem jobMinutes_impl {a b c i s d : Int} {A : Option Addr} {n cp : Nat} {xs : List Int} {w : World} (hr : RInts w w.heap.size A n xs) (hn0 : n ≤ 1048576) (_ : -9223372036854775808 ≤ i ∧ i ≤ 9223372036854775807) (_ : -9223372036854775808 ≤ s ∧ s ≤ 9223372036854775807) (_ : -9223372036854775808 ≤ d ∧ d ≤ 9223372036854775807) :
    Calls Try.prog 39 #[.agg #[.int .i64 a, .int .i64 b, .int .i64 c, .slice A n cp], .agg #[.int .i64 i, .int .i64 s, .int .i64 d]] w fun e w' => e = .returned (.tuple #[.int .i64 (jmV a b c xs i s d), .bool (snG a b c xs i s d)]) ∧ Below w.heap.size w w' := by
  have HL := Lib.hid hr.len
  have hP := (Blk.new' w 34 #[.int .i64 a, .int .i64 b, .int .i64 c, .slice A n cp]).alloc (.cells #[.int .i64 i, .int .i64 s, .int .i64 d] 52); have hJ : Blk ((w.alloc (.cells #[.int .i64 a, .int .i64 b, .int .i64 c, .slice A n cp] 34)).alloc (.cells #[.int .i64 i, .int .i64 s, .int .i64 d] 52)) (w.heap.size + 1) 52 [.int .i64 i, .int .i64 s, .int .i64 d] := (by simpa using Blk.new' (w.alloc (.cells #[.int .i64 a, .int .i64 b, .int .i64 c, .slice A n cp] 34)) 52 #[.int .i64 i, .int .i64 s, .int .i64 d]); have hb : Below w.heap.size w ((w.alloc (.cells #[.int .i64 a, .int .i64 b, .int .i64 c, .slice A n cp] 34)).alloc (.cells #[.int .i64 i, .int .i64 s, .int .i64 d] 52)) := (by (repeat (first | exact Below.refl _ _ | exact hb | apply Below.drew | (refine Below.alloc ?_ (by first | (simp; done) | (simp; omega) | (have := hb.size; simp at this ⊢; omega)) _) | (refine Below.setCell ?_ (by simp) _)))); have hr1 := ((hr.alloc (Nat.le_refl _) (.cells #[.int .i64 a, .int .i64 b, .int .i64 c, .slice A n cp] 34)).alloc (by simp) (.cells #[.int .i64 i, .int .i64 s, .int .i64 d] 52)).more (B' := ((w.alloc (.cells #[.int .i64 a, .int .i64 b, .int .i64 c, .slice A n cp] 34)).alloc (.cells #[.int .i64 i, .int .i64 s, .int .i64 d] 52)).heap.size) (by simp <;> omega)
  cases h1 : prB a b c xs
  · (go_enter Try.func39, Try.ntmps39; go_wp2_with fail; refine (isPress_any hr1 hn0).mono ?_; rintro e1 w1 ⟨rfl, hn⟩; replace hb := hb.trans (hn.mono hb.size); replace hP := hP.below hn hP.lt; replace hJ := hJ.below hn hJ.lt; replace hr1 := (RInts.below hr1 hn).more hn.size; clear hn; have p0 : _ = some (.int .i64 a : Value) := hP.cell 0; have p1 : _ = some (.int .i64 b : Value) := hP.cell 1; have p2 : _ = some (.int .i64 c : Value) := hP.cell 2; have p3 : _ = some (.slice A n cp : Value) := hP.cell 3; have j0 : _ = some (.int .i64 i : Value) := hJ.cell 0; have j1 : _ = some (.int .i64 s : Value) := hJ.cell 1; have j2 : _ = some (.int .i64 d : Value) := hJ.cell 2; go_wp2_with fail)
    go_ret2
    exact ⟨by simp [jmV, snG, h1], hb⟩
  obtain ⟨b1, b2, b3, b4, b5⟩ := prB_true h1
  clear b4 b5
  cases h2 : jobB ⟨i, s, d⟩
  · (go_enter Try.func39, Try.ntmps39; go_wp2_with fail; refine (isPress_any hr1 hn0).mono ?_; rintro e1 w1 ⟨rfl, hn⟩; replace hb := hb.trans (hn.mono hb.size); replace hP := hP.below hn hP.lt; replace hJ := hJ.below hn hJ.lt; replace hr1 := (RInts.below hr1 hn).more hn.size; clear hn; have p0 : _ = some (.int .i64 a : Value) := hP.cell 0; have p1 : _ = some (.int .i64 b : Value) := hP.cell 1; have p2 : _ = some (.int .i64 c : Value) := hP.cell 2; have p3 : _ = some (.slice A n cp : Value) := hP.cell 3; have j0 : _ = some (.int .i64 i : Value) := hJ.cell 0; have j1 : _ = some (.int .i64 s : Value) := hJ.cell 1; have j2 : _ = some (.int .i64 d : Value) := hJ.cell 2; go_wp2_with fail)
    (refine (isPressJob_any ⟨i, s, d⟩ _).mono ?_; rintro e1 w2 ⟨rfl, hn⟩; clear p0 p1 p2 p3 j0 j1 j2; replace hb := hb.trans (hn.mono hb.size); replace hP := hP.below hn hP.lt; replace hJ := hJ.below hn hJ.lt; replace hr1 := (RInts.below hr1 hn).more hn.size; clear hn; have p0 : _ = some (.int .i64 a : Value) := hP.cell 0; have p1 : _ = some (.int .i64 b : Value) := hP.cell 1; have p2 : _ = some (.int .i64 c : Value) := hP.cell 2; have p3 : _ = some (.slice A n cp : Value) := hP.cell 3; have j0 : _ = some (.int .i64 i : Value) := hJ.cell 0; have j1 : _ = some (.int .i64 s : Value) := hJ.cell 1; have j2 : _ = some (.int .i64 d : Value) := hJ.cell 2; go_wp2_with fail)
    go_ret2
    exact ⟨by simp [jmV, snG, h2], hb⟩
  have f1 : 1 ≤ s ∧ s ≤ 20000 := (jobB_true h2).2.1
  (go_enter Try.func39, Try.ntmps39; go_wp2_with fail; refine (isPress_any hr1 hn0).mono ?_; rintro e1 w1 ⟨rfl, hn⟩; replace hb := hb.trans (hn.mono hb.size); replace hP := hP.below hn hP.lt; replace hJ := hJ.below hn hJ.lt; replace hr1 := (RInts.below hr1 hn).more hn.size; clear hn; have p0 : _ = some (.int .i64 a : Value) := hP.cell 0; have p1 : _ = some (.int .i64 b : Value) := hP.cell 1; have p2 : _ = some (.int .i64 c : Value) := hP.cell 2; have p3 : _ = some (.slice A n cp : Value) := hP.cell 3; have j0 : _ = some (.int .i64 i : Value) := hJ.cell 0; have j1 : _ = some (.int .i64 s : Value) := hJ.cell 1; have j2 : _ = some (.int .i64 d : Value) := hJ.cell 2; go_wp2_with fail)
  (refine (isPressJob_any ⟨i, s, d⟩ _).mono ?_; rintro e1 w2 ⟨rfl, hn⟩; clear p0 p1 p2 p3 j0 j1 j2; replace hb := hb.trans (hn.mono hb.size); replace hP := hP.below hn hP.lt; replace hJ := hJ.below hn hJ.lt; replace hr1 := (RInts.below hr1 hn).more hn.size; clear hn; have p0 : _ = some (.int .i64 a : Value) := hP.cell 0; have p1 : _ = some (.int .i64 b : Value) := hP.cell 1; have p2 : _ = some (.int .i64 c : Value) := hP.cell 2; have p3 : _ = some (.slice A n cp : Value) := hP.cell 3; have j0 : _ = some (.int .i64 i : Value) := hJ.cell 0; have j1 : _ = some (.int .i64 s : Value) := hJ.cell 1; have j2 : _ = some (.int .i64 d : Value) := hJ.cell 2; go_wp2_with fail)
  clear p0 p1 p2 p3 j0 j1 j2
  refine (minutes_any b1 b2 b3 f1).mono ?_
  rintro e1 w3 ⟨rfl, hn⟩
  replace hb := hb.trans (hn.mono hb.size); replace hP := hP.below hn hP.lt; replace hJ := hJ.below hn hJ.lt; replace hr1 := (RInts.below hr1 hn).more hn.size; clear hn
  go_wp2_with fail
  go_ret2
  exact ⟨by simp [jmV, snG, h1, h2], hb⟩
def sumN (c : Int) : List PJob → Int
  | [] => 0
  | m :: r => need c m.sheets + sumN c r
theorem allJ_mem {ms : List PJob} (h : allJ ms = true) : ∀ m ∈ ms, jobB m = true := by
  induction ms with
  | nil => simp
  | cons y r ih =>
    simp only [allJ, Bool.and_eq_true] at h
    intro x hx
    rcases List.mem_cons.1 hx with rfl | hx
    · exact h.1
    · exact ih h.2 x hx
theorem jobsB_true {ms : List PJob} (h : jobsB ms = true) : ms.length ≤ 7 ∧ ∀ m ∈ ms, (0 ≤ m.ink ∧ m.ink ≤ 4) ∧ (1 ≤ m.sheets ∧ m.sheets ≤ 20000) ∧ (0 ≤ m.due ∧ m.due ≤ 100000) := by
  simp only [jobsB, Bool.and_eq_true, decide_eq_true_eq] at h
  exact ⟨h.2, fun m hm => jobB_true (allJ_mem h.1 m hm)⟩
def pfG (a b c : Int) (xs : List Int) (ms : List PJob) : Bool := prB a b c xs && jobsB ms
def pfV (a b c : Int) (xs : List Int) (ms : List PJob) : Int := if pfG a b c xs ms then sumN c ms else 0
theorem paperFor_spec {a b c : Int} {A B : Option Addr} {n cp q cq : Nat} {xs : List Int} {ms : List PJob} {w : World} (hr : RInts w w.heap.size A n xs) (hn0 : n ≤ 1048576) (hs : RPJobs w w.heap.size B q ms) (hq0 : q ≤ 1048576) :
    Calls Try.prog 40 #[.agg #[.int .i64 a, .int .i64 b, .int .i64 c, .slice A n cp], .slice B q cq] w fun e w' => e = .returned (.tuple #[.int .i64 (pfV a b c xs ms), .bool (pfG a b c xs ms)]) ∧ Below w.heap.size w w' := by
  have HS := Lib.hid hs.len
  have hP := Blk.new' w 34 #[.int .i64 a, .int .i64 b, .int .i64 c, .slice A n cp]; have hb : Below w.heap.size w (w.alloc (.cells #[.int .i64 a, .int .i64 b, .int .i64 c, .slice A n cp] 34)) := (by (repeat (first | exact Below.refl _ _ | exact hb | apply Below.drew | (refine Below.alloc ?_ (by first | (simp; done) | (simp; omega) | (have := hb.size; simp at this ⊢; omega)) _) | (refine Below.setCell ?_ (by simp) _)))); have hr1 := (hr.alloc (Nat.le_refl _) (.cells #[.int .i64 a, .int .i64 b, .int .i64 c, .slice A n cp] 34)).more (B' := (w.alloc (.cells #[.int .i64 a, .int .i64 b, .int .i64 c, .slice A n cp] 34)).heap.size) (by simp <;> omega); have hs1 := (RRow.alloc hs (Nat.le_refl _) (.cells #[.int .i64 a, .int .i64 b, .int .i64 c, .slice A n cp] 34)).more (B' := (w.alloc (.cells #[.int .i64 a, .int .i64 b, .int .i64 c, .slice A n cp] 34)).heap.size) (by simp <;> omega)
  cases h1 : prB a b c xs
  · (go_enter Try.func40, Try.ntmps40; go_wp2_with fail; refine (prGood_any hr1 hn0).mono ?_; rintro e1 w1 ⟨rfl, hn⟩; replace hb := hb.trans (hn.mono hb.size); replace hP := hP.below hn hP.lt; replace hs1 := (RPJobs.below hs1 hn).more hn.size; clear hn; clear hr1; have p0 : _ = some (.int .i64 a : Value) := hP.cell 0; have p1 : _ = some (.int .i64 b : Value) := hP.cell 1; have p2 : _ = some (.int .i64 c : Value) := hP.cell 2; have p3 : _ = some (.slice A n cp : Value) := hP.cell 3; go_wp2_with fail)
    go_ret2
    exact ⟨by simp [pfV, pfG, h1], hb⟩
  obtain ⟨b1, b2, b3, b4, b5⟩ := prB_true h1
  clear b4 b5
  cases h2 : jobsB ms
  · (go_enter Try.func40, Try.ntmps40; go_wp2_with fail; refine (prGood_any hr1 hn0).mono ?_; rintro e1 w1 ⟨rfl, hn⟩; replace hb := hb.trans (hn.mono hb.size); replace hP := hP.below hn hP.lt; replace hs1 := (RPJobs.below hs1 hn).more hn.size; clear hn; clear hr1; have p0 : _ = some (.int .i64 a : Value) := hP.cell 0; have p1 : _ = some (.int .i64 b : Value) := hP.cell 1; have p2 : _ = some (.int .i64 c : Value) := hP.cell 2; have p3 : _ = some (.slice A n cp : Value) := hP.cell 3; go_wp2_with fail)
    (refine (prJobs_any hs1 hq0).mono ?_; rintro e1 w2 ⟨rfl, hn⟩; clear p0 p1 p2 p3; replace hb := hb.trans (hn.mono hb.size); replace hP := hP.below hn hP.lt; replace hs1 := (RPJobs.below hs1 hn).more hn.size; clear hn)
    go_wp2_with fail
    go_ret2
    exact ⟨by simp [pfV, pfG, h2], hb⟩
  obtain ⟨m7, hm⟩ := jobsB_true h2
  have HM := Lib.hid hm; clear hm
  have q7 : q ≤ 7 := by have := HS.out; omega
  (go_enter Try.func40, Try.ntmps40; go_wp2_with fail; refine (prGood_any hr1 hn0).mono ?_; rintro e1 w1 ⟨rfl, hn⟩; replace hb := hb.trans (hn.mono hb.size); replace hP := hP.below hn hP.lt; replace hs1 := (RPJobs.below hs1 hn).more hn.size; clear hn; clear hr1; have p0 : _ = some (.int .i64 a : Value) := hP.cell 0; have p1 : _ = some (.int .i64 b : Value) := hP.cell 1; have p2 : _ = some (.int .i64 c : Value) := hP.cell 2; have p3 : _ = some (.slice A n cp : Value) := hP.cell 3; go_wp2_with fail)
  (refine (prJobs_any hs1 hq0).mono ?_; rintro e1 w2 ⟨rfl, hn⟩; clear p0 p1 p2 p3; replace hb := hb.trans (hn.mono hb.size); replace hP := hP.below hn hP.lt; replace hs1 := (RPJobs.below hs1 hn).more hn.size; clear hn)
  go_wp2_with fail
  go_loopw [6, 19] (fun v u wr => ∃ (k : Nat) (t : Int), k ≤ q ∧ u = .int .i64 k ∧ v = .int .i64 t ∧ 0 ≤ t ∧ t ≤ 50000 * k ∧ t + sumN c (ms.drop k) = sumN c ms ∧ Blk wr w.heap.size 34 [.int .i64 a, .int .i64 b, .int .i64 c, .slice A n cp] ∧ RPJobs wr w2.heap.size B q ms ∧ Below w.heap.size w wr ∧ w2.heap.size ≤ wr.heap.size) (fun _ u _ => q - (intOf u).toNat)
  case atStart => exact ⟨0, 0, Nat.zero_le _, rfl, rfl, by omega, by omega, by simp, hP, hs1, hb, Nat.le_refl _⟩
  case round =>
    clear hP hs1 hb
    obtain ⟨k, t, hk, rfl, rfl, t0, t1, hR, hP, hs1, hb, hz⟩ := hrel
    by_cases hlt : k < q
    · obtain ⟨bb, off, m, rfl, hbb, hd, hy, c0, c1, c2⟩ := RPJobs.at_ hs1 hlt
      have hmm := HM.out m (List.mem_of_getElem? hy)
      have hmb := hmm.2.1
      have hnb := need_bd (c := c) (x := m.sheets) b3 hmb.1
      have HR := Lib.hid (show t + need c m.sheets + sumN c (ms.drop (k + 1)) = sumN c ms by rw [← hR, hd, sumN]; omega)
      clear hR hd hy hmm
      have hPa := hP.alloc (.cells #[.int .i64 m.ink, .int .i64 m.sheets, .int .i64 m.due] 52)
      have p0 : _ = some (.int .i64 a : Value) := hPa.cell 0
      have p1 : _ = some (.int .i64 b : Value) := hPa.cell 1
      have p2 : _ = some (.int .i64 c : Value) := hPa.cell 2
      have p3 : _ = some (.slice A n cp : Value) := hPa.cell 3
      go_wp2_with fail
      refine (prNeeded_any b3 hmb).mono ?_
      rintro e1 w3 ⟨rfl, hn⟩
      replace hb := (hb.alloc hb.size _).trans (hn.mono (by have := hb.size; simp; omega))
      replace hP := hPa.below hn hPa.lt
      clear hPa
      replace hs1 := RPJobs.below (RRow.alloc hs1 hz _) (hn.mono (by simp; omega))
      have hz2 := hn.size
      simp only [World.size_alloc] at hz2
      clear hn c0 c1 c2
      clear p0 p1 p2 p3
      go_wp2_with fail
      go_roundw
      case rel => exact ⟨k + 1, t + need c m.sheets, by omega, by go_num, rfl, by omega, by omega, HR.out, hP, hs1, hb, by omega⟩
      case measure => simp [intOf]; omega
    · have HT := Lib.hid (show t = sumN c ms by rw [← hR, drop_end HS.out hlt]; simp [sumN])
      clear hR
      go_wp2_with fail
      go_ret2
      exact ⟨by simp [pfV, pfG, h1, h2, HT.out], hb⟩
theorem paperFor_impl {a b c : Int} {A B : Option Addr} {n cp q cq : Nat} {xs : List Int} {ms : List PJob} {w : World} (hr : RInts w w.heap.size A n xs) (hn0 : n ≤ 1048576) (hs : RPJobs w w.heap.size B q ms) (hq0 : q ≤ 1048576) :
    Calls Try.prog 41 #[.agg #[.int .i64 a, .int .i64 b, .int .i64 c, .slice A n cp], .slice B q cq] w fun e w' => e = .returned (.tuple #[.int .i64 (pfV a b c xs ms), .bool (pfG a b c xs ms)]) ∧ Below w.heap.size w w' := by
  have HS := Lib.hid hs.len
  have hP := Blk.new' w 34 #[.int .i64 a, .int .i64 b, .int .i64 c, .slice A n cp]; have hb : Below w.heap.size w (w.alloc (.cells #[.int .i64 a, .int .i64 b, .int .i64 c, .slice A n cp] 34)) := (by (repeat (first | exact Below.refl _ _ | exact hb | apply Below.drew | (refine Below.alloc ?_ (by first | (simp; done) | (simp; omega) | (have := hb.size; simp at this ⊢; omega)) _) | (refine Below.setCell ?_ (by simp) _)))); have hr1 := (hr.alloc (Nat.le_refl _) (.cells #[.int .i64 a, .int .i64 b, .int .i64 c, .slice A n cp] 34)).more (B' := (w.alloc (.cells #[.int .i64 a, .int .i64 b, .int .i64 c, .slice A n cp] 34)).heap.size) (by simp <;> omega); have hs1 := (RRow.alloc hs (Nat.le_refl _) (.cells #[.int .i64 a, .int .i64 b, .int .i64 c, .slice A n cp] 34)).more (B' := (w.alloc (.cells #[.int .i64 a, .int .i64 b, .int .i64 c, .slice A n cp] 34)).heap.size) (by simp <;> omega)
  cases h1 : prB a b c xs
  · (go_enter Try.func41, Try.ntmps41; go_wp2_with fail; refine (isPress_any hr1 hn0).mono ?_; rintro e1 w1 ⟨rfl, hn⟩; replace hb := hb.trans (hn.mono hb.size); replace hP := hP.below hn hP.lt; replace hs1 := (RPJobs.below hs1 hn).more hn.size; clear hn; clear hr1; have p0 : _ = some (.int .i64 a : Value) := hP.cell 0; have p1 : _ = some (.int .i64 b : Value) := hP.cell 1; have p2 : _ = some (.int .i64 c : Value) := hP.cell 2; have p3 : _ = some (.slice A n cp : Value) := hP.cell 3; go_wp2_with fail)
    go_ret2
    exact ⟨by simp [pfV, pfG, h1], hb⟩
  obtain ⟨b1, b2, b3, b4, b5⟩ := prB_true h1
  clear b4 b5
  cases h2 : jobsB ms
  · (go_enter Try.func41, Try.ntmps41; go_wp2_with fail; refine (isPress_any hr1 hn0).mono ?_; rintro e1 w1 ⟨rfl, hn⟩; replace hb := hb.trans (hn.mono hb.size); replace hP := hP.below hn hP.lt; replace hs1 := (RPJobs.below hs1 hn).more hn.size; clear hn; clear hr1; have p0 : _ = some (.int .i64 a : Value) := hP.cell 0; have p1 : _ = some (.int .i64 b : Value) := hP.cell 1; have p2 : _ = some (.int .i64 c : Value) := hP.cell 2; have p3 : _ = some (.slice A n cp : Value) := hP.cell 3; go_wp2_with fail)
    (refine (areJobs_any hs1 hq0).mono ?_; rintro e1 w2 ⟨rfl, hn⟩; clear p0 p1 p2 p3; replace hb := hb.trans (hn.mono hb.size); replace hP := hP.below hn hP.lt; replace hs1 := (RPJobs.below hs1 hn).more hn.size; clear hn)
    go_wp2_with fail
    go_ret2
    exact ⟨by simp [pfV, pfG, h2], hb⟩
  obtain ⟨m7, hm⟩ := jobsB_true h2
  have HM := Lib.hid hm; clear hm
  have q7 : q ≤ 7 := by have := HS.out; omega
  (go_enter Try.func41, Try.ntmps41; go_wp2_with fail; refine (isPress_any hr1 hn0).mono ?_; rintro e1 w1 ⟨rfl, hn⟩; replace hb := hb.trans (hn.mono hb.size); replace hP := hP.below hn hP.lt; replace hs1 := (RPJobs.below hs1 hn).more hn.size; clear hn; clear hr1; have p0 : _ = some (.int .i64 a : Value) := hP.cell 0; have p1 : _ = some (.int .i64 b : Value) := hP.cell 1; have p2 : _ = some (.int .i64 c : Value) := hP.cell 2; have p3 : _ = some (.slice A n cp : Value) := hP.cell 3; go_wp2_with fail)
  (refine (areJobs_any hs1 hq0).mono ?_; rintro e1 w2 ⟨rfl, hn⟩; clear p0 p1 p2 p3; replace hb := hb.trans (hn.mono hb.size); replace hP := hP.below hn hP.lt; replace hs1 := (RPJobs.below hs1 hn).more hn.size; clear hn)
  go_wp2_with fail
  go_loopw [6, 19] (fun v u wr => ∃ (k : Nat) (t : Int), k ≤ q ∧ u = .int .i64 k ∧ v = .int .i64 t ∧ 0 ≤ t ∧ t ≤ 50000 * k ∧ t + sumN c (ms.drop k) = sumN c ms ∧ Blk wr w.heap.size 34 [.int .i64 a, .int .i64 b, .int .i64 c, .slice A n cp] ∧ RPJobs wr w2.heap.size B q ms ∧ Below w.heap.size w wr ∧ w2.heap.size ≤ wr.heap.size) (fun _ u _ => q - (intOf u).toNat)
  case atStart => exact ⟨0, 0, Nat.zero_le _, rfl, rfl, by omega, by omega, by simp, hP, hs1, hb, Nat.le_refl _⟩
  case round =>
    clear hP hs1 hb
    obtain ⟨k, t, hk, rfl, rfl, t0, t1, hR, hP, hs1, hb, hz⟩ := hrel
    by_cases hlt : k < q
    · obtain ⟨bb, off, m, rfl, hbb, hd, hy, c0, c1, c2⟩ := RPJobs.at_ hs1 hlt
      have hmm := HM.out m (List.mem_of_getElem? hy)
      have hmb := hmm.2.1
      have hnb := need_bd (c := c) (x := m.sheets) b3 hmb.1
      have HR := Lib.hid (show t + need c m.sheets + sumN c (ms.drop (k + 1)) = sumN c ms by rw [← hR, hd, sumN]; omega)
      clear hR hd hy hmm
      have hPa := hP.alloc (.cells #[.int .i64 m.ink, .int .i64 m.sheets, .int .i64 m.due] 52)
      have p0 : _ = some (.int .i64 a : Value) := hPa.cell 0
      have p1 : _ = some (.int .i64 b : Value) := hPa.cell 1
      have p2 : _ = some (.int .i64 c : Value) := hPa.cell 2
      have p3 : _ = some (.slice A n cp : Value) := hPa.cell 3
      go_wp2_with fail
      refine (sheets_any b3 hmb).mono ?_
      rintro e1 w3 ⟨rfl, hn⟩
      replace hb := (hb.alloc hb.size _).trans (hn.mono (by have := hb.size; simp; omega))
      replace hP := hPa.below hn hPa.lt
      clear hPa
      replace hs1 := RPJobs.below (RRow.alloc hs1 hz _) (hn.mono (by simp; omega))
      have hz2 := hn.size
      simp only [World.size_alloc] at hz2
      clear hn c0 c1 c2
      clear p0 p1 p2 p3
      go_wp2_with fail
      go_roundw
      case rel => exact ⟨k + 1, t + need c m.sheets, by omega, by go_num, rfl, by omega, by omega, HR.out, hP, hs1, hb, by omega⟩
      case measure => simp [intOf]; omega
    · have HT := Lib.hid (show t = sumN c ms by rw [← hR, drop_end HS.out hlt]; simp [sumN])
      clear hR
      go_wp2_with fail
      go_ret2
      exact ⟨by simp [pfV, pfG, h1, h2, HT.out], hb⟩
end Go.Proofs.Ytfgnjokiadlieaa
