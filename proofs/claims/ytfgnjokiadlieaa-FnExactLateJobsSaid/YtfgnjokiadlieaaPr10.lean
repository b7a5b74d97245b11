/-
  Contracts: WashingIn and PressEnds.
-/
import Derived.Test.YtfgnjokiadlieaaPr9
namespace Go.Proofs.Ytfgnjokiadlieaa
open Go.RowKit
def allEnds (a b c ink : Int) (xs : List Int) (ms : List PJob) (os : List Int) : List Int × Int := endsL xs ms (timesL a b c ms) os ink 0 0
def wiV (a b c ink : Int) (xs : List Int) (ms : List PJob) (os : List Int) : Int := if askB a b c xs ink ms os then (allEnds a b c ink xs ms os).2 else 0
def peV (a b c ink : Int) (xs : List Int) (ms : List PJob) (os : List Int) : List Int := if askB a b c xs ink ms os then (allEnds a b c ink xs ms os).1 else []
set_option maxRecDepth 100000 in
theorem washingIn_spec {a b c ink : Int} {A B D : Option Addr} {n cp q cq r : Nat} {xs os : List Int} {ms : List PJob} {w : World} (hr : RInts w w.heap.size A n xs) (hn0 : n ≤ 1048576) (_ : -9223372036854775808 ≤ ink ∧ ink ≤ 9223372036854775807) (hs : RPJobs w w.heap.size B q ms) (hq0 : q ≤ 1048576) (ho : RInts w w.heap.size D r os) (hr0 : r ≤ 1048576) :
    Calls Try.prog 42 #[.agg #[.int .i64 a, .int .i64 b, .int .i64 c, .slice A n cp], .int .i64 ink, .slice B q cq, .slice D r r] w fun e w' => e = .returned (.tuple #[.int .i64 (wiV a b c ink xs ms os), .bool (askB a b c xs ink ms os)]) ∧ Below w.heap.size w w' := by
  have hP := Blk.new' w 34 #[.int .i64 a, .int .i64 b, .int .i64 c, .slice A n cp]; have hb : Below w.heap.size w (w.alloc (.cells #[.int .i64 a, .int .i64 b, .int .i64 c, .slice A n cp] 34)) := (by (repeat (first | exact Below.refl _ _ | exact hb | apply Below.drew | (refine Below.alloc ?_ (by first | (simp; done) | (simp; omega) | (have := hb.size; simp at this ⊢; omega)) _) | (refine Below.setCell ?_ (by simp) _)))); have hr1 := (hr.alloc (Nat.le_refl _) (.cells #[.int .i64 a, .int .i64 b, .int .i64 c, .slice A n cp] 34)).more (B' := (w.alloc (.cells #[.int .i64 a, .int .i64 b, .int .i64 c, .slice A n cp] 34)).heap.size) (by simp <;> omega); have hs1 := (RRow.alloc hs (Nat.le_refl _) (.cells #[.int .i64 a, .int .i64 b, .int .i64 c, .slice A n cp] 34)).more (B' := (w.alloc (.cells #[.int .i64 a, .int .i64 b, .int .i64 c, .slice A n cp] 34)).heap.size) (by simp <;> omega); have ho1 := (ho.alloc (Nat.le_refl _) (.cells #[.int .i64 a, .int .i64 b, .int .i64 c, .slice A n cp] 34)).more (B' := (w.alloc (.cells #[.int .i64 a, .int .i64 b, .int .i64 c, .slice A n cp] 34)).heap.size) (by simp <;> omega)
  cases h1 : askB a b c xs ink ms os
  · (go_enter Try.func42, Try.ntmps42; go_wp2_with fail; refine (prAsked_any hr1 hn0 hs1 hq0 ho1 hr0 (Nat.le_refl _)).mono ?_; rintro e1 w1 ⟨rfl, hn⟩; replace hb := hb.trans (hn.mono hb.size); replace hP := hP.below hn hP.lt; replace hr1 := (RInts.below hr1 hn).more hn.size; replace hs1 := (RPJobs.below hs1 hn).more hn.size; replace ho1 := (RInts.below ho1 hn).more hn.size; clear hn)
    go_wp2_with fail
    go_ret2
    exact ⟨by simp [wiV, h1], hb⟩
  · obtain ⟨⟨b1, b2, b3, b4, b5⟩, b6, ⟨b7, b8⟩, b9, b10⟩ := askB_true h1; have HX := Lib.hid b5; have HM := Lib.hid b8; have HI := Lib.hid (show ∀ i ∈ os, 0 ≤ i ∧ i < q from fun i hi => by have := b10 i hi; have := hs.len; omega); have hn5 : 5 ≤ n := (by have := hr.len; omega); have hr7 : r ≤ 7 := (by have := ho.len; have := hs.len; omega); clear b4 b5 b7 b8 b9 b10
    (go_enter Try.func42, Try.ntmps42; go_wp2_with fail; refine (prAsked_any hr1 hn0 hs1 hq0 ho1 hr0 (Nat.le_refl _)).mono ?_; rintro e1 w1 ⟨rfl, hn⟩; replace hb := hb.trans (hn.mono hb.size); replace hP := hP.below hn hP.lt; replace hr1 := (RInts.below hr1 hn).more hn.size; replace hs1 := (RPJobs.below hs1 hn).more hn.size; replace ho1 := (RInts.below ho1 hn).more hn.size; clear hn)
    have HC := Lib.hid (show ∀ wx, Below w1.heap.size w1 wx → (wx.cell? ⟨w.heap.size, 0, none⟩ = some (.int .i64 a) ∧ wx.cell? ⟨w.heap.size, 1, none⟩ = some (.int .i64 b) ∧ wx.cell? ⟨w.heap.size, 2, none⟩ = some (.int .i64 c) ∧ wx.cell? ⟨w.heap.size, 3, none⟩ = some (.slice A n cp)) from fun wx h => ⟨(hP.below h hP.lt).cell 0, (hP.below h hP.lt).cell 1, (hP.below h hP.lt).cell 2, (hP.below h hP.lt).cell 3⟩)
    go_wp2_with fail
    go_region_held3 (fun wx => Below w1.heap.size w1 wx ∧ (wx.cell? ⟨w.heap.size, 0, none⟩ = some (.int .i64 a) ∧ wx.cell? ⟨w.heap.size, 1, none⟩ = some (.int .i64 b) ∧ wx.cell? ⟨w.heap.size, 2, none⟩ = some (.int .i64 c) ∧ wx.cell? ⟨w.heap.size, 3, none⟩ = some (.slice A n cp))) ((first | exact ⟨(Below.refl _ _).drew, HC.out _ (Below.refl _ _).drew⟩ | (have hh : Below _ _ _ ∧ _ := (by assumption); have hh0 := hh.1.trans (hn.mono hh.1.size); exact ⟨hh0, HC.out _ hh0⟩) | assumption | go_keep)) (first
      | (go_at_call 60; (have hh : Below _ _ _ ∧ _ := (by assumption)); refine (prTimes_any ((RPJobs.below hs1 hh.1).more hh.1.size) hq0 b1 b2 b3 HM.out).mono ?_; rintro e1 wi ⟨VT, CT, rfl, hoT, hn⟩)
      | (go_at_call 59; (have hh : Below _ _ _ ∧ _ := (by assumption)); (have hsE := Nat.le_trans hb.size hh.1.size); refine (prEnds_any ((RInts.below hr1 hh.1).more hh.1.size) hn0 ((RPJobs.below hs1 hh.1).more hh.1.size) hq0 ((RInts.below ho1 hh.1).more hh.1.size) hr0 (by exact own_rints hoT) b1 b2 b3 hn5 HX.out b6 HM.out HI.out hr7).mono ?_; rintro e1 wi ⟨V, C, rfl, hoE, hn⟩))
    clear HC
    have hn9 : Below w1.heap.size w1 _ ∧ _ := (by assumption)
    obtain ⟨hn, _⟩ := hn9
    replace hb := hb.trans (hn.mono hb.size)
    go_wp2_with fail
    go_ret2
    exact ⟨by simp [wiV, h1, allEnds], hb⟩
set_option maxRecDepth 100000 in
theorem washingIn_impl {a b c ink : Int} {A B D : Option Addr} {n cp q cq r : Nat} {xs os : List Int} {ms : List PJob} {w : World} (hr : RInts w w.heap.size A n xs) (hn0 : n ≤ 1048576) (_ : -9223372036854775808 ≤ ink ∧ ink ≤ 9223372036854775807) (hs : RPJobs w w.heap.size B q ms) (hq0 : q ≤ 1048576) (ho : RInts w w.heap.size D r os) (hr0 : r ≤ 1048576) :
    Calls Try.prog 43 #[.agg #[.int .i64 a, .int .i64 b, .int .i64 c, .slice A n cp], .int .i64 ink, .slice B q cq, .slice D r r] w fun e w' => e = .returned (.tuple #[.int .i64 (wiV a b c ink xs ms os), .bool (askB a b c xs ink ms os)]) ∧ Below w.heap.size w w' := by
  have hP := Blk.new' w 34 #[.int .i64 a, .int .i64 b, .int .i64 c, .slice A n cp]; have hb : Below w.heap.size w (w.alloc (.cells #[.int .i64 a, .int .i64 b, .int .i64 c, .slice A n cp] 34)) := (by (repeat (first | exact Below.refl _ _ | exact hb | apply Below.drew | (refine Below.alloc ?_ (by first | (simp; done) | (simp; omega) | (have := hb.size; simp at this ⊢; omega)) _) | (refine Below.setCell ?_ (by simp) _)))); have hr1 := (hr.alloc (Nat.le_refl _) (.cells #[.int .i64 a, .int .i64 b, .int .i64 c, .slice A n cp] 34)).more (B' := (w.alloc (.cells #[.int .i64 a, .int .i64 b, .int .i64 c, .slice A n cp] 34)).heap.size) (by simp <;> omega); have hs1 := (RRow.alloc hs (Nat.le_refl _) (.cells #[.int .i64 a, .int .i64 b, .int .i64 c, .slice A n cp] 34)).more (B' := (w.alloc (.cells #[.int .i64 a, .int .i64 b, .int .i64 c, .slice A n cp] 34)).heap.size) (by simp <;> omega); have ho1 := (ho.alloc (Nat.le_refl _) (.cells #[.int .i64 a, .int .i64 b, .int .i64 c, .slice A n cp] 34)).more (B' := (w.alloc (.cells #[.int .i64 a, .int .i64 b, .int .i64 c, .slice A n cp] 34)).heap.size) (by simp <;> omega)
  cases h1 : askB a b c xs ink ms os
  · (go_enter Try.func43, Try.ntmps43; go_wp2_with fail; refine (isPressOrder_any hr1 hn0 hs1 hq0 ho1 hr0).mono ?_; rintro e1 w1 ⟨rfl, hn⟩; replace hb := hb.trans (hn.mono hb.size); replace hP := hP.below hn hP.lt; replace hr1 := (RInts.below hr1 hn).more hn.size; replace hs1 := (RPJobs.below hs1 hn).more hn.size; replace ho1 := (RInts.below ho1 hn).more hn.size; clear hn)
    go_wp2_with fail
    go_ret2
    exact ⟨by simp [wiV, h1], hb⟩
  · obtain ⟨⟨b1, b2, b3, b4, b5⟩, b6, ⟨b7, b8⟩, b9, b10⟩ := askB_true h1; have HX := Lib.hid b5; have HM := Lib.hid b8; have HI := Lib.hid (show ∀ i ∈ os, 0 ≤ i ∧ i < q from fun i hi => by have := b10 i hi; have := hs.len; omega); have hn5 : 5 ≤ n := (by have := hr.len; omega); have hr7 : r ≤ 7 := (by have := ho.len; have := hs.len; omega); clear b4 b5 b7 b8 b9 b10
    (go_enter Try.func43, Try.ntmps43; go_wp2_with fail; refine (isPressOrder_any hr1 hn0 hs1 hq0 ho1 hr0).mono ?_; rintro e1 w1 ⟨rfl, hn⟩; replace hb := hb.trans (hn.mono hb.size); replace hP := hP.below hn hP.lt; replace hr1 := (RInts.below hr1 hn).more hn.size; replace hs1 := (RPJobs.below hs1 hn).more hn.size; replace ho1 := (RInts.below ho1 hn).more hn.size; clear hn)
    have p0 : _ = some (.int .i64 a : Value) := hP.cell 0; have p1 : _ = some (.int .i64 b : Value) := hP.cell 1; have p2 : _ = some (.int .i64 c : Value) := hP.cell 2; have p3 : _ = some (.slice A n cp : Value) := hP.cell 3
    go_wp2_with fail
    have hsE := hb.size
    refine (run_any hr1 hn0 hs1 hq0 ho1 hr0 b1 b2 b3 hn5 HX.out b6 HM.out HI.out hr7).mono ?_
    rintro e1 w2 ⟨V, C, rfl, hoE, hn⟩
    replace hb := hb.trans (hn.mono hb.size)
    go_wp2_with fail
    go_ret2
    exact ⟨by simp [wiV, h1, allEnds], hb⟩
set_option maxRecDepth 100000 in
theorem pressEnds_spec {a b c ink : Int} {A B D : Option Addr} {n cp q cq r : Nat} {xs os : List Int} {ms : List PJob} {w : World} (hr : RInts w w.heap.size A n xs) (hn0 : n ≤ 1048576) (_ : -9223372036854775808 ≤ ink ∧ ink ≤ 9223372036854775807) (hs : RPJobs w w.heap.size B q ms) (hq0 : q ≤ 1048576) (ho : RInts w w.heap.size D r os) (hr0 : r ≤ 1048576) :
    Calls Try.prog 46 #[.agg #[.int .i64 a, .int .i64 b, .int .i64 c, .slice A n cp], .int .i64 ink, .slice B q cq, .slice D r r] w fun e w' => ∃ V N C, e = .returned (.tuple #[.slice V N C, .bool (askB a b c xs ink ms os)]) ∧ Own w' w.heap.size (.slice V N C) N (peV a b c ink xs ms os) ∧ N ≤ 1048576 ∧ Below w.heap.size w w' := by
  have hP := Blk.new' w 34 #[.int .i64 a, .int .i64 b, .int .i64 c, .slice A n cp]; have hb : Below w.heap.size w (w.alloc (.cells #[.int .i64 a, .int .i64 b, .int .i64 c, .slice A n cp] 34)) := (by (repeat (first | exact Below.refl _ _ | exact hb | apply Below.drew | (refine Below.alloc ?_ (by first | (simp; done) | (simp; omega) | (have := hb.size; simp at this ⊢; omega)) _) | (refine Below.setCell ?_ (by simp) _)))); have hr1 := (hr.alloc (Nat.le_refl _) (.cells #[.int .i64 a, .int .i64 b, .int .i64 c, .slice A n cp] 34)).more (B' := (w.alloc (.cells #[.int .i64 a, .int .i64 b, .int .i64 c, .slice A n cp] 34)).heap.size) (by simp <;> omega); have hs1 := (RRow.alloc hs (Nat.le_refl _) (.cells #[.int .i64 a, .int .i64 b, .int .i64 c, .slice A n cp] 34)).more (B' := (w.alloc (.cells #[.int .i64 a, .int .i64 b, .int .i64 c, .slice A n cp] 34)).heap.size) (by simp <;> omega); have ho1 := (ho.alloc (Nat.le_refl _) (.cells #[.int .i64 a, .int .i64 b, .int .i64 c, .slice A n cp] 34)).more (B' := (w.alloc (.cells #[.int .i64 a, .int .i64 b, .int .i64 c, .slice A n cp] 34)).heap.size) (by simp <;> omega)
  cases h1 : askB a b c xs ink ms os
  · (go_enter Try.func46, Try.ntmps46; go_wp2_with fail; refine (prAsked_any hr1 hn0 hs1 hq0 ho1 hr0 (Nat.le_refl _)).mono ?_; rintro e1 w1 ⟨rfl, hn⟩; replace hb := hb.trans (hn.mono hb.size); replace hP := hP.below hn hP.lt; replace hr1 := (RInts.below hr1 hn).more hn.size; replace hs1 := (RPJobs.below hs1 hn).more hn.size; replace ho1 := (RInts.below ho1 hn).more hn.size; clear hn)
    go_wp2_with fail
    go_ret2
    exact ⟨none, 0, 0, by simp [h1], by simp [peV, h1]; exact own_nil _ _, by omega, hb⟩
  · obtain ⟨⟨b1, b2, b3, b4, b5⟩, b6, ⟨b7, b8⟩, b9, b10⟩ := askB_true h1; have HX := Lib.hid b5; have HM := Lib.hid b8; have HI := Lib.hid (show ∀ i ∈ os, 0 ≤ i ∧ i < q from fun i hi => by have := b10 i hi; have := hs.len; omega); have hn5 : 5 ≤ n := (by have := hr.len; omega); have hr7 : r ≤ 7 := (by have := ho.len; have := hs.len; omega); clear b4 b5 b7 b8 b9 b10
    (go_enter Try.func46, Try.ntmps46; go_wp2_with fail; refine (prAsked_any hr1 hn0 hs1 hq0 ho1 hr0 (Nat.le_refl _)).mono ?_; rintro e1 w1 ⟨rfl, hn⟩; replace hb := hb.trans (hn.mono hb.size); replace hP := hP.below hn hP.lt; replace hr1 := (RInts.below hr1 hn).more hn.size; replace hs1 := (RPJobs.below hs1 hn).more hn.size; replace ho1 := (RInts.below ho1 hn).more hn.size; clear hn)
    have HC := Lib.hid (show ∀ wx, Below w1.heap.size w1 wx → (wx.cell? ⟨w.heap.size, 0, none⟩ = some (.int .i64 a) ∧ wx.cell? ⟨w.heap.size, 1, none⟩ = some (.int .i64 b) ∧ wx.cell? ⟨w.heap.size, 2, none⟩ = some (.int .i64 c) ∧ wx.cell? ⟨w.heap.size, 3, none⟩ = some (.slice A n cp)) from fun wx h => ⟨(hP.below h hP.lt).cell 0, (hP.below h hP.lt).cell 1, (hP.below h hP.lt).cell 2, (hP.below h hP.lt).cell 3⟩)
    go_wp2_with fail
    go_region_held3 (fun wx => Below w1.heap.size w1 wx ∧ (wx.cell? ⟨w.heap.size, 0, none⟩ = some (.int .i64 a) ∧ wx.cell? ⟨w.heap.size, 1, none⟩ = some (.int .i64 b) ∧ wx.cell? ⟨w.heap.size, 2, none⟩ = some (.int .i64 c) ∧ wx.cell? ⟨w.heap.size, 3, none⟩ = some (.slice A n cp))) ((first | exact ⟨(Below.refl _ _).drew, HC.out _ (Below.refl _ _).drew⟩ | (have hh : Below _ _ _ ∧ _ := (by assumption); have hh0 := hh.1.trans (hn.mono hh.1.size); exact ⟨hh0, HC.out _ hh0⟩) | assumption | go_keep)) (first
      | (go_at_call 60; (have hh : Below _ _ _ ∧ _ := (by assumption)); refine (prTimes_any ((RPJobs.below hs1 hh.1).more hh.1.size) hq0 b1 b2 b3 HM.out).mono ?_; rintro e1 wi ⟨VT, CT, rfl, hoT, hn⟩)
      | (go_at_call 59; (have hh : Below _ _ _ ∧ _ := (by assumption)); (have hsE := Nat.le_trans hb.size hh.1.size); refine (prEnds_any ((RInts.below hr1 hh.1).more hh.1.size) hn0 ((RPJobs.below hs1 hh.1).more hh.1.size) hq0 ((RInts.below ho1 hh.1).more hh.1.size) hr0 (by exact own_rints hoT) b1 b2 b3 hn5 HX.out b6 HM.out HI.out hr7).mono ?_; rintro e1 wi ⟨V, C, rfl, hoE, hn⟩))
    clear HC
    have hn9 : Below w1.heap.size w1 _ ∧ _ := (by assumption)
    obtain ⟨hn, _⟩ := hn9
    replace hb := hb.trans (hn.mono hb.size)
    go_wp2_with fail
    go_ret2
    exact ⟨V, r, C, by simp [h1], by simp only [peV, h1]; exact own_lower hoE hsE, hr0, hb⟩
set_option maxRecDepth 100000 in
theorem pressEnds_impl {a b c ink : Int} {A B D : Option Addr} {n cp q cq r : Nat} {xs os : List Int} {ms : List PJob} {w : World} (hr : RInts w w.heap.size A n xs) (hn0 : n ≤ 1048576) (_ : -9223372036854775808 ≤ ink ∧ ink ≤ 9223372036854775807) (hs : RPJobs w w.heap.size B q ms) (hq0 : q ≤ 1048576) (ho : RInts w w.heap.size D r os) (hr0 : r ≤ 1048576) :
    Calls Try.prog 47 #[.agg #[.int .i64 a, .int .i64 b, .int .i64 c, .slice A n cp], .int .i64 ink, .slice B q cq, .slice D r r] w fun e w' => ∃ V N C, e = .returned (.tuple #[.slice V N C, .bool (askB a b c xs ink ms os)]) ∧ Own w' w.heap.size (.slice V N C) N (peV a b c ink xs ms os) ∧ N ≤ 1048576 ∧ Below w.heap.size w w' := by
  have hP := Blk.new' w 34 #[.int .i64 a, .int .i64 b, .int .i64 c, .slice A n cp]; have hb : Below w.heap.size w (w.alloc (.cells #[.int .i64 a, .int .i64 b, .int .i64 c, .slice A n cp] 34)) := (by (repeat (first | exact Below.refl _ _ | exact hb | apply Below.drew | (refine Below.alloc ?_ (by first | (simp; done) | (simp; omega) | (have := hb.size; simp at this ⊢; omega)) _) | (refine Below.setCell ?_ (by simp) _)))); have hr1 := (hr.alloc (Nat.le_refl _) (.cells #[.int .i64 a, .int .i64 b, .int .i64 c, .slice A n cp] 34)).more (B' := (w.alloc (.cells #[.int .i64 a, .int .i64 b, .int .i64 c, .slice A n cp] 34)).heap.size) (by simp <;> omega); have hs1 := (RRow.alloc hs (Nat.le_refl _) (.cells #[.int .i64 a, .int .i64 b, .int .i64 c, .slice A n cp] 34)).more (B' := (w.alloc (.cells #[.int .i64 a, .int .i64 b, .int .i64 c, .slice A n cp] 34)).heap.size) (by simp <;> omega); have ho1 := (ho.alloc (Nat.le_refl _) (.cells #[.int .i64 a, .int .i64 b, .int .i64 c, .slice A n cp] 34)).more (B' := (w.alloc (.cells #[.int .i64 a, .int .i64 b, .int .i64 c, .slice A n cp] 34)).heap.size) (by simp <;> omega)
  cases h1 : askB a b c xs ink ms os
  · (go_enter Try.func47, Try.ntmps47; go_wp2_with fail; refine (isPressOrder_any hr1 hn0 hs1 hq0 ho1 hr0).mono ?_; rintro e1 w1 ⟨rfl, hn⟩; replace hb := hb.trans (hn.mono hb.size); replace hP := hP.below hn hP.lt; replace hr1 := (RInts.below hr1 hn).more hn.size; replace hs1 := (RPJobs.below hs1 hn).more hn.size; replace ho1 := (RInts.below ho1 hn).more hn.size; clear hn)
    go_wp2_with fail
    have hs9 := hb.size
    go_ret2
    exact ⟨some ⟨w1.heap.size, 0, none⟩, 0, 0, by simp [h1], by simp only [peV, h1]; exact own_lower (own_empty w1 w1.heap.size (Nat.le_refl _)) hs9, by omega, hb.alloc hs9 _⟩
  · obtain ⟨⟨b1, b2, b3, b4, b5⟩, b6, ⟨b7, b8⟩, b9, b10⟩ := askB_true h1; have HX := Lib.hid b5; have HM := Lib.hid b8; have HI := Lib.hid (show ∀ i ∈ os, 0 ≤ i ∧ i < q from fun i hi => by have := b10 i hi; have := hs.len; omega); have hn5 : 5 ≤ n := (by have := hr.len; omega); have hr7 : r ≤ 7 := (by have := ho.len; have := hs.len; omega); clear b4 b5 b7 b8 b9 b10
    (go_enter Try.func47, Try.ntmps47; go_wp2_with fail; refine (isPressOrder_any hr1 hn0 hs1 hq0 ho1 hr0).mono ?_; rintro e1 w1 ⟨rfl, hn⟩; replace hb := hb.trans (hn.mono hb.size); replace hP := hP.below hn hP.lt; replace hr1 := (RInts.below hr1 hn).more hn.size; replace hs1 := (RPJobs.below hs1 hn).more hn.size; replace ho1 := (RInts.below ho1 hn).more hn.size; clear hn)
    have p0 : _ = some (.int .i64 a : Value) := hP.cell 0; have p1 : _ = some (.int .i64 b : Value) := hP.cell 1; have p2 : _ = some (.int .i64 c : Value) := hP.cell 2; have p3 : _ = some (.slice A n cp : Value) := hP.cell 3
    go_wp2_with fail
    have hsE := hb.size
    refine (run_any hr1 hn0 hs1 hq0 ho1 hr0 b1 b2 b3 hn5 HX.out b6 HM.out HI.out hr7).mono ?_
    rintro e1 w2 ⟨V, C, rfl, hoE, hn⟩
    replace hb := hb.trans (hn.mono hb.size)
    go_wp2_with fail
    go_ret2
    exact ⟨V, r, C, by simp [h1], by simp only [peV, h1]; exact own_lower hoE hsE, hr0, hb⟩
end Go.Proofs.Ytfgnjokiadlieaa
