/-
  Contracts: what the pruned search weighs.
-/
import Derived.Test.YtfjkmocjlmcjdaaPrB
namespace Go.Proofs.Ytfjkmocjlmcjdaa
open Go.RowKit
set_option maxRecDepth 100000 in
theorem prCost_any {a b c ink : Int} {A B D : Option Addr} {n cp q cq r cr : Nat} {xs os : List Int} {ms : List PJob} {w : World} {T : Option Addr} {ct : Nat} {dl : Bool} (hr : RInts w w.heap.size A n xs) (hn0 : n ≤ 1048576) (hs : RPJobs w w.heap.size B q ms) (hq0 : q ≤ 1048576) (ho : RInts w w.heap.size D r os) (hr0 : r ≤ 1048576) (ht : RInts w w.heap.size T q (timesL a b c ms)) (ha : 1 ≤ a ∧ a ≤ 5000) (hb1 : 0 ≤ b ∧ b ≤ 600) (h0 : 0 ≤ c ∧ c ≤ 500) (hn5 : 5 ≤ n) (hx : ∀ x ∈ xs, 0 ≤ x ∧ x ≤ 300) (hi0 : 0 ≤ ink ∧ ink ≤ 4) (hm : (∀ m ∈ ms, (0 ≤ m.ink ∧ m.ink ≤ 4) ∧ (1 ≤ m.sheets ∧ m.sheets ≤ 20000) ∧ (0 ≤ m.due ∧ m.due ≤ 100000))) (hi : ∀ i ∈ os, 0 ≤ i ∧ i < q) (hr7 : r ≤ 7) :
    Calls Try.prog 36 #[.agg #[.int .i64 a, .int .i64 b, .int .i64 c, .slice A n cp], .int .i64 ink, .slice B q cq, .slice T q ct, .slice D r cr, .bool dl] w fun e w' => e = .returned (.int .i64 (costF a b c ink xs ms dl os)) ∧ Below w.heap.size w w' := by
  have hP := Blk.new' w 30 #[.int .i64 a, .int .i64 b, .int .i64 c, .slice A n cp]
  have hbx : Below w.heap.size w (w.alloc (.cells #[.int .i64 a, .int .i64 b, .int .i64 c, .slice A n cp] 30)) := (by (repeat (first | exact Below.refl _ _ | exact hb | apply Below.drew | (refine Below.alloc ?_ (by first | (simp; done) | (simp; omega) | (have := hb.size; simp at this ⊢; omega)) _) | (refine Below.setCell ?_ (by simp) _))))
  have hr1 := (hr.alloc (Nat.le_refl _) (.cells #[.int .i64 a, .int .i64 b, .int .i64 c, .slice A n cp] 30)).more (B' := (w.alloc (.cells #[.int .i64 a, .int .i64 b, .int .i64 c, .slice A n cp] 30)).heap.size) (by simp <;> omega)
  have hs1 := (RRow.alloc hs (Nat.le_refl _) (.cells #[.int .i64 a, .int .i64 b, .int .i64 c, .slice A n cp] 30)).more (B' := (w.alloc (.cells #[.int .i64 a, .int .i64 b, .int .i64 c, .slice A n cp] 30)).heap.size) (by simp <;> omega)
  have ho1 := (ho.alloc (Nat.le_refl _) (.cells #[.int .i64 a, .int .i64 b, .int .i64 c, .slice A n cp] 30)).more (B' := (w.alloc (.cells #[.int .i64 a, .int .i64 b, .int .i64 c, .slice A n cp] 30)).heap.size) (by simp <;> omega)
  have ht1 := (ht.alloc (Nat.le_refl _) (.cells #[.int .i64 a, .int .i64 b, .int .i64 c, .slice A n cp] 30)).more (B' := (w.alloc (.cells #[.int .i64 a, .int .i64 b, .int .i64 c, .slice A n cp] 30)).heap.size) (by simp <;> omega)
  have HM := Lib.hid hm
  have HI := Lib.hid hi
  have HX := Lib.hid hx
  clear hm hi hx
  have p0 : _ = some (.int .i64 a : Value) := hP.cell 0; have p1 : _ = some (.int .i64 b : Value) := hP.cell 1; have p2 : _ = some (.int .i64 c : Value) := hP.cell 2; have p3 : _ = some (.slice A n cp : Value) := hP.cell 3
  cases dl
  · go_enter Try.func36, Try.ntmps36
    go_wp2_with fail
    refine (prEnds_any hr1 hn0 hs1 hq0 ho1 hr0 ht1 ha hb1 h0 hn5 HX.out hi0 HM.out HI.out hr7).mono ?_
    rintro e1 w1 ⟨V, C, rfl, hoE, hn⟩
    replace hbx := hbx.trans (hn.mono hbx.size)
    go_wp2_with fail
    go_ret
    exact ⟨rfl, hbx⟩
  · go_enter Try.func36, Try.ntmps36
    go_wp2_with fail
    refine (prDelay_any hr1 hn0 hs1 hq0 ho1 hr0 ht1 ha hb1 h0 hn5 HX.out hi0 HM.out HI.out hr7).mono ?_
    rintro e1 w1 ⟨rfl, hn⟩
    replace hbx := hbx.trans (hn.mono hbx.size)
    go_wp2_with fail
    go_ret
    exact ⟨rfl, hbx⟩
end Go.Proofs.Ytfjkmocjlmcjdaa
