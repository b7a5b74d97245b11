/-
  Contracts: LeastWashing, LeastDelay.
-/
import Derived.Test.YtfjkmocjlmcjdaaPrG
import Derived.WalkLawsBesides
namespace Go.Proofs.Ytfjkmocjlmcjdaa
open Go.RowKit
theorem bothB_true {a b c ink : Int} {xs : List Int} {ms : List PJob} (h : bothB a b c xs ink ms = true) : ((1 ≤ a ∧ a ≤ 5000) ∧ (0 ≤ b ∧ b ≤ 600) ∧ (0 ≤ c ∧ c ≤ 500) ∧ xs.length = 5 ∧ ∀ x ∈ xs, 0 ≤ x ∧ x ≤ 300) ∧ (0 ≤ ink ∧ ink ≤ 4) ∧ (ms.length ≤ 7 ∧ (∀ m ∈ ms, (0 ≤ m.ink ∧ m.ink ≤ 4) ∧ (1 ≤ m.sheets ∧ m.sheets ≤ 20000) ∧ (0 ≤ m.due ∧ m.due ≤ 100000))) := by
  simp only [bothB, Bool.and_eq_true] at h
  exact ⟨prB_true h.1, inB_true.1 h.2.1, jobsB_true h.2.2⟩
/-- the first order with the least cost, and this cost -/
def leastV (a b c ink : Int) (xs : List Int) (ms : List PJob) (dl : Bool) : List Int × Int :=
  if bothB a b c xs ink ms then (allF (costF a b c ink xs ms dl) ms.length (ms.length + 1) [] none).getD ([], 0) else ([], 0)
theorem least_no {a b c ink : Int} {xs : List Int} {ms : List PJob} {dl : Bool} (h : bothB a b c xs ink ms = false) : leastV a b c ink xs ms dl = ([], 0) := by
  rw [leastV, h]; rfl
theorem least_all {a b c ink m : Int} {xs bs : List Int} {ms : List PJob} {dl : Bool} {q : Nat} (h : bothB a b c xs ink ms = true) (hq : ms.length = q) (he : allF (costF a b c ink xs ms dl) q (q + 1) [] none = some (bs, m)) : leastV a b c ink xs ms dl = (bs, m) := by
  rw [leastV, h, hq, he]; rfl
theorem least_best {a b c ink : Int} {xs bs : List Int} {ms : List PJob} {dl : Bool} {q : Nat} {l : Int} {fd : Bool} (h : bothB a b c xs ink ms = true) (hq : ms.length = q) (hs : FndIs (bestF (costF a b c ink xs ms dl) q (q + 1) [] none) bs l fd) : leastV a b c ink xs ms dl = (bs, l) ∧ fd = true := by
  obtain ⟨b1, m, e1, e2⟩ := search_same (n := q) (fun o i => costF_mono (a := a) (b := b) (c := c) (ink := ink) (ms := ms) (bothB_true h).1.2.2.2.2 dl o i)
  rw [e2] at hs
  obtain ⟨h1, h2, h3⟩ := hs
  subst h2 h3
  exact ⟨least_all h hq e1, h1⟩
theorem least_l {a b c ink : Int} {xs bs : List Int} {ms : List PJob} {dl : Bool} {q : Nat} {l : Int} (h : bothB a b c xs ink ms = true) (hq : ms.length = q) (hs : FndL (allF (costF a b c ink xs ms dl) q (q + 1) [] none) bs l) : leastV a b c ink xs ms dl = (bs, l) := by
  obtain ⟨b1, m, e1, e2⟩ := search_same (n := q) (fun o i => costF_mono (a := a) (b := b) (c := c) (ink := ink) (ms := ms) (bothB_true h).1.2.2.2.2 dl o i)
  rw [e1] at hs
  obtain ⟨h1, h2, h3⟩ := hs
  subst h1 h2
  exact least_all h hq e1
theorem blk_at {w : World} {g : Nat} (h : w.heap.size = g) (t : TypeId) (cs : Array Value) : Blk (w.alloc (.cells cs t)) g t cs.toList := by subst h; exact Blk.new' w t cs
theorem start_LI (w : World) (q : Nat) (cv : Value) : LI w w.heap.size q cv (((((w.alloc (.cells #[.int .i64 q] 3)).alloc (.cells #[cv] 52)).alloc (.cells #[] 3)).alloc (.cells #[.slice (some ⟨w.heap.size + 2, 0, none⟩) 0 0] 22)).alloc (.cells #[.int .i64 (-1)] 3)) none := by
  have e1 := Blk.new' w 3 #[.int .i64 q]
  have e2 := blk_at (w := w.alloc (.cells #[.int .i64 q] 3)) (g := w.heap.size + 1) (by simp) 52 #[cv]
  have e3 := blk_at (w := (w.alloc (.cells #[.int .i64 q] 3)).alloc (.cells #[cv] 52)) (g := w.heap.size + 2) (by simp) 3 #[]
  have e4 := blk_at (w := ((w.alloc (.cells #[.int .i64 q] 3)).alloc (.cells #[cv] 52)).alloc (.cells #[] 3)) (g := w.heap.size + 3) (by simp) 22 #[.slice (some ⟨w.heap.size + 2, 0, none⟩) 0 0]
  have e5 := blk_at (w := (((w.alloc (.cells #[.int .i64 q] 3)).alloc (.cells #[cv] 52)).alloc (.cells #[] 3)).alloc (.cells #[.slice (some ⟨w.heap.size + 2, 0, none⟩) 0 0] 22)) (g := w.heap.size + 4) (by simp) 3 #[.int .i64 (-1)]
  refine ⟨((((e1.alloc _).alloc _).alloc _).alloc _), (((e2.alloc _).alloc _).alloc _), ⟨some ⟨w.heap.size + 2, 0, none⟩, 0, 0, [], -1, e4.alloc _, e5, ?_, fun k hk => ?_, by omega, rfl⟩, ?_⟩
  · exact Blk.row (size := 1) ((e3.alloc _).alloc _) (by simp) (by simp) (by omega)
  · injection hk with hk; simp at hk; omega
  · exact (((((Below.refl _ _).alloc (Nat.le_refl _) _).alloc (by simp) _).alloc (by simp <;> omega) _).alloc (by simp <;> omega) _).alloc (by simp <;> omega) _
theorem start_own (w : World) (q : Nat) (cv : Value) : Own ((((((w.alloc (.cells #[.int .i64 q] 3)).alloc (.cells #[cv] 52)).alloc (.cells #[] 3)).alloc (.cells #[.slice (some ⟨w.heap.size + 2, 0, none⟩) 0 0] 22)).alloc (.cells #[.int .i64 (-1)] 3)).alloc (.cells #[] 3)) (w.heap.size + 5) (.slice (some ⟨w.heap.size + 5, 0, none⟩) 0 0) 0 [] ∧ w.heap.size + 5 ≤ ((((((w.alloc (.cells #[.int .i64 q] 3)).alloc (.cells #[cv] 52)).alloc (.cells #[] 3)).alloc (.cells #[.slice (some ⟨w.heap.size + 2, 0, none⟩) 0 0] 22)).alloc (.cells #[.int .i64 (-1)] 3)).alloc (.cells #[] 3)).heap.size := by
  have hs : (((((w.alloc (.cells #[.int .i64 q] 3)).alloc (.cells #[cv] 52)).alloc (.cells #[] 3)).alloc (.cells #[.slice (some ⟨w.heap.size + 2, 0, none⟩) 0 0] 22)).alloc (.cells #[.int .i64 (-1)] 3)).heap.size = w.heap.size + 5 := by simp
  have h := own_empty (((((w.alloc (.cells #[.int .i64 q] 3)).alloc (.cells #[cv] 52)).alloc (.cells #[] 3)).alloc (.cells #[.slice (some ⟨w.heap.size + 2, 0, none⟩) 0 0] 22)).alloc (.cells #[.int .i64 (-1)] 3)) (w.heap.size + 5) (by rw [hs]; exact Nat.le_refl _)
  rw [hs] at h
  exact ⟨h, by rw [World.size_alloc, hs]; omega⟩

set_option maxRecDepth 100000 in
theorem leastOrderW_any {a b c ink : Int} {A B : Option Addr} {n cp q cq D : Nat} {xs : List Int} {ms : List PJob} {w : World} (hn0 : n ≤ 1048576) (hq7 : q ≤ 7) (ha : 1 ≤ a ∧ a ≤ 5000) (hb1 : 0 ≤ b ∧ b ≤ 600) (h0 : 0 ≤ c ∧ c ≤ 500) (hn5 : 5 ≤ n) (hx : ∀ x ∈ xs, 0 ≤ x ∧ x ≤ 300) (hi0 : 0 ≤ ink ∧ ink ≤ 4) (hm : (∀ m ∈ ms, (0 ≤ m.ink ∧ m.ink ≤ 4) ∧ (1 ≤ m.sheets ∧ m.sheets ≤ 20000) ∧ (0 ≤ m.due ∧ m.due ≤ 100000)))
    (hP : Blk w D 30 [.int .i64 a, .int .i64 b, .int .i64 c, .slice A n cp]) (hK : Blk w (D + 1) 3 [.int .i64 ink]) (hJ : Blk w (D + 2) 32 [.slice B q cq])
    (hr : RInts w w.heap.size A n xs) (hs : RPJobs w w.heap.size B q ms) :
    Calls Try.prog 27 #[.int .i64 q, .func (Fn.func 28) #[] #[.pointer (some ⟨D, 0, none⟩), .pointer (some ⟨D + 1, 0, none⟩), .pointer (some ⟨D + 2, 0, none⟩)]] w fun e w' => ∃ V N C bs l, e = .returned (.tuple #[.slice V N C, .int .i64 l]) ∧ Own w' w.heap.size (.slice V N C) N bs ∧ N ≤ 7 ∧ FndL (allF (costF a b c ink xs ms false) q (q + 1) [] none) bs l ∧ Below w.heap.size w w' := by
  have hD : D + 3 ≤ w.heap.size := hJ.lt
  have hst := start_LI w q (.func (Fn.func 28) #[] #[.pointer (some ⟨D, 0, none⟩), .pointer (some ⟨D + 1, 0, none⟩), .pointer (some ⟨D + 2, 0, none⟩)])
  have hI0 := hst.step (Below.alloc (Below.refl _ _) (Nat.le_refl _) (.cells #[] 3))
  have HV := Lib.hid (visitW_any hn0 hq7 ha hb1 h0 hn5 hx hi0 hm hP hK hJ hD hr hs)
  have HI0 := Lib.hid hI0
  have c0 : (((((w.alloc (.cells #[.int .i64 q] 3)).alloc (.cells #[.func (Fn.func 28) #[] #[.pointer (some ⟨D, 0, none⟩), .pointer (some ⟨D + 1, 0, none⟩), .pointer (some ⟨D + 2, 0, none⟩)]] 52)).alloc (.cells #[] 3)).alloc (.cells #[.slice (some ⟨w.heap.size + 2, 0, none⟩) 0 0] 22)).alloc (.cells #[.int .i64 (-1)] 3)).cell? ⟨w.heap.size, 0, none⟩ = some (.int .i64 q) := hst.num.cell 0
  have hmiss : missK [] q < q + 1 := by rw [missK_nil]; omega
  have HMI := Lib.hid hmiss
  clear hst hI0 hx hm hmiss
  go_enter Try.func27, Try.ntmps27
  go_wp2_with fail
  refine (eachOrder_any (lo := w.heap.size) (top := w.heap.size + 5) (cost := (costF a b c ink xs ms false)) (I := LI w w.heap.size q (.func (Fn.func 28) #[] #[.pointer (some ⟨D, 0, none⟩), .pointer (some ⟨D + 1, 0, none⟩), .pointer (some ⟨D + 2, 0, none⟩)])) (fun _ _ _ h hb => h.step hb) HV.out hq7 (q + 1) HI0.out (start_own w q (.func (Fn.func 28) #[] #[.pointer (some ⟨D, 0, none⟩), .pointer (some ⟨D + 1, 0, none⟩), .pointer (some ⟨D + 2, 0, none⟩)])).1 (start_own w q (.func (Fn.func 28) #[] #[.pointer (some ⟨D, 0, none⟩), .pointer (some ⟨D + 1, 0, none⟩), .pointer (some ⟨D + 2, 0, none⟩)])).2 (by omega) HMI.out (by simp)).mono ?_
  rintro e1 w1 ⟨rfl, hI1, hk1⟩
  obtain ⟨_, _, ⟨V, N, C, bs, l, hb3, hb4, hob, _, hN, hF⟩, hold⟩ := hI1
  have HF := Lib.hid hF
  clear hF hk1 c0
  have m0 : _ = some (.slice V N C : Value) := hb3.cell 0
  have m1 : _ = some (.int .i64 l : Value) := hb4.cell 0
  go_wp2_with fail
  go_quiet (fail)
  clear m0 m1
  go_wp2_with fail
  go_ret2
  exact ⟨V, N, C, bs, l, rfl, hob, hN, HF.out, below_drewN hold _⟩
set_option maxRecDepth 100000 in
theorem leastWashing_impl {a b c ink : Int} {A B : Option Addr} {n cp q cq : Nat} {xs : List Int} {ms : List PJob} {w : World} (hr : RInts w w.heap.size A n xs) (hn0 : n ≤ 1048576) (_ : -9223372036854775808 ≤ ink ∧ ink ≤ 9223372036854775807) (hs : RPJobs w w.heap.size B q ms) (hq0 : q ≤ 1048576) :
    Calls Try.prog 10 #[.agg #[.int .i64 a, .int .i64 b, .int .i64 c, .slice A n cp], .int .i64 ink, .slice B q cq] w fun e w' => ∃ V N C, e = .returned (.tuple #[.slice V N C, .int .i64 (leastV a b c ink xs ms false).2, .bool (bothB a b c xs ink ms)]) ∧ Own w' w.heap.size (.slice V N C) N (leastV a b c ink xs ms false).1 ∧ N ≤ 1048576 ∧ Below w.heap.size w w' := by
  have hP : Blk (((w.alloc (.cells #[.int .i64 a, .int .i64 b, .int .i64 c, .slice A n cp] 30)).alloc (.cells #[.int .i64 ink] 3)).alloc (.cells #[.slice B q cq] 32)) w.heap.size 30 [.int .i64 a, .int .i64 b, .int .i64 c, .slice A n cp] := ((Blk.new' w 30 #[.int .i64 a, .int .i64 b, .int .i64 c, .slice A n cp]).alloc _).alloc _
  have hK : Blk (((w.alloc (.cells #[.int .i64 a, .int .i64 b, .int .i64 c, .slice A n cp] 30)).alloc (.cells #[.int .i64 ink] 3)).alloc (.cells #[.slice B q cq] 32)) (w.heap.size + 1) 3 [.int .i64 ink] := Blk.alloc (by simpa using Blk.new' (w.alloc (.cells #[.int .i64 a, .int .i64 b, .int .i64 c, .slice A n cp] 30)) 3 #[.int .i64 ink]) _
  have hJ : Blk (((w.alloc (.cells #[.int .i64 a, .int .i64 b, .int .i64 c, .slice A n cp] 30)).alloc (.cells #[.int .i64 ink] 3)).alloc (.cells #[.slice B q cq] 32)) (w.heap.size + 2) 32 [.slice B q cq] := by simpa using Blk.new' ((w.alloc (.cells #[.int .i64 a, .int .i64 b, .int .i64 c, .slice A n cp] 30)).alloc (.cells #[.int .i64 ink] 3)) 32 #[.slice B q cq]
  have hb : Below w.heap.size w (((w.alloc (.cells #[.int .i64 a, .int .i64 b, .int .i64 c, .slice A n cp] 30)).alloc (.cells #[.int .i64 ink] 3)).alloc (.cells #[.slice B q cq] 32)) := (by (repeat (first | exact Below.refl _ _ | exact hb | apply Below.drew | (refine Below.alloc ?_ (by first | (simp; done) | (simp; omega) | (have := hb.size; simp at this ⊢; omega)) _) | (refine Below.setCell ?_ (by simp) _))))
  have hr1 := (RInts.below hr hb).more hb.size
  have hs1 := (RPJobs.below hs hb).more hb.size
  have p0 : _ = some (.int .i64 a : Value) := hP.cell 0
  have p1 : _ = some (.int .i64 b : Value) := hP.cell 1
  have p2 : _ = some (.int .i64 c : Value) := hP.cell 2
  have p3 : _ = some (.slice A n cp : Value) := hP.cell 3
  have p4 : _ = some (.int .i64 ink : Value) := hK.cell 0
  have p5 : _ = some (.slice B q cq : Value) := hJ.cell 0
  cases h1 : bothB a b c xs ink ms
  · (go_enter Try.func10, Try.ntmps10; go_wp2_with fail; refine (isPressWork_any hr1 hn0 hs1 hq0).mono ?_; rintro e1 w1 ⟨rfl, hn⟩; clear p0 p1 p2 p3 p4 p5; replace hb := hb.trans (hn.mono hb.size); replace hP := hP.below hn hP.lt; replace hK := hK.below hn hK.lt; replace hJ := hJ.below hn hJ.lt; replace hr1 := (RInts.below hr1 hn).more hn.size; replace hs1 := (RPJobs.below hs1 hn).more hn.size; clear hn)
    go_wp2_with fail
    go_ret3
    have e9 := least_no (dl := false) h1
    refine ⟨some ⟨w1.heap.size, 0, none⟩, 0, 0, by simp [e9], ?_, by omega, (by (repeat (first | exact Below.refl _ _ | exact hb | apply Below.drew | (refine Below.alloc ?_ (by first | (simp; done) | (simp; omega) | (have := hb.size; simp at this ⊢; omega)) _) | (refine Below.setCell ?_ (by simp) _))))⟩
    rw [e9]
    exact own_lower (own_empty w1 w1.heap.size (Nat.le_refl _)) hb.size
  · obtain ⟨⟨b1, b2, b3, b4, b5⟩, b6, b7, b8⟩ := bothB_true h1
    have HX := Lib.hid b5
    have HM := Lib.hid b8
    have HS := Lib.hid hs.len
    have H1 := Lib.hid h1
    have hn5 : 5 ≤ n := (by have := hr.len; omega)
    have hq7 : q ≤ 7 := (by have := hs.len; omega)
    clear b4 b5 b7 b8
    (go_enter Try.func10, Try.ntmps10; go_wp2_with fail; refine (isPressWork_any hr1 hn0 hs1 hq0).mono ?_; rintro e1 w1 ⟨rfl, hn⟩; clear p0 p1 p2 p3 p4 p5; replace hb := hb.trans (hn.mono hb.size); replace hP := hP.below hn hP.lt; replace hK := hK.below hn hK.lt; replace hJ := hJ.below hn hJ.lt; replace hr1 := (RInts.below hr1 hn).more hn.size; replace hs1 := (RPJobs.below hs1 hn).more hn.size; clear hn)
    have p5 : _ = some (.slice B q cq : Value) := hJ.cell 0
    go_wp2_with fail
    refine (leastOrderW_any hn0 hq7 b1 b2 b3 hn5 HX.out b6 HM.out hP hK hJ hr1 hs1).mono ?_
    rintro e1 w2 ⟨V, N, C, bs, l, rfl, hO, hN, hF, hn⟩
    have HL := Lib.hid (least_l H1.out HS.out hF)
    have hsz := hb.size
    replace hb := hb.trans (hn.mono hb.size)
    clear p5 hF
    go_wp2_with fail
    go_ret3
    refine ⟨V, N, C, by simp [HL.out], ?_, by omega, hb⟩
    rw [HL.out]
    exact own_lower hO hsz
set_option maxRecDepth 100000 in
theorem leastWashing_spec {a b c ink : Int} {A B : Option Addr} {n cp q cq : Nat} {xs : List Int} {ms : List PJob} {w : World} (hr : RInts w w.heap.size A n xs) (hn0 : n ≤ 1048576) (_ : -9223372036854775808 ≤ ink ∧ ink ≤ 9223372036854775807) (hs : RPJobs w w.heap.size B q ms) (hq0 : q ≤ 1048576) :
    Calls Try.prog 7 #[.agg #[.int .i64 a, .int .i64 b, .int .i64 c, .slice A n cp], .int .i64 ink, .slice B q cq] w fun e w' => ∃ V N C, e = .returned (.tuple #[.slice V N C, .int .i64 (leastV a b c ink xs ms false).2, .bool (bothB a b c xs ink ms)]) ∧ Own w' w.heap.size (.slice V N C) N (leastV a b c ink xs ms false).1 ∧ N ≤ 1048576 ∧ Below w.heap.size w w' := by
  have hP := Blk.new' w 30 #[.int .i64 a, .int .i64 b, .int .i64 c, .slice A n cp]
  have hb : Below w.heap.size w (w.alloc (.cells #[.int .i64 a, .int .i64 b, .int .i64 c, .slice A n cp] 30)) := (by (repeat (first | exact Below.refl _ _ | exact hb | apply Below.drew | (refine Below.alloc ?_ (by first | (simp; done) | (simp; omega) | (have := hb.size; simp at this ⊢; omega)) _) | (refine Below.setCell ?_ (by simp) _))))
  have hr1 := (RInts.below hr hb).more hb.size
  have hs1 := (RPJobs.below hs hb).more hb.size
  have p0 : _ = some (.int .i64 a : Value) := hP.cell 0
  have p1 : _ = some (.int .i64 b : Value) := hP.cell 1
  have p2 : _ = some (.int .i64 c : Value) := hP.cell 2
  have p3 : _ = some (.slice A n cp : Value) := hP.cell 3
  cases h1 : bothB a b c xs ink ms
  · (go_enter Try.func7, Try.ntmps7; go_wp2_with fail; refine (prBoth_any hr1 hn0 hs1 hq0).mono ?_; rintro e1 w1 ⟨rfl, hn⟩; clear p0 p1 p2 p3; replace hb := hb.trans (hn.mono hb.size); replace hP := hP.below hn hP.lt; replace hr1 := (RInts.below hr1 hn).more hn.size; replace hs1 := (RPJobs.below hs1 hn).more hn.size; clear hn)
    go_wp2_with fail
    go_ret3
    have e9 := least_no (dl := false) h1
    refine ⟨none, 0, 0, by simp [e9], ?_, by omega, hb⟩
    rw [e9]
    exact own_nil _ _
  · obtain ⟨⟨b1, b2, b3, b4, b5⟩, b6, b7, b8⟩ := bothB_true h1
    have HX := Lib.hid b5
    have HM := Lib.hid b8
    have HS := Lib.hid hs.len
    have H1 := Lib.hid h1
    have hn5 : 5 ≤ n := (by have := hr.len; omega)
    have hq7 : q ≤ 7 := (by have := hs.len; omega)
    clear b4 b5 b7 b8
    (go_enter Try.func7, Try.ntmps7; go_wp2_with fail; refine (prBoth_any hr1 hn0 hs1 hq0).mono ?_; rintro e1 w1 ⟨rfl, hn⟩; clear p0 p1 p2 p3; replace hb := hb.trans (hn.mono hb.size); replace hP := hP.below hn hP.lt; replace hr1 := (RInts.below hr1 hn).more hn.size; replace hs1 := (RPJobs.below hs1 hn).more hn.size; clear hn)
    have HC := Lib.hid (show ∀ wx, Below w1.heap.size w1 wx → (wx.cell? ⟨w.heap.size, 0, none⟩ = some (.int .i64 a) ∧ wx.cell? ⟨w.heap.size, 1, none⟩ = some (.int .i64 b) ∧ wx.cell? ⟨w.heap.size, 2, none⟩ = some (.int .i64 c) ∧ wx.cell? ⟨w.heap.size, 3, none⟩ = some (.slice A n cp)) from fun wx h => ⟨(hP.below h hP.lt).cell 0, (hP.below h hP.lt).cell 1, (hP.below h hP.lt).cell 2, (hP.below h hP.lt).cell 3⟩)
    go_wp2_with fail
    go_region_held3 (fun wx => Below w1.heap.size w1 wx ∧ (wx.cell? ⟨w.heap.size, 0, none⟩ = some (.int .i64 a) ∧ wx.cell? ⟨w.heap.size, 1, none⟩ = some (.int .i64 b) ∧ wx.cell? ⟨w.heap.size, 2, none⟩ = some (.int .i64 c) ∧ wx.cell? ⟨w.heap.size, 3, none⟩ = some (.slice A n cp))) ((first | exact ⟨(Below.refl _ _).drew, HC.out _ (Below.refl _ _).drew⟩ | (have hh : Below _ _ _ ∧ _ := (by assumption); have hh0 := hh.1.trans (hn.mono hh.1.size); exact ⟨hh0, HC.out _ hh0⟩) | assumption | go_keep)) (first
      | (go_at_call 23; (have hh : Below _ _ _ ∧ _ := (by assumption)); refine (prTimes_any ((RPJobs.below hs1 hh.1).more hh.1.size) hq0 b1 b2 b3 HM.out).mono ?_; rintro e1 wi ⟨VT, CT, rfl, hoT, hn⟩)
      | (go_at_call 22; (have hh : Below _ _ _ ∧ _ := (by assumption)); (have hsE := Nat.le_trans hb.size hh.1.size); refine (prBest_any (s := none) hn0 hq7 b1 b2 b3 hn5 HX.out b6 HM.out (q + 1) ((RInts.below hr1 hh.1).more hh.1.size) ((RPJobs.below hs1 hh.1).more hh.1.size) (by exact own_rints hoT) (own_nil _ _) ⟨[], own_nil _ _, by omega, rfl⟩ (Nat.le_refl _) (by omega) (by omega) (by simp)).mono ?_; rintro e1 wi ⟨V, N, C, l, fd, rfl, hst, hn⟩; obtain ⟨bs, hO, hN, hF⟩ := hst; have HL := Lib.hid (least_best H1.out HS.out hF); clear hF))
    clear HC
    have hn9 : Below w1.heap.size w1 _ ∧ _ := (by assumption)
    obtain ⟨hn, _⟩ := hn9
    replace hb := hb.trans (hn.mono hb.size)
    go_wp2_with fail
    go_ret3
    refine ⟨V, N, C, by simp [HL.out.1, HL.out.2], ?_, by omega, hb⟩
    rw [HL.out.1]
    exact own_lower hO hsE
set_option maxRecDepth 100000 in
theorem leastOrderD_any {a b c ink : Int} {A B : Option Addr} {n cp q cq D : Nat} {xs : List Int} {ms : List PJob} {w : World} (hn0 : n ≤ 1048576) (hq7 : q ≤ 7) (ha : 1 ≤ a ∧ a ≤ 5000) (hb1 : 0 ≤ b ∧ b ≤ 600) (h0 : 0 ≤ c ∧ c ≤ 500) (hn5 : 5 ≤ n) (hx : ∀ x ∈ xs, 0 ≤ x ∧ x ≤ 300) (hi0 : 0 ≤ ink ∧ ink ≤ 4) (hm : (∀ m ∈ ms, (0 ≤ m.ink ∧ m.ink ≤ 4) ∧ (1 ≤ m.sheets ∧ m.sheets ≤ 20000) ∧ (0 ≤ m.due ∧ m.due ≤ 100000)))
    (hP : Blk w D 30 [.int .i64 a, .int .i64 b, .int .i64 c, .slice A n cp]) (hK : Blk w (D + 1) 3 [.int .i64 ink]) (hJ : Blk w (D + 2) 32 [.slice B q cq])
    (hr : RInts w w.heap.size A n xs) (hs : RPJobs w w.heap.size B q ms) :
    Calls Try.prog 27 #[.int .i64 q, .func (Fn.func 31) #[] #[.pointer (some ⟨D, 0, none⟩), .pointer (some ⟨D + 1, 0, none⟩), .pointer (some ⟨D + 2, 0, none⟩)]] w fun e w' => ∃ V N C bs l, e = .returned (.tuple #[.slice V N C, .int .i64 l]) ∧ Own w' w.heap.size (.slice V N C) N bs ∧ N ≤ 7 ∧ FndL (allF (costF a b c ink xs ms true) q (q + 1) [] none) bs l ∧ Below w.heap.size w w' := by
  have hD : D + 3 ≤ w.heap.size := hJ.lt
  have hst := start_LI w q (.func (Fn.func 31) #[] #[.pointer (some ⟨D, 0, none⟩), .pointer (some ⟨D + 1, 0, none⟩), .pointer (some ⟨D + 2, 0, none⟩)])
  have hI0 := hst.step (Below.alloc (Below.refl _ _) (Nat.le_refl _) (.cells #[] 3))
  have HV := Lib.hid (visitD_any hn0 hq7 ha hb1 h0 hn5 hx hi0 hm hP hK hJ hD hr hs)
  have HI0 := Lib.hid hI0
  have c0 : (((((w.alloc (.cells #[.int .i64 q] 3)).alloc (.cells #[.func (Fn.func 31) #[] #[.pointer (some ⟨D, 0, none⟩), .pointer (some ⟨D + 1, 0, none⟩), .pointer (some ⟨D + 2, 0, none⟩)]] 52)).alloc (.cells #[] 3)).alloc (.cells #[.slice (some ⟨w.heap.size + 2, 0, none⟩) 0 0] 22)).alloc (.cells #[.int .i64 (-1)] 3)).cell? ⟨w.heap.size, 0, none⟩ = some (.int .i64 q) := hst.num.cell 0
  have hmiss : missK [] q < q + 1 := by rw [missK_nil]; omega
  have HMI := Lib.hid hmiss
  clear hst hI0 hx hm hmiss
  go_enter Try.func27, Try.ntmps27
  go_wp2_with fail
  refine (eachOrder_any (lo := w.heap.size) (top := w.heap.size + 5) (cost := (costF a b c ink xs ms true)) (I := LI w w.heap.size q (.func (Fn.func 31) #[] #[.pointer (some ⟨D, 0, none⟩), .pointer (some ⟨D + 1, 0, none⟩), .pointer (some ⟨D + 2, 0, none⟩)])) (fun _ _ _ h hb => h.step hb) HV.out hq7 (q + 1) HI0.out (start_own w q (.func (Fn.func 31) #[] #[.pointer (some ⟨D, 0, none⟩), .pointer (some ⟨D + 1, 0, none⟩), .pointer (some ⟨D + 2, 0, none⟩)])).1 (start_own w q (.func (Fn.func 31) #[] #[.pointer (some ⟨D, 0, none⟩), .pointer (some ⟨D + 1, 0, none⟩), .pointer (some ⟨D + 2, 0, none⟩)])).2 (by omega) HMI.out (by simp)).mono ?_
  rintro e1 w1 ⟨rfl, hI1, hk1⟩
  obtain ⟨_, _, ⟨V, N, C, bs, l, hb3, hb4, hob, _, hN, hF⟩, hold⟩ := hI1
  have HF := Lib.hid hF
  clear hF hk1 c0
  have m0 : _ = some (.slice V N C : Value) := hb3.cell 0
  have m1 : _ = some (.int .i64 l : Value) := hb4.cell 0
  go_wp2_with fail
  go_quiet (fail)
  clear m0 m1
  go_wp2_with fail
  go_ret2
  exact ⟨V, N, C, bs, l, rfl, hob, hN, HF.out, below_drewN hold _⟩
set_option maxRecDepth 100000 in
theorem leastDelay_impl {a b c ink : Int} {A B : Option Addr} {n cp q cq : Nat} {xs : List Int} {ms : List PJob} {w : World} (hr : RInts w w.heap.size A n xs) (hn0 : n ≤ 1048576) (_ : -9223372036854775808 ≤ ink ∧ ink ≤ 9223372036854775807) (hs : RPJobs w w.heap.size B q ms) (hq0 : q ≤ 1048576) :
    Calls Try.prog 19 #[.agg #[.int .i64 a, .int .i64 b, .int .i64 c, .slice A n cp], .int .i64 ink, .slice B q cq] w fun e w' => ∃ V N C, e = .returned (.tuple #[.slice V N C, .int .i64 (leastV a b c ink xs ms true).2, .bool (bothB a b c xs ink ms)]) ∧ Own w' w.heap.size (.slice V N C) N (leastV a b c ink xs ms true).1 ∧ N ≤ 1048576 ∧ Below w.heap.size w w' := by
  have hP : Blk (((w.alloc (.cells #[.int .i64 a, .int .i64 b, .int .i64 c, .slice A n cp] 30)).alloc (.cells #[.int .i64 ink] 3)).alloc (.cells #[.slice B q cq] 32)) w.heap.size 30 [.int .i64 a, .int .i64 b, .int .i64 c, .slice A n cp] := ((Blk.new' w 30 #[.int .i64 a, .int .i64 b, .int .i64 c, .slice A n cp]).alloc _).alloc _
  have hK : Blk (((w.alloc (.cells #[.int .i64 a, .int .i64 b, .int .i64 c, .slice A n cp] 30)).alloc (.cells #[.int .i64 ink] 3)).alloc (.cells #[.slice B q cq] 32)) (w.heap.size + 1) 3 [.int .i64 ink] := Blk.alloc (by simpa using Blk.new' (w.alloc (.cells #[.int .i64 a, .int .i64 b, .int .i64 c, .slice A n cp] 30)) 3 #[.int .i64 ink]) _
  have hJ : Blk (((w.alloc (.cells #[.int .i64 a, .int .i64 b, .int .i64 c, .slice A n cp] 30)).alloc (.cells #[.int .i64 ink] 3)).alloc (.cells #[.slice B q cq] 32)) (w.heap.size + 2) 32 [.slice B q cq] := by simpa using Blk.new' ((w.alloc (.cells #[.int .i64 a, .int .i64 b, .int .i64 c, .slice A n cp] 30)).alloc (.cells #[.int .i64 ink] 3)) 32 #[.slice B q cq]
  have hb : Below w.heap.size w (((w.alloc (.cells #[.int .i64 a, .int .i64 b, .int .i64 c, .slice A n cp] 30)).alloc (.cells #[.int .i64 ink] 3)).alloc (.cells #[.slice B q cq] 32)) := (by (repeat (first | exact Below.refl _ _ | exact hb | apply Below.drew | (refine Below.alloc ?_ (by first | (simp; done) | (simp; omega) | (have := hb.size; simp at this ⊢; omega)) _) | (refine Below.setCell ?_ (by simp) _))))
  have hr1 := (RInts.below hr hb).more hb.size
  have hs1 := (RPJobs.below hs hb).more hb.size
  have p0 : _ = some (.int .i64 a : Value) := hP.cell 0
  have p1 : _ = some (.int .i64 b : Value) := hP.cell 1
  have p2 : _ = some (.int .i64 c : Value) := hP.cell 2
  have p3 : _ = some (.slice A n cp : Value) := hP.cell 3
  have p4 : _ = some (.int .i64 ink : Value) := hK.cell 0
  have p5 : _ = some (.slice B q cq : Value) := hJ.cell 0
  cases h1 : bothB a b c xs ink ms
  · (go_enter Try.func19, Try.ntmps19; go_wp2_with fail; refine (isPressWork_any hr1 hn0 hs1 hq0).mono ?_; rintro e1 w1 ⟨rfl, hn⟩; clear p0 p1 p2 p3 p4 p5; replace hb := hb.trans (hn.mono hb.size); replace hP := hP.below hn hP.lt; replace hK := hK.below hn hK.lt; replace hJ := hJ.below hn hJ.lt; replace hr1 := (RInts.below hr1 hn).more hn.size; replace hs1 := (RPJobs.below hs1 hn).more hn.size; clear hn)
    go_wp2_with fail
    go_ret3
    have e9 := least_no (dl := true) h1
    refine ⟨some ⟨w1.heap.size, 0, none⟩, 0, 0, by simp [e9], ?_, by omega, (by (repeat (first | exact Below.refl _ _ | exact hb | apply Below.drew | (refine Below.alloc ?_ (by first | (simp; done) | (simp; omega) | (have := hb.size; simp at this ⊢; omega)) _) | (refine Below.setCell ?_ (by simp) _))))⟩
    rw [e9]
    exact own_lower (own_empty w1 w1.heap.size (Nat.le_refl _)) hb.size
  · obtain ⟨⟨b1, b2, b3, b4, b5⟩, b6, b7, b8⟩ := bothB_true h1
    have HX := Lib.hid b5
    have HM := Lib.hid b8
    have HS := Lib.hid hs.len
    have H1 := Lib.hid h1
    have hn5 : 5 ≤ n := (by have := hr.len; omega)
    have hq7 : q ≤ 7 := (by have := hs.len; omega)
    clear b4 b5 b7 b8
    (go_enter Try.func19, Try.ntmps19; go_wp2_with fail; refine (isPressWork_any hr1 hn0 hs1 hq0).mono ?_; rintro e1 w1 ⟨rfl, hn⟩; clear p0 p1 p2 p3 p4 p5; replace hb := hb.trans (hn.mono hb.size); replace hP := hP.below hn hP.lt; replace hK := hK.below hn hK.lt; replace hJ := hJ.below hn hJ.lt; replace hr1 := (RInts.below hr1 hn).more hn.size; replace hs1 := (RPJobs.below hs1 hn).more hn.size; clear hn)
    have p5 : _ = some (.slice B q cq : Value) := hJ.cell 0
    go_wp2_with fail
    refine (leastOrderD_any hn0 hq7 b1 b2 b3 hn5 HX.out b6 HM.out hP hK hJ hr1 hs1).mono ?_
    rintro e1 w2 ⟨V, N, C, bs, l, rfl, hO, hN, hF, hn⟩
    have HL := Lib.hid (least_l H1.out HS.out hF)
    have hsz := hb.size
    replace hb := hb.trans (hn.mono hb.size)
    clear p5 hF
    go_wp2_with fail
    go_ret3
    refine ⟨V, N, C, by simp [HL.out], ?_, by omega, hb⟩
    rw [HL.out]
    exact own_lower hO hsz
set_option maxRecDepth 100000 in
theorem leastDelay_spec {a b c ink : Int} {A B : Option Addr} {n cp q cq : Nat} {xs : List Int} {ms : List PJob} {w : World} (hr : RInts w w.heap.size A n xs) (hn0 : n ≤ 1048576) (_ : -9223372036854775808 ≤ ink ∧ ink ≤ 9223372036854775807) (hs : RPJobs w w.heap.size B q ms) (hq0 : q ≤ 1048576) :
    Calls Try.prog 18 #[.agg #[.int .i64 a, .int .i64 b, .int .i64 c, .slice A n cp], .int .i64 ink, .slice B q cq] w fun e w' => ∃ V N C, e = .returned (.tuple #[.slice V N C, .int .i64 (leastV a b c ink xs ms true).2, .bool (bothB a b c xs ink ms)]) ∧ Own w' w.heap.size (.slice V N C) N (leastV a b c ink xs ms true).1 ∧ N ≤ 1048576 ∧ Below w.heap.size w w' := by
  have hP := Blk.new' w 30 #[.int .i64 a, .int .i64 b, .int .i64 c, .slice A n cp]
  have hb : Below w.heap.size w (w.alloc (.cells #[.int .i64 a, .int .i64 b, .int .i64 c, .slice A n cp] 30)) := (by (repeat (first | exact Below.refl _ _ | exact hb | apply Below.drew | (refine Below.alloc ?_ (by first | (simp; done) | (simp; omega) | (have := hb.size; simp at this ⊢; omega)) _) | (refine Below.setCell ?_ (by simp) _))))
  have hr1 := (RInts.below hr hb).more hb.size
  have hs1 := (RPJobs.below hs hb).more hb.size
  have p0 : _ = some (.int .i64 a : Value) := hP.cell 0
  have p1 : _ = some (.int .i64 b : Value) := hP.cell 1
  have p2 : _ = some (.int .i64 c : Value) := hP.cell 2
  have p3 : _ = some (.slice A n cp : Value) := hP.cell 3
  cases h1 : bothB a b c xs ink ms
  · (go_enter Try.func18, Try.ntmps18; go_wp2_with fail; refine (prBoth_any hr1 hn0 hs1 hq0).mono ?_; rintro e1 w1 ⟨rfl, hn⟩; clear p0 p1 p2 p3; replace hb := hb.trans (hn.mono hb.size); replace hP := hP.below hn hP.lt; replace hr1 := (RInts.below hr1 hn).more hn.size; replace hs1 := (RPJobs.below hs1 hn).more hn.size; clear hn)
    go_wp2_with fail
    go_ret3
    have e9 := least_no (dl := true) h1
    refine ⟨none, 0, 0, by simp [e9], ?_, by omega, hb⟩
    rw [e9]
    exact own_nil _ _
  · obtain ⟨⟨b1, b2, b3, b4, b5⟩, b6, b7, b8⟩ := bothB_true h1
    have HX := Lib.hid b5
    have HM := Lib.hid b8
    have HS := Lib.hid hs.len
    have H1 := Lib.hid h1
    have hn5 : 5 ≤ n := (by have := hr.len; omega)
    have hq7 : q ≤ 7 := (by have := hs.len; omega)
    clear b4 b5 b7 b8
    (go_enter Try.func18, Try.ntmps18; go_wp2_with fail; refine (prBoth_any hr1 hn0 hs1 hq0).mono ?_; rintro e1 w1 ⟨rfl, hn⟩; clear p0 p1 p2 p3; replace hb := hb.trans (hn.mono hb.size); replace hP := hP.below hn hP.lt; replace hr1 := (RInts.below hr1 hn).more hn.size; replace hs1 := (RPJobs.below hs1 hn).more hn.size; clear hn)
    have HC := Lib.hid (show ∀ wx, Below w1.heap.size w1 wx → (wx.cell? ⟨w.heap.size, 0, none⟩ = some (.int .i64 a) ∧ wx.cell? ⟨w.heap.size, 1, none⟩ = some (.int .i64 b) ∧ wx.cell? ⟨w.heap.size, 2, none⟩ = some (.int .i64 c) ∧ wx.cell? ⟨w.heap.size, 3, none⟩ = some (.slice A n cp)) from fun wx h => ⟨(hP.below h hP.lt).cell 0, (hP.below h hP.lt).cell 1, (hP.below h hP.lt).cell 2, (hP.below h hP.lt).cell 3⟩)
    go_wp2_with fail
    go_region_held3 (fun wx => Below w1.heap.size w1 wx ∧ (wx.cell? ⟨w.heap.size, 0, none⟩ = some (.int .i64 a) ∧ wx.cell? ⟨w.heap.size, 1, none⟩ = some (.int .i64 b) ∧ wx.cell? ⟨w.heap.size, 2, none⟩ = some (.int .i64 c) ∧ wx.cell? ⟨w.heap.size, 3, none⟩ = some (.slice A n cp))) ((first | exact ⟨(Below.refl _ _).drew, HC.out _ (Below.refl _ _).drew⟩ | (have hh : Below _ _ _ ∧ _ := (by assumption); have hh0 := hh.1.trans (hn.mono hh.1.size); exact ⟨hh0, HC.out _ hh0⟩) | assumption | go_keep)) (first
      | (go_at_call 23; (have hh : Below _ _ _ ∧ _ := (by assumption)); refine (prTimes_any ((RPJobs.below hs1 hh.1).more hh.1.size) hq0 b1 b2 b3 HM.out).mono ?_; rintro e1 wi ⟨VT, CT, rfl, hoT, hn⟩)
      | (go_at_call 22; (have hh : Below _ _ _ ∧ _ := (by assumption)); (have hsE := Nat.le_trans hb.size hh.1.size); refine (prBest_any (s := none) hn0 hq7 b1 b2 b3 hn5 HX.out b6 HM.out (q + 1) ((RInts.below hr1 hh.1).more hh.1.size) ((RPJobs.below hs1 hh.1).more hh.1.size) (by exact own_rints hoT) (own_nil _ _) ⟨[], own_nil _ _, by omega, rfl⟩ (Nat.le_refl _) (by omega) (by omega) (by simp)).mono ?_; rintro e1 wi ⟨V, N, C, l, fd, rfl, hst, hn⟩; obtain ⟨bs, hO, hN, hF⟩ := hst; have HL := Lib.hid (least_best H1.out HS.out hF); clear hF))
    clear HC
    have hn9 : Below w1.heap.size w1 _ ∧ _ := (by assumption)
    obtain ⟨hn, _⟩ := hn9
    replace hb := hb.trans (hn.mono hb.size)
    go_wp2_with fail
    go_ret3
    refine ⟨V, N, C, by simp [HL.out.1, HL.out.2], ?_, by omega, hb⟩
    rw [HL.out.1]
    exact own_lower hO hsE
end Go.Proofs.Ytfjkmocjlmcjdaa
