/-
  Contracts: the first order with the least cost (impl.leastOrder), for the two costs.
-/
import Derived.Test.YtfjkmocjlmcjdaaPrF
import Derived.Deep.RegionHeld3
namespace Go.Proofs.Ytfjkmocjlmcjdaa
open Go.RowKit
theorem KeptI.setCell {lo hi : Nat} {a b : World} (h : KeptI lo hi a b) {p : Addr} (h1 : lo ≤ p.block) (h2 : p.block < hi) (u : Value) : KeptI lo hi a (b.setCell p u) :=
  ⟨h.os, h.tape, h.output, by simpa [World.setCell] using h.size, fun k hk hne => (Below.heap_setCell b p u k (by omega)).trans (h.block k hk hne)⟩
theorem own_far {w : World} {B n : Nat} {v : Value} {xs : List Int} (h : Own w B v n xs) {p : Addr} (hp : ∀ k, v.ownBlock = some k → k ≠ p.block) (u : Value) : Own (w.setCell p u) B v n xs := by
  refine ⟨h.1, ?_⟩
  rcases h.2 with hn | ⟨g, cap, cur, rfl, hB, hg, rest⟩
  · exact .inl hn
  · exact .inr ⟨g, cap, cur, rfl, hB, (Below.heap_setCell w p u g (hp g rfl)).trans hg, rest⟩
/-- What leastOrder has found, as its two variables tell it. -/
def FndL : Fnd → List Int → Int → Prop
  | none, _, l => l = -1
  | some (b, m), bs, l => bs = b ∧ l = m ∧ 0 ≤ m
structure BestL (w : World) (B : Nat) (s : Fnd) : Prop where
  ex : ∃ (V : Option Addr) (N C : Nat) (bs : List Int) (l : Int), Blk w (B + 3) 22 [.slice V N C] ∧ Blk w (B + 4) 3 [.int .i64 l] ∧ Own w B (.slice V N C) N bs ∧ (∀ k, (Value.slice V N C).ownBlock = some k → k ≠ B + 3 ∧ k ≠ B + 4) ∧ N ≤ 7 ∧ FndL s bs l
structure LI (w0 : World) (B n : Nat) (costv : Value) (w : World) (s : Fnd) : Prop where
  num : Blk w B 3 [.int .i64 n]
  cost : Blk w (B + 1) 52 [costv]
  best : BestL w B s
  old : Below B w0 w
theorem LI.step {w0 w w' : World} {B n : Nat} {costv : Value} {s : Fnd} (h : LI w0 B n costv w s) (hb : Below w.heap.size w w') : LI w0 B n costv w' s := by
  obtain ⟨V, N, C, bs, l, h1, h2, h3, h4, h5, h6⟩ := h.best.ex
  exact ⟨h.num.below hb h.num.lt, h.cost.below hb h.cost.lt, ⟨V, N, C, bs, l, h1.below hb h1.lt, h2.below hb h2.lt, row_step h3 hb, h4, h5, h6⟩, h.old.trans (hb.mono (Nat.le_of_lt h.num.lt))⟩
theorem updF_keep {cost : List Int → Int} {o b bs : List Int} {m l : Int} (h : FndL (some (b, m)) bs l) (hc : ¬ cost o < l) : updF cost o (some (b, m)) = some (b, m) := by
  obtain ⟨h1, h2, h3⟩ := h
  subst h2
  rw [updF, if_neg hc]
theorem updF_new {cost : List Int → Int} {o bs : List Int} {l : Int} {s : Fnd} (h : FndL s bs l) (hc : l < 0 ∨ cost o < l) : updF cost o s = some (o, cost o) := by
  cases s with
  | none => rfl
  | some p =>
    obtain ⟨b, m⟩ := p
    obtain ⟨h1, h2, h3⟩ := h
    subst h2
    rw [updF, if_pos (by omega)]
theorem FndL_some {s : Fnd} {bs : List Int} {l : Int} (h : FndL s bs l) (hl : ¬ l < 0) : ∃ b, s = some (b, l) := by
  cases s with
  | none => exact absurd (show l < 0 by have : l = -1 := h; omega) hl
  | some p =>
    obtain ⟨b, m⟩ := p
    obtain ⟨h1, h2, h3⟩ := h
    exact ⟨b, by rw [h2]⟩

set_option maxRecDepth 100000 in
theorem costW_any {a b c ink : Int} {A B O : Option Addr} {n cp q cq r cr D : Nat} {xs os : List Int} {ms : List PJob} {w : World} (hn0 : n ≤ 1048576) (hq7 : q ≤ 7) (ha : 1 ≤ a ∧ a ≤ 5000) (hb1 : 0 ≤ b ∧ b ≤ 600) (h0 : 0 ≤ c ∧ c ≤ 500) (hn5 : 5 ≤ n) (hx : ∀ x ∈ xs, 0 ≤ x ∧ x ≤ 300) (hi0 : 0 ≤ ink ∧ ink ≤ 4) (hm : (∀ m ∈ ms, (0 ≤ m.ink ∧ m.ink ≤ 4) ∧ (1 ≤ m.sheets ∧ m.sheets ≤ 20000) ∧ (0 ≤ m.due ∧ m.due ≤ 100000)))
    (hP : Blk w D 30 [.int .i64 a, .int .i64 b, .int .i64 c, .slice A n cp]) (hK : Blk w (D + 1) 3 [.int .i64 ink]) (hJ : Blk w (D + 2) 32 [.slice B q cq])
    (hr : RInts w w.heap.size A n xs) (hs : RPJobs w w.heap.size B q ms) (ho : RInts w w.heap.size O r os) (hr7 : r ≤ 7) (hios : ∀ i ∈ os, 0 ≤ i ∧ i < q) :
    Calls Try.prog 28 #[.slice O r cr, .pointer (some ⟨D, 0, none⟩), .pointer (some ⟨D + 1, 0, none⟩), .pointer (some ⟨D + 2, 0, none⟩)] w fun e w' => e = .returned (.int .i64 ((costF a b c ink xs ms false) os)) ∧ Below w.heap.size w w' := by
  have HX := Lib.hid hx
  have HM := Lib.hid hm
  have HI := Lib.hid hios
  clear hx hm hios
  have p0 : _ = some (.int .i64 a : Value) := hP.cell 0
  have p1 : _ = some (.int .i64 b : Value) := hP.cell 1
  have p2 : _ = some (.int .i64 c : Value) := hP.cell 2
  have p3 : _ = some (.slice A n cp : Value) := hP.cell 3
  have p4 : _ = some (.int .i64 ink : Value) := hK.cell 0
  have p5 : _ = some (.slice B q cq : Value) := hJ.cell 0
  go_enter Try.func28, Try.ntmps28
  go_wp2_with fail
  refine (run_any hr hn0 hs (by omega) ho (by omega) ha hb1 h0 hn5 HX.out hi0 HM.out HI.out hr7).mono ?_
  rintro e1 w1 ⟨V, C2, rfl, hoE, hn⟩
  go_wp2_with fail
  go_ret
  exact ⟨rfl, hn⟩
set_option maxRecDepth 100000 in
set_option maxHeartbeats 1000000 in
theorem visitW_any {a b c ink : Int} {A B : Option Addr} {n cp q cq D L : Nat} {xs : List Int} {ms : List PJob} {w0 : World} (hn0 : n ≤ 1048576) (hq7 : q ≤ 7) (ha : 1 ≤ a ∧ a ≤ 5000) (hb1 : 0 ≤ b ∧ b ≤ 600) (h0 : 0 ≤ c ∧ c ≤ 500) (hn5 : 5 ≤ n) (hx : ∀ x ∈ xs, 0 ≤ x ∧ x ≤ 300) (hi0 : 0 ≤ ink ∧ ink ≤ 4) (hm : (∀ m ∈ ms, (0 ≤ m.ink ∧ m.ink ≤ 4) ∧ (1 ≤ m.sheets ∧ m.sheets ≤ 20000) ∧ (0 ≤ m.due ∧ m.due ≤ 100000)))
    (hP : Blk w0 D 30 [.int .i64 a, .int .i64 b, .int .i64 c, .slice A n cp]) (hK : Blk w0 (D + 1) 3 [.int .i64 ink]) (hJ : Blk w0 (D + 2) 32 [.slice B q cq]) (hD : D + 3 ≤ L)
    (hr : RInts w0 L A n xs) (hs : RPJobs w0 L B q ms) :
    ∀ (w : World) (g N C : Nat) (os : List Int) (s : Fnd), LI w0 L q (.func (Fn.func 28) #[] #[.pointer (some ⟨D, 0, none⟩), .pointer (some ⟨D + 1, 0, none⟩), .pointer (some ⟨D + 2, 0, none⟩)]) w s → Own w (L + 5) (.slice (some ⟨g, 0, none⟩) N C) N os → N ≤ q → L + 5 ≤ w.heap.size → (∀ i ∈ os, 0 ≤ i ∧ i < q) →
      Calls Try.prog 44 #[.slice (some ⟨g, 0, none⟩) N C, .pointer (some ⟨L, 0, none⟩), .pointer (some ⟨L + 1, 0, none⟩), .pointer (some ⟨L + 4, 0, none⟩), .pointer (some ⟨L + 3, 0, none⟩)] w fun e w' => e = .returned (.tuple #[]) ∧ LI w0 L q (.func (Fn.func 28) #[] #[.pointer (some ⟨D, 0, none⟩), .pointer (some ⟨D + 1, 0, none⟩), .pointer (some ⟨D + 2, 0, none⟩)]) w' (visF (costF a b c ink xs ms false) q os s) ∧ KeptI L (L + 5) w w' := by
  have HX := Lib.hid hx
  have HM := Lib.hid hm
  clear hx hm
  intro w g N C os s hI ho hNq hL hios
  have HIO := Lib.hid hios
  have HO := Lib.hid (own_len ho)
  have HI := Lib.hid hI
  clear hios
  obtain ⟨hnum, hcost, ⟨V, N1, C1, bs, l, hb3, hb4, hob, hne, hN1, hfl⟩, hold⟩ := hI
  have HF := Lib.hid hfl
  have HNE := Lib.hid hne
  clear hfl hne
  have n0 : _ = some (.int .i64 q : Value) := hnum.cell 0
  have n1 : _ = some (.func (Fn.func 28) #[] #[.pointer (some ⟨D, 0, none⟩), .pointer (some ⟨D + 1, 0, none⟩), .pointer (some ⟨D + 2, 0, none⟩)] : Value) := hcost.cell 0
  by_cases hlt : N < q
  · go_enter Try.func44, Try.ntmps44
    go_wp2_with fail
    first | go_end0 | refine bodyPost_ret (results_none rfl _ _ _) rfl ?_
    refine ⟨rfl, ?_, KeptI.refl⟩
    rw [visF, if_pos (by rw [HO.out]; exact hlt)]
    exact HI.out
  · have hgo : ∀ w', LI w0 L q (.func (Fn.func 28) #[] #[.pointer (some ⟨D, 0, none⟩), .pointer (some ⟨D + 1, 0, none⟩), .pointer (some ⟨D + 2, 0, none⟩)]) w' (updF (costF a b c ink xs ms false) os s) → LI w0 L q (.func (Fn.func 28) #[] #[.pointer (some ⟨D, 0, none⟩), .pointer (some ⟨D + 1, 0, none⟩), .pointer (some ⟨D + 2, 0, none⟩)]) w' (visF (costF a b c ink xs ms false) q os s) := fun w' h => by rw [visF, if_neg (by rw [HO.out]; exact hlt)]; exact h
    have HG := Lib.hid hgo
    clear hgo
    have hstore : (l < 0 ∨ (costF a b c ink xs ms false) os < l) → Calls Try.prog 44 #[.slice (some ⟨g, 0, none⟩) N C, .pointer (some ⟨L, 0, none⟩), .pointer (some ⟨L + 1, 0, none⟩), .pointer (some ⟨L + 4, 0, none⟩), .pointer (some ⟨L + 3, 0, none⟩)] w fun e w' => e = .returned (.tuple #[]) ∧ LI w0 L q (.func (Fn.func 28) #[] #[.pointer (some ⟨D, 0, none⟩), .pointer (some ⟨D + 1, 0, none⟩), .pointer (some ⟨D + 2, 0, none⟩)]) w' (visF (costF a b c ink xs ms false) q os s) ∧ KeptI L (L + 5) w w' := by
      intro hor
      have HU := Lib.hid (updF_new (cost := (costF a b c ink xs ms false)) (o := os) HF.out hor)
      have fin : ∀ w1, Below w.heap.size w w1 → LI w0 L q (.func (Fn.func 28) #[] #[.pointer (some ⟨D, 0, none⟩), .pointer (some ⟨D + 1, 0, none⟩), .pointer (some ⟨D + 2, 0, none⟩)]) ((w1.setCell ⟨L + 3, 0, none⟩ (.slice (some ⟨g, 0, none⟩) N C)).setCell ⟨L + 4, 0, none⟩ (.int .i64 ((costF a b c ink xs ms false) os))) (visF (costF a b c ink xs ms false) q os s) ∧ KeptI L (L + 5) w ((w1.setCell ⟨L + 3, 0, none⟩ (.slice (some ⟨g, 0, none⟩) N C)).setCell ⟨L + 4, 0, none⟩ (.int .i64 ((costF a b c ink xs ms false) os))) := by
        intro w1 hn
        have hgl := ho.lt g rfl
        have h1 := HI.out.step hn
        have hk : KeptI L (L + 5) w ((w1.setCell ⟨L + 3, 0, none⟩ (.slice (some ⟨g, 0, none⟩) N C)).setCell ⟨L + 4, 0, none⟩ (.int .i64 ((costF a b c ink xs ms false) os))) := ((KeptI.of_below hn).setCell (by simp) (by simp) _).setCell (by simp) (by simp) _
        have ho9 : Own ((w1.setCell ⟨L + 3, 0, none⟩ (.slice (some ⟨g, 0, none⟩) N C)).setCell ⟨L + 4, 0, none⟩ (.int .i64 ((costF a b c ink xs ms false) os))) (L + 5) (.slice (some ⟨g, 0, none⟩) N C) N os := row_keptI ho hk (fun k hk => .inr (ho.lt k hk).1)
        refine ⟨HG.out _ ?_, hk⟩
        rw [HU.out]
        refine ⟨(h1.num.far (by simp) _).far (by simp) _, (h1.cost.far (by simp) _).far (by simp) _, ⟨some ⟨g, 0, none⟩, N, C, os, (costF a b c ink xs ms false) os, ?_, ?_, own_lower ho9 (by omega), fun k hk => ?_, by omega, rfl, rfl, costF_nonneg HX.out _ _⟩, (h1.old.setCell (by simp) _).setCell (by simp) _⟩
        · exact ((hb3.below hn hb3.lt).set_ 0 _).far (by simp) _
        · exact ((hb4.below hn hb4.lt).far (by simp) _).set_ 0 _
        · have := (ho.lt k hk).1; omega
      by_cases hl : l < 0
      · (go_enter Try.func44, Try.ntmps44; go_wp2_with fail; refine (costW_any hn0 hq7 ha hb1 h0 hn5 HX.out hi0 HM.out (hP.below hold (by omega)) (hK.below hold (by omega)) (hJ.below hold (by omega)) ((RInts.below hr hold).more (Nat.le_of_lt hnum.lt)) ((RPJobs.below hs hold).more (Nat.le_of_lt hnum.lt)) (own_rints ho) (by omega) HIO.out).mono ?_; rintro e1 w1 ⟨rfl, hn⟩; clear n0 n1; replace hb4 := hb4.below hn hb4.lt; replace hb3 := hb3.below hn hb3.lt; (have m0 : _ = some (.int .i64 l : Value) := hb4.cell 0); (have m1 : _ = some (.slice V N1 C1 : Value) := hb3.cell 0); have f0 := hb4.frozen 0; have f1 := hb3.frozen 0)
        go_wp2_with fail
        first | go_end0 | refine bodyPost_ret (results_none rfl _ _ _) rfl ?_
        exact ⟨rfl, fin _ hn⟩
      · have hc : (costF a b c ink xs ms false) os < l := by omega
        (go_enter Try.func44, Try.ntmps44; go_wp2_with fail; refine (costW_any hn0 hq7 ha hb1 h0 hn5 HX.out hi0 HM.out (hP.below hold (by omega)) (hK.below hold (by omega)) (hJ.below hold (by omega)) ((RInts.below hr hold).more (Nat.le_of_lt hnum.lt)) ((RPJobs.below hs hold).more (Nat.le_of_lt hnum.lt)) (own_rints ho) (by omega) HIO.out).mono ?_; rintro e1 w1 ⟨rfl, hn⟩; clear n0 n1; replace hb4 := hb4.below hn hb4.lt; replace hb3 := hb3.below hn hb3.lt; (have m0 : _ = some (.int .i64 l : Value) := hb4.cell 0); (have m1 : _ = some (.slice V N1 C1 : Value) := hb3.cell 0); have f0 := hb4.frozen 0; have f1 := hb3.frozen 0)
        go_wp2_with fail
        first | go_end0 | refine bodyPost_ret (results_none rfl _ _ _) rfl ?_
        exact ⟨rfl, fin _ hn⟩
    by_cases hor : l < 0 ∨ (costF a b c ink xs ms false) os < l
    · exact hstore hor
    · have hl : ¬ l < 0 := fun h => hor (.inl h)
      have hc : ¬ (costF a b c ink xs ms false) os < l := fun h => hor (.inr h)
      clear hor hstore
      (go_enter Try.func44, Try.ntmps44; go_wp2_with fail; refine (costW_any hn0 hq7 ha hb1 h0 hn5 HX.out hi0 HM.out (hP.below hold (by omega)) (hK.below hold (by omega)) (hJ.below hold (by omega)) ((RInts.below hr hold).more (Nat.le_of_lt hnum.lt)) ((RPJobs.below hs hold).more (Nat.le_of_lt hnum.lt)) (own_rints ho) (by omega) HIO.out).mono ?_; rintro e1 w1 ⟨rfl, hn⟩; clear n0 n1; replace hb4 := hb4.below hn hb4.lt; replace hb3 := hb3.below hn hb3.lt; (have m0 : _ = some (.int .i64 l : Value) := hb4.cell 0); (have m1 : _ = some (.slice V N1 C1 : Value) := hb3.cell 0); have f0 := hb4.frozen 0; have f1 := hb3.frozen 0)
      go_wp2_with fail
      first | go_end0 | refine bodyPost_ret (results_none rfl _ _ _) rfl ?_
      refine ⟨rfl, HG.out _ ?_, KeptI.of_below hn⟩
      obtain ⟨b1, e⟩ := FndL_some HF.out (by omega)
      have h9 := HI.out.step hn
      have hF := HF.out
      subst e
      rw [updF_keep hF (by omega)]
      exact h9
set_option maxRecDepth 100000 in
theorem costD_any {a b c ink : Int} {A B O : Option Addr} {n cp q cq r cr D : Nat} {xs os : List Int} {ms : List PJob} {w : World} (hn0 : n ≤ 1048576) (hq7 : q ≤ 7) (ha : 1 ≤ a ∧ a ≤ 5000) (hb1 : 0 ≤ b ∧ b ≤ 600) (h0 : 0 ≤ c ∧ c ≤ 500) (hn5 : 5 ≤ n) (hx : ∀ x ∈ xs, 0 ≤ x ∧ x ≤ 300) (hi0 : 0 ≤ ink ∧ ink ≤ 4) (hm : (∀ m ∈ ms, (0 ≤ m.ink ∧ m.ink ≤ 4) ∧ (1 ≤ m.sheets ∧ m.sheets ≤ 20000) ∧ (0 ≤ m.due ∧ m.due ≤ 100000)))
    (hP : Blk w D 30 [.int .i64 a, .int .i64 b, .int .i64 c, .slice A n cp]) (hK : Blk w (D + 1) 3 [.int .i64 ink]) (hJ : Blk w (D + 2) 32 [.slice B q cq])
    (hr : RInts w w.heap.size A n xs) (hs : RPJobs w w.heap.size B q ms) (ho : RInts w w.heap.size O r os) (hr7 : r ≤ 7) (hios : ∀ i ∈ os, 0 ≤ i ∧ i < q) :
    Calls Try.prog 31 #[.slice O r cr, .pointer (some ⟨D, 0, none⟩), .pointer (some ⟨D + 1, 0, none⟩), .pointer (some ⟨D + 2, 0, none⟩)] w fun e w' => e = .returned (.int .i64 ((costF a b c ink xs ms true) os)) ∧ Below w.heap.size w w' := by
  have HX := Lib.hid hx
  have HM := Lib.hid hm
  have HI := Lib.hid hios
  clear hx hm hios
  have p0 : _ = some (.int .i64 a : Value) := hP.cell 0
  have p1 : _ = some (.int .i64 b : Value) := hP.cell 1
  have p2 : _ = some (.int .i64 c : Value) := hP.cell 2
  have p3 : _ = some (.slice A n cp : Value) := hP.cell 3
  have p4 : _ = some (.int .i64 ink : Value) := hK.cell 0
  have p5 : _ = some (.slice B q cq : Value) := hJ.cell 0
  go_enter Try.func31, Try.ntmps31
  go_wp2_with fail
  refine (delay_any hr hn0 hs (by omega) ho (by omega) ha hb1 h0 hn5 HX.out hi0 HM.out HI.out hr7).mono ?_
  rintro e1 w1 ⟨rfl, hn⟩
  go_wp2_with fail
  go_ret
  exact ⟨rfl, hn⟩
set_option maxRecDepth 100000 in
set_option maxHeartbeats 1000000 in
theorem visitD_any {a b c ink : Int} {A B : Option Addr} {n cp q cq D L : Nat} {xs : List Int} {ms : List PJob} {w0 : World} (hn0 : n ≤ 1048576) (hq7 : q ≤ 7) (ha : 1 ≤ a ∧ a ≤ 5000) (hb1 : 0 ≤ b ∧ b ≤ 600) (h0 : 0 ≤ c ∧ c ≤ 500) (hn5 : 5 ≤ n) (hx : ∀ x ∈ xs, 0 ≤ x ∧ x ≤ 300) (hi0 : 0 ≤ ink ∧ ink ≤ 4) (hm : (∀ m ∈ ms, (0 ≤ m.ink ∧ m.ink ≤ 4) ∧ (1 ≤ m.sheets ∧ m.sheets ≤ 20000) ∧ (0 ≤ m.due ∧ m.due ≤ 100000)))
    (hP : Blk w0 D 30 [.int .i64 a, .int .i64 b, .int .i64 c, .slice A n cp]) (hK : Blk w0 (D + 1) 3 [.int .i64 ink]) (hJ : Blk w0 (D + 2) 32 [.slice B q cq]) (hD : D + 3 ≤ L)
    (hr : RInts w0 L A n xs) (hs : RPJobs w0 L B q ms) :
    ∀ (w : World) (g N C : Nat) (os : List Int) (s : Fnd), LI w0 L q (.func (Fn.func 31) #[] #[.pointer (some ⟨D, 0, none⟩), .pointer (some ⟨D + 1, 0, none⟩), .pointer (some ⟨D + 2, 0, none⟩)]) w s → Own w (L + 5) (.slice (some ⟨g, 0, none⟩) N C) N os → N ≤ q → L + 5 ≤ w.heap.size → (∀ i ∈ os, 0 ≤ i ∧ i < q) →
      Calls Try.prog 44 #[.slice (some ⟨g, 0, none⟩) N C, .pointer (some ⟨L, 0, none⟩), .pointer (some ⟨L + 1, 0, none⟩), .pointer (some ⟨L + 4, 0, none⟩), .pointer (some ⟨L + 3, 0, none⟩)] w fun e w' => e = .returned (.tuple #[]) ∧ LI w0 L q (.func (Fn.func 31) #[] #[.pointer (some ⟨D, 0, none⟩), .pointer (some ⟨D + 1, 0, none⟩), .pointer (some ⟨D + 2, 0, none⟩)]) w' (visF (costF a b c ink xs ms true) q os s) ∧ KeptI L (L + 5) w w' := by
  have HX := Lib.hid hx
  have HM := Lib.hid hm
  clear hx hm
  intro w g N C os s hI ho hNq hL hios
  have HIO := Lib.hid hios
  have HO := Lib.hid (own_len ho)
  have HI := Lib.hid hI
  clear hios
  obtain ⟨hnum, hcost, ⟨V, N1, C1, bs, l, hb3, hb4, hob, hne, hN1, hfl⟩, hold⟩ := hI
  have HF := Lib.hid hfl
  have HNE := Lib.hid hne
  clear hfl hne
  have n0 : _ = some (.int .i64 q : Value) := hnum.cell 0
  have n1 : _ = some (.func (Fn.func 31) #[] #[.pointer (some ⟨D, 0, none⟩), .pointer (some ⟨D + 1, 0, none⟩), .pointer (some ⟨D + 2, 0, none⟩)] : Value) := hcost.cell 0
  by_cases hlt : N < q
  · go_enter Try.func44, Try.ntmps44
    go_wp2_with fail
    first | go_end0 | refine bodyPost_ret (results_none rfl _ _ _) rfl ?_
    refine ⟨rfl, ?_, KeptI.refl⟩
    rw [visF, if_pos (by rw [HO.out]; exact hlt)]
    exact HI.out
  · have hgo : ∀ w', LI w0 L q (.func (Fn.func 31) #[] #[.pointer (some ⟨D, 0, none⟩), .pointer (some ⟨D + 1, 0, none⟩), .pointer (some ⟨D + 2, 0, none⟩)]) w' (updF (costF a b c ink xs ms true) os s) → LI w0 L q (.func (Fn.func 31) #[] #[.pointer (some ⟨D, 0, none⟩), .pointer (some ⟨D + 1, 0, none⟩), .pointer (some ⟨D + 2, 0, none⟩)]) w' (visF (costF a b c ink xs ms true) q os s) := fun w' h => by rw [visF, if_neg (by rw [HO.out]; exact hlt)]; exact h
    have HG := Lib.hid hgo
    clear hgo
    have hstore : (l < 0 ∨ (costF a b c ink xs ms true) os < l) → Calls Try.prog 44 #[.slice (some ⟨g, 0, none⟩) N C, .pointer (some ⟨L, 0, none⟩), .pointer (some ⟨L + 1, 0, none⟩), .pointer (some ⟨L + 4, 0, none⟩), .pointer (some ⟨L + 3, 0, none⟩)] w fun e w' => e = .returned (.tuple #[]) ∧ LI w0 L q (.func (Fn.func 31) #[] #[.pointer (some ⟨D, 0, none⟩), .pointer (some ⟨D + 1, 0, none⟩), .pointer (some ⟨D + 2, 0, none⟩)]) w' (visF (costF a b c ink xs ms true) q os s) ∧ KeptI L (L + 5) w w' := by
      intro hor
      have HU := Lib.hid (updF_new (cost := (costF a b c ink xs ms true)) (o := os) HF.out hor)
      have fin : ∀ w1, Below w.heap.size w w1 → LI w0 L q (.func (Fn.func 31) #[] #[.pointer (some ⟨D, 0, none⟩), .pointer (some ⟨D + 1, 0, none⟩), .pointer (some ⟨D + 2, 0, none⟩)]) ((w1.setCell ⟨L + 3, 0, none⟩ (.slice (some ⟨g, 0, none⟩) N C)).setCell ⟨L + 4, 0, none⟩ (.int .i64 ((costF a b c ink xs ms true) os))) (visF (costF a b c ink xs ms true) q os s) ∧ KeptI L (L + 5) w ((w1.setCell ⟨L + 3, 0, none⟩ (.slice (some ⟨g, 0, none⟩) N C)).setCell ⟨L + 4, 0, none⟩ (.int .i64 ((costF a b c ink xs ms true) os))) := by
        intro w1 hn
        have hgl := ho.lt g rfl
        have h1 := HI.out.step hn
        have hk : KeptI L (L + 5) w ((w1.setCell ⟨L + 3, 0, none⟩ (.slice (some ⟨g, 0, none⟩) N C)).setCell ⟨L + 4, 0, none⟩ (.int .i64 ((costF a b c ink xs ms true) os))) := ((KeptI.of_below hn).setCell (by simp) (by simp) _).setCell (by simp) (by simp) _
        have ho9 : Own ((w1.setCell ⟨L + 3, 0, none⟩ (.slice (some ⟨g, 0, none⟩) N C)).setCell ⟨L + 4, 0, none⟩ (.int .i64 ((costF a b c ink xs ms true) os))) (L + 5) (.slice (some ⟨g, 0, none⟩) N C) N os := row_keptI ho hk (fun k hk => .inr (ho.lt k hk).1)
        refine ⟨HG.out _ ?_, hk⟩
        rw [HU.out]
        refine ⟨(h1.num.far (by simp) _).far (by simp) _, (h1.cost.far (by simp) _).far (by simp) _, ⟨some ⟨g, 0, none⟩, N, C, os, (costF a b c ink xs ms true) os, ?_, ?_, own_lower ho9 (by omega), fun k hk => ?_, by omega, rfl, rfl, costF_nonneg HX.out _ _⟩, (h1.old.setCell (by simp) _).setCell (by simp) _⟩
        · exact ((hb3.below hn hb3.lt).set_ 0 _).far (by simp) _
        · exact ((hb4.below hn hb4.lt).far (by simp) _).set_ 0 _
        · have := (ho.lt k hk).1; omega
      by_cases hl : l < 0
      · (go_enter Try.func44, Try.ntmps44; go_wp2_with fail; refine (costD_any hn0 hq7 ha hb1 h0 hn5 HX.out hi0 HM.out (hP.below hold (by omega)) (hK.below hold (by omega)) (hJ.below hold (by omega)) ((RInts.below hr hold).more (Nat.le_of_lt hnum.lt)) ((RPJobs.below hs hold).more (Nat.le_of_lt hnum.lt)) (own_rints ho) (by omega) HIO.out).mono ?_; rintro e1 w1 ⟨rfl, hn⟩; clear n0 n1; replace hb4 := hb4.below hn hb4.lt; replace hb3 := hb3.below hn hb3.lt; (have m0 : _ = some (.int .i64 l : Value) := hb4.cell 0); (have m1 : _ = some (.slice V N1 C1 : Value) := hb3.cell 0); have f0 := hb4.frozen 0; have f1 := hb3.frozen 0)
        go_wp2_with fail
        first | go_end0 | refine bodyPost_ret (results_none rfl _ _ _) rfl ?_
        exact ⟨rfl, fin _ hn⟩
      · have hc : (costF a b c ink xs ms true) os < l := by omega
        (go_enter Try.func44, Try.ntmps44; go_wp2_with fail; refine (costD_any hn0 hq7 ha hb1 h0 hn5 HX.out hi0 HM.out (hP.below hold (by omega)) (hK.below hold (by omega)) (hJ.below hold (by omega)) ((RInts.below hr hold).more (Nat.le_of_lt hnum.lt)) ((RPJobs.below hs hold).more (Nat.le_of_lt hnum.lt)) (own_rints ho) (by omega) HIO.out).mono ?_; rintro e1 w1 ⟨rfl, hn⟩; clear n0 n1; replace hb4 := hb4.below hn hb4.lt; replace hb3 := hb3.below hn hb3.lt; (have m0 : _ = some (.int .i64 l : Value) := hb4.cell 0); (have m1 : _ = some (.slice V N1 C1 : Value) := hb3.cell 0); have f0 := hb4.frozen 0; have f1 := hb3.frozen 0)
        go_wp2_with fail
        first | go_end0 | refine bodyPost_ret (results_none rfl _ _ _) rfl ?_
        exact ⟨rfl, fin _ hn⟩
    by_cases hor : l < 0 ∨ (costF a b c ink xs ms true) os < l
    · exact hstore hor
    · have hl : ¬ l < 0 := fun h => hor (.inl h)
      have hc : ¬ (costF a b c ink xs ms true) os < l := fun h => hor (.inr h)
      clear hor hstore
      (go_enter Try.func44, Try.ntmps44; go_wp2_with fail; refine (costD_any hn0 hq7 ha hb1 h0 hn5 HX.out hi0 HM.out (hP.below hold (by omega)) (hK.below hold (by omega)) (hJ.below hold (by omega)) ((RInts.below hr hold).more (Nat.le_of_lt hnum.lt)) ((RPJobs.below hs hold).more (Nat.le_of_lt hnum.lt)) (own_rints ho) (by omega) HIO.out).mono ?_; rintro e1 w1 ⟨rfl, hn⟩; clear n0 n1; replace hb4 := hb4.below hn hb4.lt; replace hb3 := hb3.below hn hb3.lt; (have m0 : _ = some (.int .i64 l : Value) := hb4.cell 0); (have m1 : _ = some (.slice V N1 C1 : Value) := hb3.cell 0); have f0 := hb4.frozen 0; have f1 := hb3.frozen 0)
      go_wp2_with fail
      first | go_end0 | refine bodyPost_ret (results_none rfl _ _ _) rfl ?_
      refine ⟨rfl, HG.out _ ?_, KeptI.of_below hn⟩
      obtain ⟨b1, e⟩ := FndL_some HF.out (by omega)
      have h9 := HI.out.step hn
      have hF := HF.out
      subst e
      rw [updF_keep hF (by omega)]
      exact h9
end Go.Proofs.Ytfjkmocjlmcjdaa
