/-
  Contracts of JoinMelts and its law.
-/
import Derived.Test.YtggdpmipfhfegaaMet3
namespace Go.Proofs.Ytggdpmipfhfegaa
open Go.RowKit
def jmL : Mel → List Mel → Option Mel
  | s, [] => some s
  | s, m :: r => if melB m.a m.b m.c then jmL ⟨s.a + m.a, s.b + m.b, s.c + m.c⟩ r else none
def jmF (s : Mel) : Mel × Bool := if melB s.a s.b s.c then (s, true) else (⟨0, 0, 0⟩, false)
def jm (ms : List Mel) : Mel × Bool := if ms.length ≤ 20 then (match jmL ⟨0, 0, 0⟩ ms with | none => (⟨0, 0, 0⟩, false) | some s => jmF s) else (⟨0, 0, 0⟩, false)
theorem jm_none {ms : List Mel} (h : jmL ⟨0, 0, 0⟩ ms = none) : jm ms = (⟨0, 0, 0⟩, false) := by simp [jm, h]
theorem jm_long {ms : List Mel} (h : 20 < ms.length) : jm ms = (⟨0, 0, 0⟩, false) := by rw [jm, if_neg (by omega)]
theorem jm_some {ms : List Mel} {s : Mel} (hl : ms.length ≤ 20) (h : jmL ⟨0, 0, 0⟩ ms = some s) : jm ms = jmF s := by simp [jm, hl, h]
theorem plusB_any (a b c d e f : Int) (w : World) (h : (0 ≤ a ∧ a ≤ 1000000000000000) ∧ (0 ≤ b ∧ b ≤ 1000000000000000) ∧ (0 ≤ c ∧ c ≤ 1000000000000000)) (h' : (0 ≤ d ∧ d ≤ 1000000000000000) ∧ (0 ≤ e ∧ e ≤ 1000000000000000) ∧ (0 ≤ f ∧ f ≤ 1000000000000000)) :
    Calls Try.prog 71 #[.agg #[.int .i64 a, .int .i64 b, .int .i64 c], .agg #[.int .i64 d, .int .i64 e, .int .i64 f]] w fun x w' => x = .returned (.agg #[.int .i64 (a + d), .int .i64 (b + e), .int .i64 (c + f)]) ∧ Below w.heap.size w w' := by
  go_enter Try.func71, Try.ntmps71
  go_wp2
  exact bodyPost_ret (v := .agg #[.int .i64 (a + d), .int .i64 (b + e), .int .i64 (c + f)]) (by simp [results, Try.results71, go_sem]) rfl ⟨rfl, (by (repeat (first | exact Below.refl _ _ | exact hb | apply Below.drew | (refine Below.alloc ?_ (by first | (simp; done) | (simp; omega) | (have := hb.size; simp at this ⊢; omega)) _) | (refine Below.setCell ?_ (by simp) _))))⟩
theorem meJoinB_any (a b c d e f : Int) (w : World) (h : (0 ≤ a ∧ a ≤ 1000000000000000) ∧ (0 ≤ b ∧ b ≤ 1000000000000000) ∧ (0 ≤ c ∧ c ≤ 1000000000000000)) (h' : (0 ≤ d ∧ d ≤ 1000000000000000) ∧ (0 ≤ e ∧ e ≤ 1000000000000000) ∧ (0 ≤ f ∧ f ≤ 1000000000000000)) :
    Calls Try.prog 66 #[.agg #[.int .i64 a, .int .i64 b, .int .i64 c], .agg #[.int .i64 d, .int .i64 e, .int .i64 f]] w fun x w' => x = .returned (.agg #[.int .i64 (a + d), .int .i64 (b + e), .int .i64 (c + f)]) ∧ Below w.heap.size w w' := by
  go_enter Try.func66, Try.ntmps66
  go_wp2
  exact bodyPost_ret (v := .agg #[.int .i64 (a + d), .int .i64 (b + e), .int .i64 (c + f)]) (by simp [results, Try.results66, go_sem]) rfl ⟨rfl, (by (repeat (first | exact Below.refl _ _ | exact hb | apply Below.drew | (refine Below.alloc ?_ (by first | (simp; done) | (simp; omega) | (have := hb.size; simp at this ⊢; omega)) _) | (refine Below.setCell ?_ (by simp) _))))⟩
theorem meIf_any (s : Mel) (w : World) : Calls Try.prog 72 #[.agg #[.int .i64 s.a, .int .i64 s.b, .int .i64 s.c]] w fun x w' => x = .returned (.tuple #[.agg #[.int .i64 (jmF s).1.a, .int .i64 (jmF s).1.b, .int .i64 (jmF s).1.c], .bool (jmF s).2]) ∧ Below w.heap.size w w' := by
  have hb : Below w.heap.size w ((w.alloc (.cells (#[.int .i64 s.a, .int .i64 s.b, .int .i64 s.c] : Array Value) 49)).alloc (.cells (#[.int .i64 0, .int .i64 0, .int .i64 0] : Array Value) 49)) := (by (repeat (first | exact Below.refl _ _ | exact hb | apply Below.drew | (refine Below.alloc ?_ (by first | (simp; done) | (simp; omega) | (have := hb.size; simp at this ⊢; omega)) _) | (refine Below.setCell ?_ (by simp) _))))
  have hs := (Blk.new' w 49 (#[.int .i64 s.a, .int .i64 s.b, .int .i64 s.c] : Array Value)).alloc (.cells (#[.int .i64 0, .int .i64 0, .int .i64 0] : Array Value) 49)
  have hz : Blk ((w.alloc (.cells (#[.int .i64 s.a, .int .i64 s.b, .int .i64 s.c] : Array Value) 49)).alloc (.cells (#[.int .i64 0, .int .i64 0, .int .i64 0] : Array Value) 49)) (w.heap.size + 1) 49 [.int .i64 0, .int .i64 0, .int .i64 0] := by simpa using Blk.new' (w.alloc (.cells (#[.int .i64 s.a, .int .i64 s.b, .int .i64 s.c] : Array Value) 49)) 49 (#[.int .i64 0, .int .i64 0, .int .i64 0] : Array Value)
  cases h1 : melB s.a s.b s.c
  · go_enter Try.func72, Try.ntmps72
    go_wp2_with fail
    refine (meGood_any _ _ _ _).mono ?_
    rintro e1 w1 ⟨rfl, hn⟩
    replace hs := hs.below hn hs.lt; replace hz := hz.below hn hz.lt; replace hb := hb.trans (hn.mono hb.size); clear hn
    have m0 : _ = some (Value.int .i64 s.a) := hs.cell 0; have m1 : _ = some (Value.int .i64 s.b) := hs.cell 1; have m2 : _ = some (Value.int .i64 s.c) := hs.cell 2; have z0 : _ = some (Value.int .i64 0) := hz.cell 0; have z1 : _ = some (Value.int .i64 0) := hz.cell 1; have z2 : _ = some (Value.int .i64 0) := hz.cell 2; have y0 := hz.frozen 0; have y1 := hz.frozen 1; have y2 := hz.frozen 2
    go_wp2_with fail
    clear m0 m1 m2 z0 z1 z2 y0 y1 y2
    have hz := ((hz.set_ 0 (.int .i64 0)).set_ 1 (.int .i64 0)).set_ 2 (.int .i64 0)
    have q0 : _ = some (Value.int .i64 0) := hz.cell 0; have q1 : _ = some (Value.int .i64 0) := hz.cell 1; have q2 : _ = some (Value.int .i64 0) := hz.cell 2
    exact bodyPost_ret (v := .tuple #[.agg #[.int .i64 (jmF s).1.a, .int .i64 (jmF s).1.b, .int .i64 (jmF s).1.c], .bool (jmF s).2]) (by simp [results, Try.results72, go_sem, jmF, h1, q0, q1, q2]) rfl ⟨rfl, ((hb.setCell (by simp) _).setCell (by simp) _).setCell (by simp) _⟩
  · go_enter Try.func72, Try.ntmps72
    go_wp2_with fail
    refine (meGood_any _ _ _ _).mono ?_
    rintro e1 w1 ⟨rfl, hn⟩
    replace hs := hs.below hn hs.lt; replace hz := hz.below hn hz.lt; replace hb := hb.trans (hn.mono hb.size); clear hn
    have m0 : _ = some (Value.int .i64 s.a) := hs.cell 0; have m1 : _ = some (Value.int .i64 s.b) := hs.cell 1; have m2 : _ = some (Value.int .i64 s.c) := hs.cell 2; have z0 : _ = some (Value.int .i64 0) := hz.cell 0; have z1 : _ = some (Value.int .i64 0) := hz.cell 1; have z2 : _ = some (Value.int .i64 0) := hz.cell 2; have y0 := hz.frozen 0; have y1 := hz.frozen 1; have y2 := hz.frozen 2
    go_wp2_with fail
    clear m0 m1 m2 z0 z1 z2 y0 y1 y2
    have hz := ((hz.set_ 0 (.int .i64 s.a)).set_ 1 (.int .i64 s.b)).set_ 2 (.int .i64 s.c)
    have q0 : _ = some (Value.int .i64 s.a) := hz.cell 0; have q1 : _ = some (Value.int .i64 s.b) := hz.cell 1; have q2 : _ = some (Value.int .i64 s.c) := hz.cell 2
    exact bodyPost_ret (v := .tuple #[.agg #[.int .i64 (jmF s).1.a, .int .i64 (jmF s).1.b, .int .i64 (jmF s).1.c], .bool (jmF s).2]) (by simp [results, Try.results72, go_sem, jmF, h1, q0, q1, q2]) rfl ⟨rfl, ((hb.setCell (by simp) _).setCell (by simp) _).setCell (by simp) _⟩
theorem join_spec (A : Option Addr) (n cp : Nat) (ms : List Mel) (w : World) (hr : RMels w w.heap.size A n ms) (hn0 : n ≤ 1048576) :
    Calls Try.prog 37 #[.slice A n cp] w fun x w' => x = .returned (.tuple #[.agg #[.int .i64 (jm ms).1.a, .int .i64 (jm ms).1.b, .int .i64 (jm ms).1.c], .bool (jm ms).2]) ∧ Below w.heap.size w w' := by
  have HL := Lib.hid hr.len
  by_cases h20 : 20 < n
  · have HJ := Lib.hid (jm_long (ms := ms) (by have := HL.out; omega))
    go_enter Try.func37, Try.ntmps37
    go_wp2_with fail
    have hz := Blk.new' w 49 (#[.int .i64 0, .int .i64 0, .int .i64 0] : Array Value)
    have q0 : _ = some (Value.int .i64 0) := hz.cell 0; have q1 : _ = some (Value.int .i64 0) := hz.cell 1; have q2 : _ = some (Value.int .i64 0) := hz.cell 2
    exact bodyPost_ret (v := .tuple #[.agg #[.int .i64 (jm ms).1.a, .int .i64 (jm ms).1.b, .int .i64 (jm ms).1.c], .bool (jm ms).2]) (by simp [results, Try.results37, go_sem, HJ.out, q0, q1, q2]) rfl ⟨rfl, (by (repeat (first | exact Below.refl _ _ | exact hb | apply Below.drew | (refine Below.alloc ?_ (by first | (simp; done) | (simp; omega) | (have := hb.size; simp at this ⊢; omega)) _) | (refine Below.setCell ?_ (by simp) _))))⟩
  go_enter Try.func37, Try.ntmps37
  go_wp2_with fail
  go_loopw [13] (fun i wr => ∃ (k : Nat) (s : Mel), k ≤ n ∧ i = .int .i64 k ∧ jmL s (ms.drop k) = jmL ⟨0, 0, 0⟩ ms ∧ (0 ≤ s.a ∧ s.a ≤ 1000000 * k) ∧ (0 ≤ s.b ∧ s.b ≤ 1000000 * k) ∧ (0 ≤ s.c ∧ s.c ≤ 1000000 * k) ∧ Blk wr w.heap.size 49 [.int .i64 0, .int .i64 0, .int .i64 0] ∧ Blk wr (w.heap.size + 1) 49 [.int .i64 s.a, .int .i64 s.b, .int .i64 s.c] ∧ Below w.heap.size w wr) (fun i _ => n - (intOf i).toNat)
  case atStart =>
    refine ⟨0, ⟨0, 0, 0⟩, Nat.zero_le _, rfl, rfl, by simp, by simp, by simp, ?_, ?_, (by (repeat (first | exact Below.refl _ _ | exact hb | apply Below.drew | (refine Below.alloc ?_ (by first | (simp; done) | (simp; omega) | (have := hb.size; simp at this ⊢; omega)) _) | (refine Below.setCell ?_ (by simp) _))))⟩
    · exact (Blk.new' w 49 (#[.int .i64 0, .int .i64 0, .int .i64 0] : Array Value)).alloc _
    · simpa using Blk.new' (w.alloc (.cells (#[.int .i64 0, .int .i64 0, .int .i64 0] : Array Value) 49)) 49 (#[.int .i64 0, .int .i64 0, .int .i64 0] : Array Value)
  case round =>
    obtain ⟨k, s, hk, rfl, hR, b1, b2, b3, hz, hs, hb⟩ := hrel
    have HR := Lib.hid hR; clear hR
    by_cases hlt : k < n
    · obtain ⟨b, off, m, rfl, _, hd, hy, c0, c1, c2⟩ := RMels.at_ (RRow.below hr hb) hlt
      have HD := Lib.hid hd; clear hd hy
      cases h1 : melB m.a m.b m.c
      · go_wp2_with fail
        refine (meGood_any _ _ _ _).mono ?_
        rintro e1 w1 ⟨rfl, hn⟩
        replace hz := (hz.alloc _).below hn (hz.alloc _).lt
        replace hb := (hb.alloc hb.size _).trans (hn.mono (by have := hb.size; simp; omega))
        clear c0 c1 c2 hn
        have z0 : _ = some (Value.int .i64 0) := hz.cell 0
        have z1 : _ = some (Value.int .i64 0) := hz.cell 1
        have z2 : _ = some (Value.int .i64 0) := hz.cell 2
        have y0 := hz.frozen 0
        have y1 := hz.frozen 1
        have y2 := hz.frozen 2
        go_wp2_with fail
        clear z0 z1 z2 y0 y1 y2
        have hz := ((hz.set_ 0 (.int .i64 0)).set_ 1 (.int .i64 0)).set_ 2 (.int .i64 0)
        have q0 : _ = some (Value.int .i64 0) := hz.cell 0; have q1 : _ = some (Value.int .i64 0) := hz.cell 1; have q2 : _ = some (Value.int .i64 0) := hz.cell 2
        have HJ := Lib.hid (jm_none (ms := ms) (by rw [← HR.out, HD.out]; simp [jmL, h1]))
        exact bodyPost_ret (v := .tuple #[.agg #[.int .i64 (jm ms).1.a, .int .i64 (jm ms).1.b, .int .i64 (jm ms).1.c], .bool (jm ms).2]) (by simp [results, Try.results37, go_sem, HJ.out, q0, q1, q2]) rfl ⟨rfl, ((hb.setCell (by simp) _).setCell (by simp) _).setCell (by simp) _⟩
      · have bm := melB_true h1
        go_wp2_with fail
        refine (meGood_any _ _ _ _).mono ?_
        rintro e1 w1 ⟨rfl, hn⟩
        replace hz := (hz.alloc _).below hn (hz.alloc _).lt
        replace hs := (hs.alloc _).below hn (hs.alloc _).lt
        have hm : Blk w1 wr.heap.size 49 [.int .i64 m.a, .int .i64 m.b, .int .i64 m.c] := (Blk.new' wr 49 #[.int .i64 m.a, .int .i64 m.b, .int .i64 m.c]).below hn (by simp)
        replace hb := (hb.alloc hb.size _).trans (hn.mono (by have := hb.size; simp; omega))
        clear c0 c1 c2 hn
        have s0 : _ = some (Value.int .i64 s.a) := hs.cell 0
        have s1 : _ = some (Value.int .i64 s.b) := hs.cell 1
        have s2 : _ = some (Value.int .i64 s.c) := hs.cell 2
        have m0 : _ = some (Value.int .i64 m.a) := hm.cell 0
        have m1 : _ = some (Value.int .i64 m.b) := hm.cell 1
        have m2 : _ = some (Value.int .i64 m.c) := hm.cell 2
        go_wp2_with fail
        refine (meJoinB_any _ _ _ _ _ _ _ (by omega) (by omega)).mono ?_
        rintro e1 w2 ⟨rfl, hn⟩
        replace hz := hz.below hn hz.lt
        replace hs := hs.below hn hs.lt
        replace hb := hb.trans (hn.mono hb.size)
        clear s0 s1 s2 m0 m1 m2 hn hm
        have s0 : _ = some (Value.int .i64 s.a) := hs.cell 0
        have s1 : _ = some (Value.int .i64 s.b) := hs.cell 1
        have s2 : _ = some (Value.int .i64 s.c) := hs.cell 2
        have y0 := hs.frozen 0
        have y1 := hs.frozen 1
        have y2 := hs.frozen 2
        go_wp2_with fail
        go_roundw
        case rel => exact ⟨k + 1, ⟨s.a + m.a, s.b + m.b, s.c + m.c⟩, by omega, by go_num, by rw [← HR.out, HD.out]; simp [jmL, h1], by simp only []; omega, by simp only []; omega, by simp only []; omega, ((hz.far (by simp) _).far (by simp) _).far (by simp) _, ((hs.set_ 0 _).set_ 1 _).set_ 2 _, ((hb.setCell (by simp) _).setCell (by simp) _).setCell (by simp) _⟩
        case measure => simp [intOf]; omega
    · have HJ := Lib.hid (jm_some (ms := ms) (s := s) (by have := HL.out; omega) (by rw [← HR.out, List.drop_of_length_le (by have := HL.out; omega)]; rfl))
      have s0 : _ = some (Value.int .i64 s.a) := hs.cell 0
      have s1 : _ = some (Value.int .i64 s.b) := hs.cell 1
      have s2 : _ = some (Value.int .i64 s.c) := hs.cell 2
      go_wp2_with fail
      refine (meIf_any s _).mono ?_
      rintro e1 w1 ⟨rfl, hn⟩
      replace hz := hz.below hn hz.lt
      replace hb := hb.trans (hn.mono hb.size)
      clear s0 s1 s2 hn
      have z0 : _ = some (Value.int .i64 0) := hz.cell 0
      have z1 : _ = some (Value.int .i64 0) := hz.cell 1
      have z2 : _ = some (Value.int .i64 0) := hz.cell 2
      have y0 := hz.frozen 0
      have y1 := hz.frozen 1
      have y2 := hz.frozen 2
      go_wp2_with fail
      clear z0 z1 z2 y0 y1 y2
      have hz := ((hz.set_ 0 (.int .i64 (jmF s).1.a)).set_ 1 (.int .i64 (jmF s).1.b)).set_ 2 (.int .i64 (jmF s).1.c)
      have q0 : _ = some (Value.int .i64 (jmF s).1.a) := hz.cell 0; have q1 : _ = some (Value.int .i64 (jmF s).1.b) := hz.cell 1; have q2 : _ = some (Value.int .i64 (jmF s).1.c) := hz.cell 2
      exact bodyPost_ret (v := .tuple #[.agg #[.int .i64 (jm ms).1.a, .int .i64 (jm ms).1.b, .int .i64 (jm ms).1.c], .bool (jm ms).2]) (by simp [results, Try.results37, go_sem, HJ.out, q0, q1, q2]) rfl ⟨rfl, ((hb.setCell (by simp) _).setCell (by simp) _).setCell (by simp) _⟩
theorem join_impl (A : Option Addr) (n cp : Nat) (ms : List Mel) (w : World) (hr : RMels w w.heap.size A n ms) (hn0 : n ≤ 1048576) :
    Calls Try.prog 39 #[.slice A n cp] w fun x w' => x = .returned (.tuple #[.agg #[.int .i64 (jm ms).1.a, .int .i64 (jm ms).1.b, .int .i64 (jm ms).1.c], .bool (jm ms).2]) ∧ Below w.heap.size w w' := by
  have HL := Lib.hid hr.len
  go_enter Try.func39, Try.ntmps39
  go_wp2_with fail
  go_loopw [10] (fun i wr => ∃ (k : Nat) (s : Mel), k ≤ n ∧ i = .int .i64 k ∧ jmL s (ms.drop k) = jmL ⟨0, 0, 0⟩ ms ∧ (0 ≤ s.a ∧ s.a ≤ 1000000 * k) ∧ (0 ≤ s.b ∧ s.b ≤ 1000000 * k) ∧ (0 ≤ s.c ∧ s.c ≤ 1000000 * k) ∧ Blk wr w.heap.size 49 [.int .i64 0, .int .i64 0, .int .i64 0] ∧ Blk wr (w.heap.size + 1) 49 [.int .i64 s.a, .int .i64 s.b, .int .i64 s.c] ∧ Below w.heap.size w wr) (fun i _ => n - (intOf i).toNat)
  case atStart =>
    refine ⟨0, ⟨0, 0, 0⟩, Nat.zero_le _, rfl, rfl, by simp, by simp, by simp, ?_, ?_, (by (repeat (first | exact Below.refl _ _ | exact hb | apply Below.drew | (refine Below.alloc ?_ (by first | (simp; done) | (simp; omega) | (have := hb.size; simp at this ⊢; omega)) _) | (refine Below.setCell ?_ (by simp) _))))⟩
    · exact (Blk.new' w 49 (#[.int .i64 0, .int .i64 0, .int .i64 0] : Array Value)).alloc _
    · simpa using Blk.new' (w.alloc (.cells (#[.int .i64 0, .int .i64 0, .int .i64 0] : Array Value) 49)) 49 (#[.int .i64 0, .int .i64 0, .int .i64 0] : Array Value)
  case round =>
    obtain ⟨k, s, hk, rfl, hR, b1, b2, b3, hz, hs, hb⟩ := hrel
    have HR := Lib.hid hR; clear hR
    by_cases hlt : k < n
    · obtain ⟨b, off, m, rfl, _, hd, hy, c0, c1, c2⟩ := RMels.at_ (RRow.below hr hb) hlt
      have HD := Lib.hid hd; clear hd hy
      cases h1 : melB m.a m.b m.c
      · go_wp2_with fail
        refine (isMelt_any _ _ _ _).mono ?_
        rintro e1 w1 ⟨rfl, hn⟩
        replace hz := (hz.alloc _).below hn (hz.alloc _).lt
        replace hb := (hb.alloc hb.size _).trans (hn.mono (by have := hb.size; simp; omega))
        clear c0 c1 c2 hn
        have z0 : _ = some (Value.int .i64 0) := hz.cell 0
        have z1 : _ = some (Value.int .i64 0) := hz.cell 1
        have z2 : _ = some (Value.int .i64 0) := hz.cell 2
        have y0 := hz.frozen 0
        have y1 := hz.frozen 1
        have y2 := hz.frozen 2
        go_wp2_with fail
        clear z0 z1 z2 y0 y1 y2
        have hz := ((hz.set_ 0 (.int .i64 0)).set_ 1 (.int .i64 0)).set_ 2 (.int .i64 0)
        have q0 : _ = some (Value.int .i64 0) := hz.cell 0; have q1 : _ = some (Value.int .i64 0) := hz.cell 1; have q2 : _ = some (Value.int .i64 0) := hz.cell 2
        have HJ := Lib.hid (jm_none (ms := ms) (by rw [← HR.out, HD.out]; simp [jmL, h1]))
        exact bodyPost_ret (v := .tuple #[.agg #[.int .i64 (jm ms).1.a, .int .i64 (jm ms).1.b, .int .i64 (jm ms).1.c], .bool (jm ms).2]) (by simp [results, Try.results39, go_sem, HJ.out, q0, q1, q2]) rfl ⟨rfl, ((hb.setCell (by simp) _).setCell (by simp) _).setCell (by simp) _⟩
      · have bm := melB_true h1
        go_wp2_with fail
        refine (isMelt_any _ _ _ _).mono ?_
        rintro e1 w1 ⟨rfl, hn⟩
        replace hz := (hz.alloc _).below hn (hz.alloc _).lt
        replace hs := (hs.alloc _).below hn (hs.alloc _).lt
        have hm : Blk w1 wr.heap.size 49 [.int .i64 m.a, .int .i64 m.b, .int .i64 m.c] := (Blk.new' wr 49 #[.int .i64 m.a, .int .i64 m.b, .int .i64 m.c]).below hn (by simp)
        replace hb := (hb.alloc hb.size _).trans (hn.mono (by have := hb.size; simp; omega))
        clear c0 c1 c2 hn
        have s0 : _ = some (Value.int .i64 s.a) := hs.cell 0
        have s1 : _ = some (Value.int .i64 s.b) := hs.cell 1
        have s2 : _ = some (Value.int .i64 s.c) := hs.cell 2
        have m0 : _ = some (Value.int .i64 m.a) := hm.cell 0
        have m1 : _ = some (Value.int .i64 m.b) := hm.cell 1
        have m2 : _ = some (Value.int .i64 m.c) := hm.cell 2
        go_wp2_with fail
        refine (plusB_any _ _ _ _ _ _ _ (by omega) (by omega)).mono ?_
        rintro e1 w2 ⟨rfl, hn⟩
        replace hz := hz.below hn hz.lt
        replace hs := hs.below hn hs.lt
        replace hb := hb.trans (hn.mono hb.size)
        clear s0 s1 s2 m0 m1 m2 hn hm
        have s0 : _ = some (Value.int .i64 s.a) := hs.cell 0
        have s1 : _ = some (Value.int .i64 s.b) := hs.cell 1
        have s2 : _ = some (Value.int .i64 s.c) := hs.cell 2
        have y0 := hs.frozen 0
        have y1 := hs.frozen 1
        have y2 := hs.frozen 2
        go_wp2_with fail
        go_roundw
        case rel => exact ⟨k + 1, ⟨s.a + m.a, s.b + m.b, s.c + m.c⟩, by omega, by go_num, by rw [← HR.out, HD.out]; simp [jmL, h1], by simp only []; omega, by simp only []; omega, by simp only []; omega, ((hz.far (by simp) _).far (by simp) _).far (by simp) _, ((hs.set_ 0 _).set_ 1 _).set_ 2 _, ((hb.setCell (by simp) _).setCell (by simp) _).setCell (by simp) _⟩
        case measure => simp [intOf]; omega
    · by_cases h20 : 20 < n
      · have HJ := Lib.hid (jm_long (ms := ms) (by have := HL.out; omega))
        have z0 : _ = some (Value.int .i64 0) := hz.cell 0
        have z1 : _ = some (Value.int .i64 0) := hz.cell 1
        have z2 : _ = some (Value.int .i64 0) := hz.cell 2
        have y0 := hz.frozen 0
        have y1 := hz.frozen 1
        have y2 := hz.frozen 2
        go_wp2_with fail
        clear z0 z1 z2 y0 y1 y2
        have hz := ((hz.set_ 0 (.int .i64 0)).set_ 1 (.int .i64 0)).set_ 2 (.int .i64 0)
        have q0 : _ = some (Value.int .i64 0) := hz.cell 0; have q1 : _ = some (Value.int .i64 0) := hz.cell 1; have q2 : _ = some (Value.int .i64 0) := hz.cell 2
        exact bodyPost_ret (v := .tuple #[.agg #[.int .i64 (jm ms).1.a, .int .i64 (jm ms).1.b, .int .i64 (jm ms).1.c], .bool (jm ms).2]) (by simp [results, Try.results39, go_sem, HJ.out, q0, q1, q2]) rfl ⟨rfl, ((hb.setCell (by simp) _).setCell (by simp) _).setCell (by simp) _⟩
      have HJ := Lib.hid (jm_some (ms := ms) (s := s) (by have := HL.out; omega) (by rw [← HR.out, List.drop_of_length_le (by have := HL.out; omega)]; rfl))
      have s0 : _ = some (Value.int .i64 s.a) := hs.cell 0
      have s1 : _ = some (Value.int .i64 s.b) := hs.cell 1
      have s2 : _ = some (Value.int .i64 s.c) := hs.cell 2
      cases h1 : melB s.a s.b s.c
      all_goals
        go_wp2_with fail
        refine (isMelt_any _ _ _ _).mono ?_
        rintro e1 w1 ⟨rfl, hn⟩
        replace hz := hz.below hn hz.lt
        replace hs := hs.below hn hs.lt
        replace hb := hb.trans (hn.mono hb.size)
        clear s0 s1 s2 hn
        have s0 : _ = some (Value.int .i64 s.a) := hs.cell 0
        have s1 : _ = some (Value.int .i64 s.b) := hs.cell 1
        have s2 : _ = some (Value.int .i64 s.c) := hs.cell 2
        have z0 : _ = some (Value.int .i64 0) := hz.cell 0
        have z1 : _ = some (Value.int .i64 0) := hz.cell 1
        have z2 : _ = some (Value.int .i64 0) := hz.cell 2
        have y0 := hz.frozen 0
        have y1 := hz.frozen 1
        have y2 := hz.frozen 2
        go_wp2_with fail
        clear z0 z1 z2 y0 y1 y2 s0 s1 s2
      · have hz := ((hz.set_ 0 (.int .i64 0)).set_ 1 (.int .i64 0)).set_ 2 (.int .i64 0)
        have q0 : _ = some (Value.int .i64 0) := hz.cell 0; have q1 : _ = some (Value.int .i64 0) := hz.cell 1; have q2 : _ = some (Value.int .i64 0) := hz.cell 2
        exact bodyPost_ret (v := .tuple #[.agg #[.int .i64 (jm ms).1.a, .int .i64 (jm ms).1.b, .int .i64 (jm ms).1.c], .bool (jm ms).2]) (by simp [results, Try.results39, go_sem, HJ.out, jmF, h1, q0, q1, q2]) rfl ⟨rfl, ((hb.setCell (by simp) _).setCell (by simp) _).setCell (by simp) _⟩
      · have hz := ((hz.set_ 0 (.int .i64 s.a)).set_ 1 (.int .i64 s.b)).set_ 2 (.int .i64 s.c)
        have q0 : _ = some (Value.int .i64 s.a) := hz.cell 0; have q1 : _ = some (Value.int .i64 s.b) := hz.cell 1; have q2 : _ = some (Value.int .i64 s.c) := hz.cell 2
        exact bodyPost_ret (v := .tuple #[.agg #[.int .i64 (jm ms).1.a, .int .i64 (jm ms).1.b, .int .i64 (jm ms).1.c], .bool (jm ms).2]) (by simp [results, Try.results39, go_sem, HJ.out, jmF, h1, q0, q1, q2]) rfl ⟨rfl, ((hb.setCell (by simp) _).setCell (by simp) _).setCell (by simp) _⟩

theorem Blk.rmels {w : World} {g n : Nat} {ms : List Mel} (h : Blk w g 49 (ms.map Mel.row).flatten) (hl : ms.length = n) : RMels w w.heap.size (some ⟨g, 0, none⟩) n ms := by
  have e : (ms.map Mel.row).flatten.length = n * 3 := by
    rw [List.length_flatten, ← hl]
    clear hl h
    induction ms with
    | nil => rfl
    | cons m r ih => simp only [List.map_cons, List.sum_cons, ih, List.length_cons]; simp [Mel.row]; omega
  exact ⟨by simp [hl], by simp [Mel.row], h.reads e⟩
theorem szMeltS_any (A : Option Addr) (n c : Nat) (l : Int) (w : World) (hn : n ≤ 9223372036854775807) (hl : 0 ≤ l ∧ l ≤ 1048576) : Calls Try.prog 36 #[.slice A n c, .int .i64 l] w fun e w' => e = .returned (.int .i64 (if l < n then -1 else l - n)) ∧ w = w' := by
  by_cases h : l < n
  all_goals
    go_enter Try.func36, Try.ntmps36
    go_wp2
    go_ret
    exact ⟨ret_int rfl, rfl⟩
theorem joinLaw (W : World) (A : Option Addr) (n cp : Nat) (ms : List Mel) (hr : RMels W W.heap.size A n ms) (hn0 : n ≤ maxLen) : Calls Try.prog 12 #[.slice A n cp] W fun e W' => e = .returned (.bool true) ∧ Below W.heap.size W W' := by
  unfold maxLen at hn0
  have HL := Lib.hid hr.len
  have hc : True := trivial
  have hf : True := trivial
  have hb := Below.refl W.heap.size W
  by_cases hbig : 1048576 < n
  · have hs := (szMeltS_any A n cp 1048576 W (by omega) (by omega))
    rw [if_pos (by omega)] at hs
    have HS := Lib.hid hs
    clear hs
    go_enter Try.func12, Try.ntmps12
    go_wp2_with fail
    refine HS.out.mono ?_
    rintro e1 w1 ⟨rfl, rfl⟩
    go_wp2_with fail
    go_ret
    exact ⟨rfl, hb⟩
  have hs := (szMeltS_any A n cp 1048576 W (by omega) (by omega))
  rw [if_neg (by omega)] at hs
  have HS := Lib.hid hs
  have hn1 : n ≤ 1048576 := by omega
  clear hs
  go_enter Try.func12, Try.ntmps12
  go_wp2_with fail
  refine HS.out.mono ?_
  rintro e1 w1 ⟨rfl, rfl⟩
  go_wp2_with fail; refine (toMeltS_any _ _ _ _ ms _ (RRow.below hr hb) hb.size hn1).mono ?_; rintro e1 w1 ⟨gk1, rfl, hgk1, k1, hn⟩; replace hb := hb.trans (hn.mono hb.size); clear hc hf; obtain ⟨hc, hf⟩ := bcell hb
  have hx := k1.rmels HL.out
  go_wp2_with fail; refine (join_spec _ _ _ ms _ hx hn1).mono ?_; rintro e1 w1 ⟨rfl, hn⟩; replace hb := hb.trans (hn.mono hb.size); clear hc hf; obtain ⟨hc, hf⟩ := bcell hb
  clear hx k1 hn hc hf
  obtain ⟨x, hx⟩ : ∃ x, x = (jm ms).1.a := ⟨_, rfl⟩
  obtain ⟨y, hy⟩ : ∃ x, x = (jm ms).1.b := ⟨_, rfl⟩
  obtain ⟨z, hz⟩ : ∃ x, x = (jm ms).1.c := ⟨_, rfl⟩
  obtain ⟨t, ht⟩ : ∃ x, x = (jm ms).2 := ⟨_, rfl⟩
  have hj : ∀ (hr : RMels w1 w1.heap.size A n ms), True := fun _ => trivial
  have HI : ∀ (A : Option Addr) (cp : Nat) (w : World) (hr : RMels w w.heap.size A n ms), Calls Try.prog 39 #[.slice A n cp] w fun u w' => u = .returned (.tuple #[.agg #[.int .i64 x, .int .i64 y, .int .i64 z], .bool t]) ∧ Below w.heap.size w w' := by
    intro A cp w hr
    rw [hx, hy, hz, ht]
    exact join_impl A n cp ms w hr hn1
  have HJ := Lib.hid HI
  clear HI hj
  rw [← hx, ← hy, ← hz, ← ht]
  clear hx hy hz ht
  have hw := Blk.new' w1 49 #[.int .i64 x, .int .i64 y, .int .i64 z]
  replace hb := hb.alloc hb.size (.cells #[.int .i64 x, .int .i64 y, .int .i64 z] 49)
  go_wp2_with fail
  refine (toMeltS_any _ _ _ _ ms _ (RRow.below hr hb) hb.size hn1).mono ?_
  rintro e1 w2 ⟨g2, rfl, _, k2, hn⟩
  replace hw := hw.below hn hw.lt
  replace hb := hb.trans (hn.mono hb.size)
  have hx := k2.rmels HL.out
  clear k2 hn
  go_wp2_with fail
  refine (HJ.out _ _ _ hx).mono ?_
  rintro e1 w3 ⟨rfl, hn⟩
  replace hw := hw.below hn hw.lt
  replace hb := hb.trans (hn.mono hb.size)
  replace hx := (RRow.below hx hn).more hn.size
  clear hn
  have c0 : _ = some (Value.int .i64 x) := hw.cell 0
  have c1 : _ = some (Value.int .i64 y) := hw.cell 1
  have c2 : _ = some (Value.int .i64 z) := hw.cell 2
  have hlt := hw.lt
  go_wp2_with fail
  refine (eqMelt_any _ _ _ _).mono ?_
  rintro e1 w4 ⟨rfl, hn⟩
  replace hb := (hb.alloc hb.size _).trans (hn.mono (by have := hb.size; simp; omega))
  replace hx := ((RRow.alloc hx (Nat.le_refl _) _).more (by simp)).below hn
  replace hx := RRow.more hx hn.size
  clear hn c0 c1 c2 hlt hw
  go_wp2_with fail
  refine (toMeltS_any _ _ _ _ ms _ (RRow.below hr hb) hb.size hn1).mono ?_
  rintro e1 w5 ⟨g5, rfl, _, k5, hn⟩
  replace hb := hb.trans (hn.mono hb.size)
  replace hx := RRow.more (RRow.below hx hn) hn.size
  have hy := k5.rmels HL.out
  clear k5 hn
  go_wp2_with fail
  refine (eqMeltS_any _ _ _ _ _ ms _ hx hy hn1).mono ?_
  rintro e1 w6 ⟨rfl, hn⟩
  replace hb := hb.trans (hn.mono hb.size)
  go_wp2_with fail
  go_ret
  exact ⟨rfl, hb⟩
end Go.Proofs.Ytggdpmipfhfegaa
