/-
  Contracts: GreatestDelay.
-/
import Derived.Test.YtfjkmocjlmcjdaaPr10
import Derived.WalkLawsBesides
namespace Go.Proofs.Ytfjkmocjlmcjdaa
open Go.RowKit
def delL (ms : List PJob) : List Int → List Int → Int → Int
  | e :: es, i :: r, m => delL ms es r (mxI m (e - (jobAt ms i).due))
  | _, _, m => m
theorem delL_end {ms : List PJob} {es os : List Int} {m : Int} (h : os = []) : delL ms es os m = m := by subst h; cases es <;> rfl
theorem endsL_bd {xs ts : List Int} {ms : List PJob} (hx : ∀ x ∈ xs, 0 ≤ x ∧ x ≤ 300) (ht : ∀ x ∈ ts, 0 ≤ x ∧ x ≤ 2500000) : ∀ (os : List Int) (ink t ws : Int), 0 ≤ t → ∀ e ∈ (endsL xs ms ts os ink t ws).1, 0 ≤ e ∧ e ≤ t + 3000000 * os.length
  | [], _, _, _, _ => by simp [endsL]
  | i :: r, ink, t, ws, h => by
    have b1 := washF_bd (f := ink) (t := (jobAt ms i).ink) hx
    have b2 : 0 ≤ ts.getD i.toNat 0 ∧ ts.getD i.toNat 0 ≤ 2500000 := by
      rw [List.getD_eq_getElem?_getD]
      cases hq : ts[i.toNat]? with
      | none => simp
      | some y => exact ht y (List.mem_of_getElem? hq)
    intro e he
    rw [endsL] at he
    simp only [List.length_cons] at *
    rcases List.mem_cons.1 he with rfl | he
    · omega
    · have := endsL_bd hx ht r _ _ _ (by omega) e he
      omega
theorem timesL_bd {a b c : Int} {ms : List PJob} (ha : 1 ≤ a ∧ a ≤ 5000) (hb : 0 ≤ b ∧ b ≤ 600) (h0 : 0 ≤ c ∧ c ≤ 500) (hm : (∀ m ∈ ms, (0 ≤ m.ink ∧ m.ink ≤ 4) ∧ (1 ≤ m.sheets ∧ m.sheets ≤ 20000) ∧ (0 ≤ m.due ∧ m.due ≤ 100000))) : ∀ x ∈ timesL a b c ms, 0 ≤ x ∧ x ≤ 2500000 := by
  intro x hx
  obtain ⟨m, h1, rfl⟩ := List.mem_map.1 hx
  have := mins_bd ha hb h0 (hm m h1).2.1
  omega
theorem quiet_add_l {P : Program} {f : FuncId} {args : Array Value} {w : World} {a n : Nat} {v : Value}
    (h : Calls P f args (w.drewN (a + n)) fun e w' => e = .returned v ∧ w.drewN (a + n) = w') : Calls P f args (w.drewN (a + n)) fun e w'' => e = .returned v ∧ ∃ m, w'' = w.drewN (a + m) :=
  h.mono fun _ _ ⟨he, hm⟩ => ⟨he, n, hm.symm⟩
set_option maxRecDepth 100000 in
theorem prDelay_any {a b c ink : Int} {A B D : Option Addr} {n cp q cq r cr : Nat} {xs os : List Int} {ms : List PJob} {w : World} {T : Option Addr} {ct : Nat} (hr : RInts w w.heap.size A n xs) (hn0 : n ≤ 1048576) (hs : RPJobs w w.heap.size B q ms) (hq0 : q ≤ 1048576) (ho : RInts w w.heap.size D r os) (hr0 : r ≤ 1048576) (ht : RInts w w.heap.size T q (timesL a b c ms)) (ha : 1 ≤ a ∧ a ≤ 5000) (hb1 : 0 ≤ b ∧ b ≤ 600) (h0 : 0 ≤ c ∧ c ≤ 500) (hn5 : 5 ≤ n) (hx : ∀ x ∈ xs, 0 ≤ x ∧ x ≤ 300) (hi0 : 0 ≤ ink ∧ ink ≤ 4) (hm : (∀ m ∈ ms, (0 ≤ m.ink ∧ m.ink ≤ 4) ∧ (1 ≤ m.sheets ∧ m.sheets ≤ 20000) ∧ (0 ≤ m.due ∧ m.due ≤ 100000))) (hi : ∀ i ∈ os, 0 ≤ i ∧ i < q) (hr7 : r ≤ 7) :
    Calls Try.prog 50 #[.agg #[.int .i64 a, .int .i64 b, .int .i64 c, .slice A n cp], .int .i64 ink, .slice B q cq, .slice T q ct, .slice D r cr] w fun e w' => e = .returned (.int .i64 (delL ms (allEnds a b c ink xs ms os).1 os 0)) ∧ Below w.heap.size w w' := by
  have HO := Lib.hid ho.len
  have HM := Lib.hid hm
  have HI := Lib.hid hi
  have HEB := Lib.hid (show ∀ e ∈ (allEnds a b c ink xs ms os).1, 0 ≤ e ∧ e ≤ 3000000 * os.length from fun e he => by have := endsL_bd hx (timesL_bd ha hb1 h0 hm) os ink 0 0 (by omega) e he; omega)
  have HX := Lib.hid hx
  have hb : Below w.heap.size w (w.alloc (.cells #[.int .i64 a, .int .i64 b, .int .i64 c, .slice A n cp] 30)) := (by (repeat (first | exact Below.refl _ _ | exact hb | apply Below.drew | (refine Below.alloc ?_ (by first | (simp; done) | (simp; omega) | (have := hb.size; simp at this ⊢; omega)) _) | (refine Below.setCell ?_ (by simp) _))))
  have hr1 := (hr.alloc (Nat.le_refl _) (.cells #[.int .i64 a, .int .i64 b, .int .i64 c, .slice A n cp] 30)).more (B' := (w.alloc (.cells #[.int .i64 a, .int .i64 b, .int .i64 c, .slice A n cp] 30)).heap.size) (by simp <;> omega)
  have hs1 := (RRow.alloc hs (Nat.le_refl _) (.cells #[.int .i64 a, .int .i64 b, .int .i64 c, .slice A n cp] 30)).more (B' := (w.alloc (.cells #[.int .i64 a, .int .i64 b, .int .i64 c, .slice A n cp] 30)).heap.size) (by simp <;> omega)
  have ho1 := (ho.alloc (Nat.le_refl _) (.cells #[.int .i64 a, .int .i64 b, .int .i64 c, .slice A n cp] 30)).more (B' := (w.alloc (.cells #[.int .i64 a, .int .i64 b, .int .i64 c, .slice A n cp] 30)).heap.size) (by simp <;> omega)
  have ht1 := (ht.alloc (Nat.le_refl _) (.cells #[.int .i64 a, .int .i64 b, .int .i64 c, .slice A n cp] 30)).more (B' := (w.alloc (.cells #[.int .i64 a, .int .i64 b, .int .i64 c, .slice A n cp] 30)).heap.size) (by simp <;> omega)
  clear hm hi hx
  go_enter Try.func50, Try.ntmps50
  go_wp2_with fail
  refine (prEnds_any hr1 hn0 hs1 hq0 ho1 hr0 ht1 ha hb1 h0 hn5 HX.out hi0 HM.out HI.out hr7).mono ?_
  rintro e1 w1 ⟨V, C, rfl, hoE, hn⟩
  replace hb := hb.trans (hn.mono hb.size)
  replace hs1 := RPJobs.below hs1 hn
  replace ho1 := RInts.below ho1 hn
  have hE : RInts w1 w1.heap.size V r (allEnds a b c ink xs ms os).1 := own_rints hoE
  have HEL := Lib.hid hE.len
  clear hr1 hn hoE ht1
  go_wp2_with fail
  go_loopw [11, 27] (fun v u wr => ∃ (k : Nat) (m0 : Int), k ≤ r ∧ u = .int .i64 k ∧ v = .int .i64 m0 ∧ (0 ≤ m0 ∧ m0 ≤ 30000000) ∧ delL ms ((allEnds a b c ink xs ms os).1.drop k) (os.drop k) m0 = delL ms (allEnds a b c ink xs ms os).1 os 0 ∧ ∃ j, wr = w1.drewN j) (fun _ u _ => r - (intOf u).toNat)
  case atStart => exact ⟨0, 0, Nat.zero_le _, rfl, rfl, by omega, rfl, 0, rfl⟩
  case round =>
    obtain ⟨k, m0, hk, rfl, rfl, bm0, hR, jd, rfl⟩ := hrel
    by_cases hlt : k < r
    · obtain ⟨ad, i, eA, _, hd, hyi, hci⟩ := RInts.at_ ho1 hlt
      have bi := HI.out i (List.mem_of_getElem? hyi)
      obtain ⟨ae, z, eV, _, he, hz, hcz⟩ := RInts.at_ hE hlt
      have bz := HEB.out z (List.mem_of_getElem? hz)
      obtain ⟨bb, off, m, eB, _, _, hy, c0, c1, c2⟩ := RPJobs.at_ hs1 (k := i.toNat) (by omega)
      have bm := HM.out m (List.mem_of_getElem? hy)
      have hj : jobAt ms i = m := jobAt_get hy
      have HR := Lib.hid (show delL ms ((allEnds a b c ink xs ms os).1.drop (k + 1)) (os.drop (k + 1)) (mxI m0 (z - m.due)) = delL ms (allEnds a b c ink xs ms os).1 os 0 by rw [← hR, hd, he, delL, hj])
      have bz2 : z ≤ 21000000 := by have := HO.out; omega
      have bmx : 0 ≤ mxI m0 (z - m.due) ∧ mxI m0 (z - m.due) ≤ 30000000 := by unfold mxI; split <;> omega
      have HA := Lib.hid eA
      have HB := Lib.hid eB
      have HV := Lib.hid eV
      have ew : IntKind.i64.wrap (z - m.due) = z - m.due := wrapI (by omega) (by omega)
      clear hd hR hy hyi hj he hz bz
      rw [eA, eB, eV]
      clear eA eB eV
      go_wp2_with fail
      go_quiet ((go_at_call 57; (try rw [ew]); exact quiet_add_l (most_any _ _ _)))
      clear c0 c1 c2 hci hcz
      go_wp2_with fail
      (try rw [← HA.out]); (try rw [← HB.out]); (try rw [← HV.out])
      go_roundw
      case rel => exact ⟨k + 1, _, by omega, by go_num, rfl, bmx, by exact HR.out, _, rfl⟩
      case measure => simp [intOf]; omega
    · have HR := Lib.hid (show m0 = delL ms (allEnds a b c ink xs ms os).1 os 0 by rw [← hR, drop_end HO.out hlt]; exact (delL_end rfl).symm)
      clear hR
      go_wp2_with fail
      go_ret
      exact ⟨ret_int HR.out, below_drewN hb _⟩
set_option maxRecDepth 100000 in
theorem delay_any {a b c ink : Int} {A B D : Option Addr} {n cp q cq r cr : Nat} {xs os : List Int} {ms : List PJob} {w : World} (hr : RInts w w.heap.size A n xs) (hn0 : n ≤ 1048576) (hs : RPJobs w w.heap.size B q ms) (hq0 : q ≤ 1048576) (ho : RInts w w.heap.size D r os) (hr0 : r ≤ 1048576) (ha : 1 ≤ a ∧ a ≤ 5000) (hb1 : 0 ≤ b ∧ b ≤ 600) (h0 : 0 ≤ c ∧ c ≤ 500) (hn5 : 5 ≤ n) (hx : ∀ x ∈ xs, 0 ≤ x ∧ x ≤ 300) (hi0 : 0 ≤ ink ∧ ink ≤ 4) (hm : (∀ m ∈ ms, (0 ≤ m.ink ∧ m.ink ≤ 4) ∧ (1 ≤ m.sheets ∧ m.sheets ≤ 20000) ∧ (0 ≤ m.due ∧ m.due ≤ 100000))) (hi : ∀ i ∈ os, 0 ≤ i ∧ i < q) (hr7 : r ≤ 7) :
    Calls Try.prog 32 #[.agg #[.int .i64 a, .int .i64 b, .int .i64 c, .slice A n cp], .int .i64 ink, .slice B q cq, .slice D r cr] w fun e w' => e = .returned (.int .i64 (delL ms (allEnds a b c ink xs ms os).1 os 0)) ∧ Below w.heap.size w w' := by
  have HO := Lib.hid ho.len
  have HM := Lib.hid hm
  have HI := Lib.hid hi
  have HEB := Lib.hid (show ∀ e ∈ (allEnds a b c ink xs ms os).1, 0 ≤ e ∧ e ≤ 3000000 * os.length from fun e he => by have := endsL_bd hx (timesL_bd ha hb1 h0 hm) os ink 0 0 (by omega) e he; omega)
  have HX := Lib.hid hx
  have hb : Below w.heap.size w (w.alloc (.cells #[.int .i64 a, .int .i64 b, .int .i64 c, .slice A n cp] 30)) := (by (repeat (first | exact Below.refl _ _ | exact hb | apply Below.drew | (refine Below.alloc ?_ (by first | (simp; done) | (simp; omega) | (have := hb.size; simp at this ⊢; omega)) _) | (refine Below.setCell ?_ (by simp) _))))
  have hr1 := (hr.alloc (Nat.le_refl _) (.cells #[.int .i64 a, .int .i64 b, .int .i64 c, .slice A n cp] 30)).more (B' := (w.alloc (.cells #[.int .i64 a, .int .i64 b, .int .i64 c, .slice A n cp] 30)).heap.size) (by simp <;> omega)
  have hs1 := (RRow.alloc hs (Nat.le_refl _) (.cells #[.int .i64 a, .int .i64 b, .int .i64 c, .slice A n cp] 30)).more (B' := (w.alloc (.cells #[.int .i64 a, .int .i64 b, .int .i64 c, .slice A n cp] 30)).heap.size) (by simp <;> omega)
  have ho1 := (ho.alloc (Nat.le_refl _) (.cells #[.int .i64 a, .int .i64 b, .int .i64 c, .slice A n cp] 30)).more (B' := (w.alloc (.cells #[.int .i64 a, .int .i64 b, .int .i64 c, .slice A n cp] 30)).heap.size) (by simp <;> omega)
  clear hm hi hx
  go_enter Try.func32, Try.ntmps32
  go_wp2_with fail
  refine (run_any hr1 hn0 hs1 hq0 ho1 hr0 ha hb1 h0 hn5 HX.out hi0 HM.out HI.out hr7).mono ?_
  rintro e1 w1 ⟨V, C, rfl, hoE, hn⟩
  replace hb := hb.trans (hn.mono hb.size)
  replace hs1 := RPJobs.below hs1 hn
  replace ho1 := RInts.below ho1 hn
  have hE : RInts w1 w1.heap.size V r (allEnds a b c ink xs ms os).1 := own_rints hoE
  have HEL := Lib.hid hE.len
  clear hr1 hn hoE
  go_wp2_with fail
  go_loopw [9, 24] (fun v u wr => ∃ (k : Nat) (m0 : Int), k ≤ r ∧ u = .int .i64 k ∧ v = .int .i64 m0 ∧ (0 ≤ m0 ∧ m0 ≤ 30000000) ∧ delL ms ((allEnds a b c ink xs ms os).1.drop k) (os.drop k) m0 = delL ms (allEnds a b c ink xs ms os).1 os 0 ∧ ∃ j, wr = w1.drewN j) (fun _ u _ => r - (intOf u).toNat)
  case atStart => exact ⟨0, 0, Nat.zero_le _, rfl, rfl, by omega, rfl, 0, rfl⟩
  case round =>
    obtain ⟨k, m0, hk, rfl, rfl, bm0, hR, jd, rfl⟩ := hrel
    by_cases hlt : k < r
    · obtain ⟨ad, i, eA, _, hd, hyi, hci⟩ := RInts.at_ ho1 hlt
      have bi := HI.out i (List.mem_of_getElem? hyi)
      obtain ⟨ae, z, eV, _, he, hz, hcz⟩ := RInts.at_ hE hlt
      have bz := HEB.out z (List.mem_of_getElem? hz)
      obtain ⟨bb, off, m, eB, _, _, hy, c0, c1, c2⟩ := RPJobs.at_ hs1 (k := i.toNat) (by omega)
      have bm := HM.out m (List.mem_of_getElem? hy)
      have hj : jobAt ms i = m := jobAt_get hy
      have HR := Lib.hid (show delL ms ((allEnds a b c ink xs ms os).1.drop (k + 1)) (os.drop (k + 1)) (mxI m0 (z - m.due)) = delL ms (allEnds a b c ink xs ms os).1 os 0 by rw [← hR, hd, he, delL, hj])
      have bz2 : z ≤ 21000000 := by have := HO.out; omega
      have bmx : 0 ≤ mxI m0 (z - m.due) ∧ mxI m0 (z - m.due) ≤ 30000000 := by unfold mxI; split <;> omega
      have HA := Lib.hid eA
      have HB := Lib.hid eB
      have HV := Lib.hid eV
      have ew : IntKind.i64.wrap (z - m.due) = z - m.due := wrapI (by omega) (by omega)
      clear hd hR hy hyi hj he hz bz
      rw [eA, eB, eV]
      clear eA eB eV
      have l0 : (0 : Int) ≤ (k : Int) := by omega
      rcases (by omega : m0 < z - m.due ∨ z - m.due ≤ m0) with hxz | hxz
      · have HMX := Lib.hid (show mxI m0 (z - m.due) = z - m.due by unfold mxI; split <;> omega)
        go_wp2_with fail
        go_quiet (fail)
        clear c0 c1 c2 hci hcz
        go_wp2_with fail
        (try rw [← HA.out]); (try rw [← HB.out]); (try rw [← HV.out])
        go_roundw
        case rel => exact ⟨k + 1, _, by omega, by go_num, rfl, by omega, by rw [← HMX.out]; exact HR.out, _, rfl⟩
        case measure => simp [intOf]; omega
      · have HMX := Lib.hid (show mxI m0 (z - m.due) = m0 by unfold mxI; split <;> omega)
        go_wp2_with fail
        go_quiet (fail)
        clear c0 c1 c2 hci hcz
        go_wp2_with fail
        (try rw [← HA.out]); (try rw [← HB.out]); (try rw [← HV.out])
        go_roundw
        case rel => exact ⟨k + 1, _, by omega, by go_num, rfl, by omega, by rw [← HMX.out]; exact HR.out, _, rfl⟩
        case measure => simp [intOf]; omega
    · have HR := Lib.hid (show m0 = delL ms (allEnds a b c ink xs ms os).1 os 0 by rw [← hR, drop_end HO.out hlt]; exact (delL_end rfl).symm)
      clear hR
      go_wp2_with fail
      go_ret
      exact ⟨ret_int HR.out, below_drewN hb _⟩
def gdV (a b c ink : Int) (xs : List Int) (ms : List PJob) (os : List Int) : Int := if askB a b c xs ink ms os then delL ms (allEnds a b c ink xs ms os).1 os 0 else 0
end Go.Proofs.Ytfjkmocjlmcjdaa
