/-
  Contracts: LateJobs.
-/
import Derived.Test.YtfgnjokiadlieaaPr13
import Derived.WalkLawsBesides
import Derived.Maps.AppendAt
namespace Go.Proofs.Ytfgnjokiadlieaa
open Go.RowKit
def lateL (ms : List PJob) : List Int → List Int → List Int
  | e :: es, i :: r => if (jobAt ms i).due < e then i :: lateL ms es r else lateL ms es r
  | _, _ => []
theorem lateL_end {ms : List PJob} {es os : List Int} (h : os = []) : lateL ms es os = [] := by subst h; cases es <;> rfl
theorem lateL_sub {ms : List PJob} : ∀ (es os : List Int), (lateL ms es os).Sublist os
  | [], os => by cases os <;> simp [lateL]
  | e :: es, [] => by simp [lateL]
  | e :: es, i :: r => by
    rw [lateL]
    split
    · exact (lateL_sub es r).cons_cons i
    · exact (lateL_sub es r).cons i
theorem askB_nodup {a b c ink : Int} {xs os : List Int} {ms : List PJob} (h : askB a b c xs ink ms os = true) : os.Nodup := by
  simp only [askB, bothB, ordB, Bool.and_eq_true, inB_true, decide_eq_true_eq] at h
  obtain ⟨_, h4, h5, h6⟩ := h
  exact (dupL_nodup h6).1
def lateV (a b c ink : Int) (xs : List Int) (ms : List PJob) (os : List Int) : List Int := if askB a b c xs ink ms os then sortI (lateL ms (allEnds a b c ink xs ms os).1 os) else []
theorem putL_length (y : Int) : ∀ zs : List Int, (putL y zs).length ≤ zs.length + 1
  | [] => by simp [putL]
  | z :: r => by
    have := putL_length y r
    rw [putL]
    split
    · simp; omega
    · split <;> simp
theorem own_cap {w : World} {B N C n : Nat} {V : Option Addr} {zs : List Int} (h : Own w B (.slice V N C) n zs) : N = n ∧ N ≤ C ∧ (V = none → C = 0) := by
  rcases h.2 with ⟨e, hn⟩ | ⟨g, cap, cur, e, hB, hg, hnc, hcm, hcs, htk⟩
  · injection e with e1 e2 e3
    subst e1 e2 e3
    exact ⟨hn.symm, Nat.le_refl _, fun _ => rfl⟩
  · injection e with e1 e2 e3
    subst e1 e2 e3
    exact ⟨rfl, hnc, fun h => by cases h⟩
set_option maxRecDepth 100000 in
set_option maxHeartbeats 1000000 in
theorem lateJobs_spec {a b c ink : Int} {A B D : Option Addr} {n cp q cq r : Nat} {xs os : List Int} {ms : List PJob} {w : World} (hr : RInts w w.heap.size A n xs) (hn0 : n ≤ 1048576) (_ : -9223372036854775808 ≤ ink ∧ ink ≤ 9223372036854775807) (hs : RPJobs w w.heap.size B q ms) (hq0 : q ≤ 1048576) (ho : RInts w w.heap.size D r os) (hr0 : r ≤ 1048576) :
    Calls Try.prog 25 #[.agg #[.int .i64 a, .int .i64 b, .int .i64 c, .slice A n cp], .int .i64 ink, .slice B q cq, .slice D r r] w fun e w' => ∃ V N C, e = .returned (.tuple #[.slice V N C, .bool (askB a b c xs ink ms os)]) ∧ Own w' w.heap.size (.slice V N C) N (lateV a b c ink xs ms os) ∧ N ≤ 1048576 ∧ Below w.heap.size w w' := by
  have hP := Blk.new' w 34 #[.int .i64 a, .int .i64 b, .int .i64 c, .slice A n cp]; have hb : Below w.heap.size w (w.alloc (.cells #[.int .i64 a, .int .i64 b, .int .i64 c, .slice A n cp] 34)) := (by (repeat (first | exact Below.refl _ _ | exact hb | apply Below.drew | (refine Below.alloc ?_ (by first | (simp; done) | (simp; omega) | (have := hb.size; simp at this ⊢; omega)) _) | (refine Below.setCell ?_ (by simp) _)))); have hr1 := (hr.alloc (Nat.le_refl _) (.cells #[.int .i64 a, .int .i64 b, .int .i64 c, .slice A n cp] 34)).more (B' := (w.alloc (.cells #[.int .i64 a, .int .i64 b, .int .i64 c, .slice A n cp] 34)).heap.size) (by simp <;> omega); have hs1 := (RRow.alloc hs (Nat.le_refl _) (.cells #[.int .i64 a, .int .i64 b, .int .i64 c, .slice A n cp] 34)).more (B' := (w.alloc (.cells #[.int .i64 a, .int .i64 b, .int .i64 c, .slice A n cp] 34)).heap.size) (by simp <;> omega); have ho1 := (ho.alloc (Nat.le_refl _) (.cells #[.int .i64 a, .int .i64 b, .int .i64 c, .slice A n cp] 34)).more (B' := (w.alloc (.cells #[.int .i64 a, .int .i64 b, .int .i64 c, .slice A n cp] 34)).heap.size) (by simp <;> omega)
  cases h1 : askB a b c xs ink ms os
  · (go_enter Try.func25, Try.ntmps25; go_wp2_with fail; refine (prAsked_any hr1 hn0 hs1 hq0 ho1 hr0 (Nat.le_refl _)).mono ?_; rintro e1 w1 ⟨rfl, hn⟩; replace hb := hb.trans (hn.mono hb.size); replace hP := hP.below hn hP.lt; replace hr1 := (RInts.below hr1 hn).more hn.size; replace hs1 := (RPJobs.below hs1 hn).more hn.size; replace ho1 := (RInts.below ho1 hn).more hn.size; clear hn)
    go_wp2_with fail
    go_ret2
    exact ⟨none, 0, 0, by simp [h1], by simp [lateV, h1]; exact own_nil _ _, by omega, hb⟩
  · obtain ⟨⟨b1, b2, b3, b4, b5⟩, b6, ⟨b7, b8⟩, b9, b10⟩ := askB_true h1; have HX := Lib.hid b5; have HM := Lib.hid b8; have HI := Lib.hid (show ∀ i ∈ os, 0 ≤ i ∧ i < q from fun i hi => by have := b10 i hi; have := hs.len; omega); have hn5 : 5 ≤ n := (by have := hr.len; omega); have hr7 : r ≤ 7 := (by have := ho.len; have := hs.len; omega); clear b4 b5 b7 b8 b9 b10
    (go_enter Try.func25, Try.ntmps25; go_wp2_with fail; refine (prAsked_any hr1 hn0 hs1 hq0 ho1 hr0 (Nat.le_refl _)).mono ?_; rintro e1 w1 ⟨rfl, hn⟩; replace hb := hb.trans (hn.mono hb.size); replace hP := hP.below hn hP.lt; replace hr1 := (RInts.below hr1 hn).more hn.size; replace hs1 := (RPJobs.below hs1 hn).more hn.size; replace ho1 := (RInts.below ho1 hn).more hn.size; clear hn)
    have HC := Lib.hid (show ∀ wx, Below w1.heap.size w1 wx → (wx.cell? ⟨w.heap.size, 0, none⟩ = some (.int .i64 a) ∧ wx.cell? ⟨w.heap.size, 1, none⟩ = some (.int .i64 b) ∧ wx.cell? ⟨w.heap.size, 2, none⟩ = some (.int .i64 c) ∧ wx.cell? ⟨w.heap.size, 3, none⟩ = some (.slice A n cp)) from fun wx h => ⟨(hP.below h hP.lt).cell 0, (hP.below h hP.lt).cell 1, (hP.below h hP.lt).cell 2, (hP.below h hP.lt).cell 3⟩)
    go_wp2_with fail
    go_region_held3 (fun wx => Below w1.heap.size w1 wx ∧ (wx.cell? ⟨w.heap.size, 0, none⟩ = some (.int .i64 a) ∧ wx.cell? ⟨w.heap.size, 1, none⟩ = some (.int .i64 b) ∧ wx.cell? ⟨w.heap.size, 2, none⟩ = some (.int .i64 c) ∧ wx.cell? ⟨w.heap.size, 3, none⟩ = some (.slice A n cp))) ((first | exact ⟨(Below.refl _ _).drew, HC.out _ (Below.refl _ _).drew⟩ | (have hh : Below _ _ _ ∧ _ := (by assumption); have hh0 := hh.1.trans (hn.mono hh.1.size); exact ⟨hh0, HC.out _ hh0⟩) | assumption | go_keep)) (first
      | (go_at_call 60; (have hh : Below _ _ _ ∧ _ := (by assumption)); refine (prTimes_any ((RPJobs.below hs1 hh.1).more hh.1.size) hq0 b1 b2 b3 HM.out).mono ?_; rintro e1 wi ⟨VT, CT, rfl, hoT, hn⟩)
      | (go_at_call 59; (have hh : Below _ _ _ ∧ _ := (by assumption)); (have hsE := Nat.le_trans hb.size hh.1.size); refine (prEnds_any ((RInts.below hr1 hh.1).more hh.1.size) hn0 ((RPJobs.below hs1 hh.1).more hh.1.size) hq0 ((RInts.below ho1 hh.1).more hh.1.size) hr0 (by exact own_rints hoT) b1 b2 b3 hn5 HX.out b6 HM.out HI.out hr7).mono ?_; rintro e1 wE ⟨V, C, rfl, hoE, hn⟩))
    clear HC
    have hn9 : Below w1.heap.size w1 _ ∧ _ := (by assumption)
    obtain ⟨hn, _⟩ := hn9
    replace hb := hb.trans (hn.mono hb.size)
    have hs2 := (RPJobs.below hs1 hn).more hn.size; have ho2 := (RInts.below ho1 hn).more hn.size; have hE : RInts wE wE.heap.size V r (allEnds a b c ink xs ms os).1 := own_rints hoE; have HO := Lib.hid ho1.len; have HN := Lib.hid (askB_nodup h1)
    have hsz := hb.size
    clear hs1 ho1 hr1 hP hn hoE hsE hoT
    go_wp2_with fail
    go_loopw [10, 34] (fun v u wr => ∃ (k N C' : Nat) (V' : Option Addr) (zs : List Int), k ≤ r ∧ N ≤ k ∧ u = .int .i64 k ∧ v = .slice V' N C' ∧ Own wr w.heap.size (.slice V' N C') N zs ∧ (lateL ms ((allEnds a b c ink xs ms os).1.drop k) (os.drop k)).foldl (fun z n => putL n z) zs = sortI (lateL ms (allEnds a b c ink xs ms os).1 os) ∧ Below wE.heap.size wE wr) (fun _ u _ => r - (intOf u).toNat)
    case atStart => exact ⟨0, 0, 0, none, [], Nat.zero_le _, Nat.le_refl _, rfl, rfl, own_nil _ _, by simpa using fold_sortI ((lateL_sub _ _).nodup HN.out), Below.refl _ _⟩
    case round =>
      obtain ⟨k, N, C', V', zs, hk, hNk, rfl, rfl, hown, hR, hbl⟩ := hrel
      by_cases hlt : k < r
      · obtain ⟨ad, i, eA, _, hd, hyi, hci⟩ := RInts.at_ (RInts.below ho2 hbl) hlt; have bi := HI.out i (List.mem_of_getElem? hyi); obtain ⟨ae, z, eV, _, he, hz, hcz⟩ := RInts.at_ (RInts.below hE hbl) hlt; obtain ⟨bb, off, m, eB, _, _, hy, c0, c1, c2⟩ := RPJobs.at_ (RPJobs.below hs2 hbl) (k := i.toNat) (by omega); have hj : jobAt ms i = m := jobAt_get hy
        by_cases hgt : m.due < z
        · have HR := Lib.hid (show (lateL ms ((allEnds a b c ink xs ms os).1.drop (k + 1)) (os.drop (k + 1))).foldl (fun z n => putL n z) (putL i zs) = sortI (lateL ms (allEnds a b c ink xs ms os).1 os) by rw [← hR, hd, he, lateL, hj, if_pos hgt]; rfl)
          have HA := Lib.hid eA; have HB := Lib.hid eB; have HV := Lib.hid eV; clear hd hR hy hyi hj he hz; rw [eA, eB, eV]; clear eA eB eV
          go_wp2_with fail
          go_quiet (fail)
          clear c0 c1 c2 hci hcz
          go_wp2_with fail
          obtain ⟨_, hcp, hcn⟩ := own_cap hown
          refine (l1Put_any (own_rints (row_step hown (below_drewN (Below.refl _ _) _))) (by omega) hcp hcn).mono ?_
          rintro e1 w4 ⟨V4, N4, C4, rfl, hv, hn4⟩
          have hz8 := hbl.size
          have hown4 : Own w4 w.heap.size (.slice V4 N4 C4) N4 (putL i zs) := by
            rcases hv with ⟨rfl, rfl, rfl, hp⟩ | hv
            · rw [hp]
              exact row_step (row_step hown (below_drewN (Below.refl _ _) _)) hn4
            · exact own_lower hv (Nat.le_trans hsz hz8)
          have hN4 : N4 ≤ k + 1 := by
            have q1 := own_len hown4
            have q2 := own_len hown
            have := putL_length i zs
            omega
          replace hbl : Below wE.heap.size wE w4 := hbl.trans ((below_drewN (Below.refl _ _) _ |>.trans hn4).mono hz8)
          clear hown hv hn4
          go_wp2_with fail
          (try rw [← HA.out]); (try rw [← HB.out]); (try rw [← HV.out])
          go_roundw
          case rel => exact ⟨k + 1, N4, C4, V4, _, by omega, by omega, by go_num, rfl, hown4, HR.out, hbl⟩
          case measure => simp [intOf]; omega
        · have HR := Lib.hid (show (lateL ms ((allEnds a b c ink xs ms os).1.drop (k + 1)) (os.drop (k + 1))).foldl (fun z n => putL n z) zs = sortI (lateL ms (allEnds a b c ink xs ms os).1 os) by rw [← hR, hd, he, lateL, hj, if_neg hgt])
          have HA := Lib.hid eA; have HB := Lib.hid eB; have HV := Lib.hid eV; clear hd hR hy hyi hj he hz; rw [eA, eB, eV]; clear eA eB eV
          go_wp2_with fail
          go_quiet (fail)
          clear c0 c1 c2 hci hcz
          go_wp2_with fail
          (try rw [← HA.out]); (try rw [← HB.out]); (try rw [← HV.out])
          go_roundw
          case rel => exact ⟨k + 1, N, C', V', _, by omega, by omega, by go_num, rfl, row_step hown (below_drewN (Below.refl _ _) _), HR.out, below_drewN hbl _⟩
          case measure => simp [intOf]; omega
      · have HR := Lib.hid (show zs = sortI (lateL ms (allEnds a b c ink xs ms os).1 os) by rw [← hR, drop_end HO.out hlt, lateL_end rfl]; rfl)
        clear hR
        go_wp2_with fail
        go_ret2
        exact ⟨V', N, C', by simp [h1], by simp only [lateV, h1]; rw [if_pos trivial, ← HR.out]; exact hown, by omega, hb.trans (hbl.mono hsz)⟩
set_option maxRecDepth 100000 in
set_option maxHeartbeats 1000000 in
theorem lateJobs_impl {a b c ink : Int} {A B D : Option Addr} {n cp q cq r : Nat} {xs os : List Int} {ms : List PJob} {w : World} (hr : RInts w w.heap.size A n xs) (hn0 : n ≤ 1048576) (_ : -9223372036854775808 ≤ ink ∧ ink ≤ 9223372036854775807) (hs : RPJobs w w.heap.size B q ms) (hq0 : q ≤ 1048576) (ho : RInts w w.heap.size D r os) (hr0 : r ≤ 1048576) :
    Calls Try.prog 27 #[.agg #[.int .i64 a, .int .i64 b, .int .i64 c, .slice A n cp], .int .i64 ink, .slice B q cq, .slice D r r] w fun e w' => ∃ V N C, e = .returned (.tuple #[.slice V N C, .bool (askB a b c xs ink ms os)]) ∧ Own w' w.heap.size (.slice V N C) N (lateV a b c ink xs ms os) ∧ N ≤ 1048576 ∧ Below w.heap.size w w' := by
  obtain ⟨i0, hi, hz0, hz1, hz2⟩ := info_parts info3
  have hP := Blk.new' w 34 #[.int .i64 a, .int .i64 b, .int .i64 c, .slice A n cp]; have hb : Below w.heap.size w (w.alloc (.cells #[.int .i64 a, .int .i64 b, .int .i64 c, .slice A n cp] 34)) := (by (repeat (first | exact Below.refl _ _ | exact hb | apply Below.drew | (refine Below.alloc ?_ (by first | (simp; done) | (simp; omega) | (have := hb.size; simp at this ⊢; omega)) _) | (refine Below.setCell ?_ (by simp) _)))); have hr1 := (hr.alloc (Nat.le_refl _) (.cells #[.int .i64 a, .int .i64 b, .int .i64 c, .slice A n cp] 34)).more (B' := (w.alloc (.cells #[.int .i64 a, .int .i64 b, .int .i64 c, .slice A n cp] 34)).heap.size) (by simp <;> omega); have hs1 := (RRow.alloc hs (Nat.le_refl _) (.cells #[.int .i64 a, .int .i64 b, .int .i64 c, .slice A n cp] 34)).more (B' := (w.alloc (.cells #[.int .i64 a, .int .i64 b, .int .i64 c, .slice A n cp] 34)).heap.size) (by simp <;> omega); have ho1 := (ho.alloc (Nat.le_refl _) (.cells #[.int .i64 a, .int .i64 b, .int .i64 c, .slice A n cp] 34)).more (B' := (w.alloc (.cells #[.int .i64 a, .int .i64 b, .int .i64 c, .slice A n cp] 34)).heap.size) (by simp <;> omega)
  cases h1 : askB a b c xs ink ms os
  · (go_enter Try.func27, Try.ntmps27; go_wp2_with fail; refine (isPressOrder_any hr1 hn0 hs1 hq0 ho1 hr0).mono ?_; rintro e1 w1 ⟨rfl, hn⟩; replace hb := hb.trans (hn.mono hb.size); replace hP := hP.below hn hP.lt; replace hr1 := (RInts.below hr1 hn).more hn.size; replace hs1 := (RPJobs.below hs1 hn).more hn.size; replace ho1 := (RInts.below ho1 hn).more hn.size; clear hn)
    go_wp2_with fail
    have hs9 := hb.size
    go_ret2
    exact ⟨some ⟨w1.heap.size, 0, none⟩, 0, 0, by simp [h1], by simp only [lateV, h1]; exact own_lower (own_empty w1 w1.heap.size (Nat.le_refl _)) hs9, by omega, hb.alloc hs9 _⟩
  · obtain ⟨⟨b1, b2, b3, b4, b5⟩, b6, ⟨b7, b8⟩, b9, b10⟩ := askB_true h1; have HX := Lib.hid b5; have HM := Lib.hid b8; have HI := Lib.hid (show ∀ i ∈ os, 0 ≤ i ∧ i < q from fun i hi => by have := b10 i hi; have := hs.len; omega); have hn5 : 5 ≤ n := (by have := hr.len; omega); have hr7 : r ≤ 7 := (by have := ho.len; have := hs.len; omega); clear b4 b5 b7 b8 b9 b10
    (go_enter Try.func27, Try.ntmps27; go_wp2_with fail; refine (isPressOrder_any hr1 hn0 hs1 hq0 ho1 hr0).mono ?_; rintro e1 w1 ⟨rfl, hn⟩; replace hb := hb.trans (hn.mono hb.size); replace hP := hP.below hn hP.lt; replace hr1 := (RInts.below hr1 hn).more hn.size; replace hs1 := (RPJobs.below hs1 hn).more hn.size; replace ho1 := (RInts.below ho1 hn).more hn.size; clear hn)
    have hs9 := hb.size
    have hown0 := own_lower (own_empty w1 w1.heap.size (Nat.le_refl _)) hs9
    have hs0 := hs1
    have hbW0 := Lib.hid hb
    have ho0 := ho1
    have hn0' : Below w1.heap.size w1 (w1.alloc (.cells #[] 3)) := (Below.refl _ _).alloc (Nat.le_refl _) _
    have hn := hn0'
    replace hb := hb.trans (hn.mono hb.size); replace hP := hP.below hn hP.lt; replace hr1 := (RInts.below hr1 hn).more hn.size; replace hs1 := (RPJobs.below hs1 hn).more hn.size; replace ho1 := (RInts.below ho1 hn).more hn.size; clear hn
    have p0 : _ = some (.int .i64 a : Value) := hP.cell 0; have p1 : _ = some (.int .i64 b : Value) := hP.cell 1; have p2 : _ = some (.int .i64 c : Value) := hP.cell 2; have p3 : _ = some (.slice A n cp : Value) := hP.cell 3
    go_wp2_with fail
    refine (run_any hr1 hn0 hs1 hq0 ho1 hr0 b1 b2 b3 hn5 HX.out b6 HM.out HI.out hr7).mono ?_
    rintro e1 wE ⟨V, C, rfl, hoE, hn⟩
    replace hown0 := row_step hown0 hn
    have hszE := hn.size
    have hbl0 : Below w1.heap.size w1 wE := hn0'.trans (hn.mono (by simp))
    replace hb := hb.trans (hn.mono hb.size)
    (try simp only [World.size_alloc] at hoE)
    (try simp only [World.size_alloc] at hszE)
    have HO := Lib.hid ho1.len
    have HN := Lib.hid (askB_nodup h1)
    have HEL := Lib.hid (fun g hg => hoE.lt g hg)
    clear hs1 ho1 hr1 hP hn p0 p1 p2 p3 hn0' hb
    go_wp2_with fail
    go_loopw [10, 33] (fun v u wr => ∃ (k N : Nat) (zs : List Int), k ≤ r ∧ N ≤ k ∧ u = .int .i64 k ∧ v ≠ .slice none 0 0 ∧ Own wr w.heap.size v N zs ∧ zs ++ lateL ms ((allEnds a b c ink xs ms os).1.drop k) (os.drop k) = lateL ms (allEnds a b c ink xs ms os).1 os ∧ Below w1.heap.size w1 wr ∧ Own wr (w1.heap.size + 1) (.slice V r C) r (allEnds a b c ink xs ms os).1 ∧ wE.heap.size ≤ wr.heap.size ∧ (∀ g, v.ownBlock = some g → g = w1.heap.size ∨ wE.heap.size ≤ g)) (fun _ u _ => r - (intOf u).toNat)
    case atStart => exact ⟨0, 0, [], Nat.zero_le _, Nat.le_refl _, rfl, by simp, hown0, rfl, hbl0, hoE, Nat.le_refl _, fun g hg => by simp [Value.ownBlock] at hg; exact .inl hg.symm⟩
    case round =>
      obtain ⟨k, N, zs, hk, hNk, rfl, hne, hown, hR, hbl, hE0, hzE, hbk⟩ := hrel
      have hz8 := hbl.size
      have ho2 := ho0
      have hs2 := hs0
      have hE : RInts wr wr.heap.size V r (allEnds a b c ink xs ms os).1 := own_rints hE0
      by_cases hlt : k < r
      · obtain ⟨ad, i, eA, _, hd, hyi, hci⟩ := RInts.at_ (RInts.below ho2 hbl) hlt; have bi := HI.out i (List.mem_of_getElem? hyi); obtain ⟨ae, z, eV, _, he, hz, hcz⟩ := RInts.at_ hE hlt; obtain ⟨bb, off, m, eB, _, _, hy, c0, c1, c2⟩ := RPJobs.at_ (RPJobs.below hs2 hbl) (k := i.toNat) (by omega); have hj : jobAt ms i = m := jobAt_get hy
        by_cases hgt : m.due < z
        · have HR := Lib.hid (show (zs ++ [i]) ++ lateL ms ((allEnds a b c ink xs ms os).1.drop (k + 1)) (os.drop (k + 1)) = lateL ms (allEnds a b c ink xs ms os).1 os by rw [← hR, hd, he, lateL, hj, if_pos hgt]; simp)
          have HA := Lib.hid eA; have HB := Lib.hid eB; have HV := Lib.hid eV; clear hd hR hy hyi hj he hz; rw [eA, eB, eV]; clear eA eB eV
          go_wp2_with fail
          go_quiet (fail)
          clear c0 c1 c2 hci hcz hE
          go_wp2_with (at_builtin; refine wpList_append_own_at _ rfl _ _ 29 rfl (w.heap.size) 3 i0 (.int .i64 0) 1 8 Try.underlying29 hi hz0 hz1 hz2 rfl (by decide) _ _ _ rfl ((row_step hown (below_drewN (Below.refl _ _) _)).alloc _) ⟨wr.heap.size, 0, none⟩ 1 1 [.int .i64 (i)] rfl rfl (new_one _ _ (by simp) _ _) (by intro u hu; simp at hu; subst hu; rfl) (by unfold maxLen; omega) (by omega) (by simp <;> omega) ?_)
          intro v' w2 hown' hgrow hnil hat
          have hkb := below_grown (World.ownsRow.alloc (own_lower (row_step hown (below_drewN (Below.refl _ _) _)) (Nat.le_refl _)) (.cells #[.int .i64 i] 3)) (by simp; omega) hgrow
          have ho3 := own_app hown'
          have hne' : v' ≠ .slice none 0 0 := by simpa using hnil
          have hE3 : Own w2 (w1.heap.size + 1) (.slice V r C) r (allEnds a b c ink xs ms os).1 := (World.ownsRow.alloc (row_step hE0 (below_drewN (Below.refl _ _) _)) (.cells #[.int .i64 i] 3)).kept hgrow (by
            cases hv : (Value.slice V r C).ownBlock with
            | none => exact .inl rfl
            | some g =>
              right
              intro e
              have q1 := hbk g e.symm
              have q2 := HEL.out g hv
              omega)
          have hbl3 : Below w1.heap.size w1 w2 := ((below_drewN hbl _).alloc hz8 (.cells #[.int .i64 i] 3)).grown hgrow (by simp; omega) (fun g hg => by
            rcases hbk g hg with h | h <;> omega)
          have hz9 : wE.heap.size ≤ w2.heap.size := by
            have := hgrow.size
            simp at this
            omega
          have hbk3 : ∀ g, v'.ownBlock = some g → g = w1.heap.size ∨ wE.heap.size ≤ g := by
            intro g hg
            rcases hat with h | h
            · exact hbk g (h.symm.trans hg)
            · rw [h] at hg
              injection hg with hg
              (try simp at hg)
              omega
          clear hown hown' hgrow hkb hnil hat hE0 hbk hbl
          go_wp2_with fail
          (try rw [← HA.out]); (try rw [← HB.out]); (try rw [← HV.out])
          go_roundw
          case rel => exact ⟨k + 1, _, _, by omega, by omega, by go_num, hne', ho3, HR.out, hbl3, hE3, hz9, hbk3⟩
          case measure => simp [intOf]; omega
        · have HR := Lib.hid (show zs ++ lateL ms ((allEnds a b c ink xs ms os).1.drop (k + 1)) (os.drop (k + 1)) = lateL ms (allEnds a b c ink xs ms os).1 os by rw [← hR, hd, he, lateL, hj, if_neg hgt])
          have HA := Lib.hid eA; have HB := Lib.hid eB; have HV := Lib.hid eV; clear hd hR hy hyi hj he hz; rw [eA, eB, eV]; clear eA eB eV
          go_wp2_with fail
          go_quiet (fail)
          clear c0 c1 c2 hci hcz hE
          go_wp2_with fail
          (try rw [← HA.out]); (try rw [← HB.out]); (try rw [← HV.out])
          go_roundw
          case rel => exact ⟨k + 1, N, _, by omega, by omega, by go_num, hne, row_step hown (below_drewN (Below.refl _ _) _), HR.out, below_drewN hbl _, row_step hE0 (below_drewN (Below.refl _ _) _), hzE, hbk⟩
          case measure => simp [intOf]; omega
      · have HR := Lib.hid (show zs = lateL ms (allEnds a b c ink xs ms os).1 os by rw [← hR, drop_end HO.out hlt, lateL_end rfl]; simp)
        clear hR hE
        have hbW : Below w.heap.size w wr := hbW0.out.trans (hbl.mono hs9)
        rcases hown.2 with ⟨h9, _⟩ | ⟨g, cap, cur, rfl, hB, hg, hnc, hcm, hcs, htk⟩
        · exact absurd h9 hne
        clear hg hnc hcm hcs htk
        go_wp2_with fail
        refine (sorted_any (own_rints hown) (by omega)).mono ?_
        rintro e1 w4 ⟨V4, C4, rfl, ho4, hn4⟩
        have hzW := hbW.size
        replace hbW := hbW.trans (hn4.mono hzW)
        have hfin : Own w4 w.heap.size (.slice V4 N C4) N (sortI zs) := own_lower ho4 hzW
        clear ho4 hn4
        go_wp2_with fail
        go_ret2
        exact ⟨V4, N, C4, by simp [h1], by simp only [lateV, h1]; rw [if_pos trivial, ← HR.out]; exact hfin, by omega, hbW⟩
end Go.Proofs.Ytfgnjokiadlieaa
