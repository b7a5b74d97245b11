/-
  Contracts: the pruned search through all orders (spec).
-/
import Derived.Test.YtfjkmocjlmcjdaaPrD
import Derived.Test.YtfjkmocjlmcjdaaSum
import Derived.Deep.RegionHeld3
import Derived.Deep.AppendLies
namespace Go.Proofs.Ytfjkmocjlmcjdaa
open Go.RowKit
theorem ownCap {w : World} {B N C n : Nat} {V : Option Addr} {zs : List Int} (h : Own w B (.slice V N C) n zs) : N = n ∧ (V = none → C = 0) := by
  rcases h.2 with ⟨e, hn⟩ | ⟨g, cap, cur, e, hB, hg, hnc, hcm, hcs, htk⟩
  · injection e with e1 e2 e3
    subst e1 e2 e3
    exact ⟨hn.symm, fun _ => rfl⟩
  · injection e with e1 e2 e3
    subst e1 e2 e3
    exact ⟨rfl, fun h => by cases h⟩
theorem new_one_kept {w wi : World} {v : Value} {t : TypeId} {B : Nat} (hn : Below B (w.alloc (.cells #[v] t)) wi) (hB : w.heap.size + 1 ≤ B) : ∀ (j : Nat) (u : Value), [v][j]? = some u → wi.cell? ((⟨w.heap.size, 0, none⟩ : Addr).add j) = some u := by
  intro j u hj
  rw [hn.cell (by rw [block_of_add]; exact hB)]
  exact new_one w _ rfl v t j u hj
theorem new_one_keptD {w wi : World} {v : Value} {t : TypeId} {B : Nat} (hn : Below B (w.alloc (.cells #[v] t)).drew wi) (hB : w.heap.size + 1 ≤ B) : ∀ (j : Nat) (u : Value), [v][j]? = some u → wi.cell? ((⟨w.heap.size, 0, none⟩ : Addr).add j) = some u := by
  intro j u hj
  rw [hn.cell (by rw [block_of_add]; exact hB)]
  exact new_one w _ rfl v t j u hj
theorem own_base {w : World} {B B' n : Nat} {v : Value} {xs : List Int} (h : Own w B v n xs) (hB : B' ≤ B) : Own w B' v n xs := own_lower h hB
/-- What a search has found, as three values tell it. -/
def FndIs : Fnd → List Int → Int → Bool → Prop
  | none, _, _, fd => fd = false
  | some (b, m), bs, l, fd => fd = true ∧ bs = b ∧ l = m
def BestV (w : World) (B : Nat) (s : Fnd) (V : Option Addr) (N C : Nat) (l : Int) (fd : Bool) : Prop := ∃ bs, Own w B (.slice V N C) N bs ∧ N ≤ 7 ∧ FndIs s bs l fd
theorem BestV.step {w w' : World} {B : Nat} {s : Fnd} {V : Option Addr} {N C : Nat} {l : Int} {fd : Bool} (h : BestV w B s V N C l fd) (hb : Below w.heap.size w w') : BestV w' B s V N C l fd := by
  obtain ⟨bs, ho, hn, hf⟩ := h
  exact ⟨bs, row_step ho hb, hn, hf⟩
theorem roundF_step {next : List Int → Fnd → Fnd} {o : List Int} {q k : Nat} {s : Fnd} (h : k < q) : roundF next o (q - k) k s = roundF next o (q - (k + 1)) ((k + 1 : Nat) : Int) (if (k : Int) ∈ o then s else next (o ++ [(k : Int)]) s) := by
  obtain ⟨d, hd⟩ : ∃ d, q - k = d + 1 := ⟨q - k - 1, by omega⟩
  have e : q - (k + 1) = d := by omega
  rw [hd, roundF, e]
  rfl
theorem roundF_end {next : List Int → Fnd → Fnd} {o : List Int} {q k : Nat} {s : Fnd} (h : ¬ k < q) (j : Int) : roundF next o (q - k) j s = s := by
  have e : q - k = 0 := by omega
  rw [e, roundF]
theorem bestF_go {cost : List Int → Int} {n f : Nat} {o bs : List Int} {s : Fnd} {l : Int} {fd : Bool} (hs : FndIs s bs l fd) (hp : fd = true → ¬ l ≤ cost o) (hl : o.length ≠ n) : bestF cost n (f + 1) o s = roundF (bestF cost n f) o n 0 s := by
  cases s with
  | none => rw [bestF, if_neg hl]
  | some p =>
    obtain ⟨b, m⟩ := p
    obtain ⟨h1, h2, h3⟩ := hs
    subst h3
    rw [bestF, if_neg (hp h1), if_neg hl]
theorem bestF_full {cost : List Int → Int} {n f : Nat} {o bs : List Int} {s : Fnd} {l : Int} {fd : Bool} (hs : FndIs s bs l fd) (hp : fd = true → ¬ l ≤ cost o) (hl : o.length = n) : bestF cost n (f + 1) o s = some (o, cost o) := by
  cases s with
  | none => rw [bestF, if_pos hl]
  | some p =>
    obtain ⟨b, m⟩ := p
    obtain ⟨h1, h2, h3⟩ := hs
    subst h3
    rw [bestF, if_neg (hp h1), if_pos hl]
theorem bestF_cut {cost : List Int → Int} {n f : Nat} {o bs : List Int} {s : Fnd} {l : Int} (hs : FndIs s bs l true) (hp : l ≤ cost o) : bestF cost n (f + 1) o s = s := by
  cases s with
  | none => cases hs
  | some p =>
    obtain ⟨b, m⟩ := p
    obtain ⟨h1, h2, h3⟩ := hs
    subst h3
    rw [bestF, if_pos hp]
set_option maxRecDepth 100000 in
set_option maxHeartbeats 1000000 in
theorem prBest_any {a b c ink : Int} {A B T : Option Addr} {n cp q cq ct L : Nat} {xs : List Int} {ms : List PJob} {dl : Bool} (hn0 : n ≤ 1048576) (hq7 : q ≤ 7) (ha : 1 ≤ a ∧ a ≤ 5000) (hb1 : 0 ≤ b ∧ b ≤ 600) (h0 : 0 ≤ c ∧ c ≤ 500) (hn5 : 5 ≤ n) (hx : ∀ x ∈ xs, 0 ≤ x ∧ x ≤ 300) (hi0 : 0 ≤ ink ∧ ink ≤ 4) (hm : (∀ m ∈ ms, (0 ≤ m.ink ∧ m.ink ≤ 4) ∧ (1 ≤ m.sheets ∧ m.sheets ≤ 20000) ∧ (0 ≤ m.due ∧ m.due ≤ 100000))) : ∀ (f : Nat) {Vo Vb : Option Addr} {r Co N C : Nat} {os : List Int} {l : Int} {fd : Bool} {s : Fnd} {w : World},
    RInts w L A n xs → RPJobs w L B q ms → RInts w L T q (timesL a b c ms) → Own w L (.slice Vo r Co) r os → BestV w L s Vb N C l fd → L ≤ w.heap.size → r ≤ q → r + f = q + 1 → (∀ i ∈ os, 0 ≤ i ∧ i < q) →
    Calls Try.prog 22 #[.agg #[.int .i64 a, .int .i64 b, .int .i64 c, .slice A n cp], .int .i64 ink, .slice B q cq, .slice T q ct, .slice Vo r Co, .slice Vb N C, .int .i64 l, .bool fd, .bool dl] w fun e w' => ∃ V N C l fd, e = .returned (.tuple #[.slice V N C, .int .i64 l, .bool fd]) ∧ BestV w' L (bestF (costF a b c ink xs ms dl) q f os s) V N C l fd ∧ Below w.heap.size w w' := by
  have HX := Lib.hid hx
  have HM := Lib.hid hm
  obtain ⟨i0, hi, hz0, hz1, hz2⟩ := info_parts info3
  clear hx hm
  intro f
  induction f with
  | zero => intro Vo Vb r Co N C os l fd s w _ _ _ _ _ _ _ _; omega
  | succ f ih =>
    intro Vo Vb r Co N C os l fd s w hr hs ht ho hbst hL hrq hrf hios
    have HI := Lib.hid hios
    have HO := Lib.hid (own_len ho)
    have hP := Blk.new' w 30 #[.int .i64 a, .int .i64 b, .int .i64 c, .slice A n cp]
    have hb : Below w.heap.size w (w.alloc (.cells #[.int .i64 a, .int .i64 b, .int .i64 c, .slice A n cp] 30)) := (by (repeat (first | exact Below.refl _ _ | exact hb | apply Below.drew | (refine Below.alloc ?_ (by first | (simp; done) | (simp; omega) | (have := hb.size; simp at this ⊢; omega)) _) | (refine Below.setCell ?_ (by simp) _))))
    have hr1 := ((hr.more hL).alloc (Nat.le_refl _) (.cells #[.int .i64 a, .int .i64 b, .int .i64 c, .slice A n cp] 30)).more (B' := (w.alloc (.cells #[.int .i64 a, .int .i64 b, .int .i64 c, .slice A n cp] 30)).heap.size) (by simp <;> omega)
    have hs1 := (RRow.alloc (RPJobs.more hs hL) (Nat.le_refl _) (.cells #[.int .i64 a, .int .i64 b, .int .i64 c, .slice A n cp] 30)).more (B' := (w.alloc (.cells #[.int .i64 a, .int .i64 b, .int .i64 c, .slice A n cp] 30)).heap.size) (by simp <;> omega)
    have ht1 := ((ht.more hL).alloc (Nat.le_refl _) (.cells #[.int .i64 a, .int .i64 b, .int .i64 c, .slice A n cp] 30)).more (B' := (w.alloc (.cells #[.int .i64 a, .int .i64 b, .int .i64 c, .slice A n cp] 30)).heap.size) (by simp <;> omega)
    have ho1 := row_alloc ho (.cells #[.int .i64 a, .int .i64 b, .int .i64 c, .slice A n cp] 30)
    have hbst1 := hbst.step (Below.alloc (Below.refl _ _) (Nat.le_refl _) (.cells #[.int .i64 a, .int .i64 b, .int .i64 c, .slice A n cp] 30))
    obtain ⟨bs0, hbo0, hbn0, hbf0⟩ := hbst
    have HF := Lib.hid hbf0
    have HBO := Lib.hid hbst1
    clear hios hbf0 hbo0 hbst1
    have hgo : (fd = true → ¬ l ≤ costF a b c ink xs ms dl os) → Calls Try.prog 22 #[.agg #[.int .i64 a, .int .i64 b, .int .i64 c, .slice A n cp], .int .i64 ink, .slice B q cq, .slice T q ct, .slice Vo r Co, .slice Vb N C, .int .i64 l, .bool fd, .bool dl] w fun e w' => ∃ V N C l fd, e = .returned (.tuple #[.slice V N C, .int .i64 l, .bool fd]) ∧ BestV w' L (bestF (costF a b c ink xs ms dl) q (f + 1) os s) V N C l fd ∧ Below w.heap.size w w' := by
      intro hp
      have HPF := Lib.hid hp
      by_cases hrq2 : r = q
      · have HR := Lib.hid (bestF_full (f := f) (n := q) HF.out hp (by rw [HO.out]; exact hrq2))
        have e1 : ((r : Int) == (q : Int)) = true := by simp [hrq2]
        have HRQ := Lib.hid hrq2
        clear hp hrq2
        cases fd
        · (go_enter Try.func22, Try.ntmps22; have p0 : _ = some (.int .i64 a : Value) := hP.cell 0; have p1 : _ = some (.int .i64 b : Value) := hP.cell 1; have p2 : _ = some (.int .i64 c : Value) := hP.cell 2; have p3 : _ = some (.slice A n cp : Value) := hP.cell 3; go_wp2_with fail; refine (prCost_any hr1 hn0 hs1 (by omega) (own_rints ho1) (by omega) ht1 ha hb1 h0 hn5 HX.out hi0 HM.out HI.out (by omega)).mono ?_; rintro e1 w1 ⟨rfl, hn⟩; clear p0 p1 p2 p3; replace hb := hb.trans (hn.mono hb.size); replace hP := hP.below hn hP.lt; replace ho1 := row_step ho1 hn; (have hst1 := HBO.out.step hn); (have HST := Lib.hid hst1); clear hn hst1 hr1 hs1 ht1)
          go_wp2_with fail
          go_ret3
          refine ⟨_, _, _, _, _, rfl, ?_, hb⟩
          rw [HR.out]
          exact ⟨_, ho1, by omega, rfl, rfl, rfl⟩
        · have t1 : decide (l ≤ costF a b c ink xs ms dl os) = false := by simpa using HPF.out rfl
          have t2 : ¬ l ≤ costF a b c ink xs ms dl os := HPF.out rfl
          (go_enter Try.func22, Try.ntmps22; have p0 : _ = some (.int .i64 a : Value) := hP.cell 0; have p1 : _ = some (.int .i64 b : Value) := hP.cell 1; have p2 : _ = some (.int .i64 c : Value) := hP.cell 2; have p3 : _ = some (.slice A n cp : Value) := hP.cell 3; go_wp2_with fail; refine (prCost_any hr1 hn0 hs1 (by omega) (own_rints ho1) (by omega) ht1 ha hb1 h0 hn5 HX.out hi0 HM.out HI.out (by omega)).mono ?_; rintro e1 w1 ⟨rfl, hn⟩; clear p0 p1 p2 p3; replace hb := hb.trans (hn.mono hb.size); replace hP := hP.below hn hP.lt; replace ho1 := row_step ho1 hn; (have hst1 := HBO.out.step hn); (have HST := Lib.hid hst1); clear hn hst1 hr1 hs1 ht1)
          go_wp2_with fail
          go_ret3
          refine ⟨_, _, _, _, _, rfl, ?_, hb⟩
          rw [HR.out]
          exact ⟨_, ho1, by omega, rfl, rfl, rfl⟩
      · have HR := Lib.hid (bestF_go (f := f) (n := q) HF.out hp (by rw [HO.out]; exact hrq2))
        have e1 : ((r : Int) == (q : Int)) = false := by
          rw [beq_eq_false_iff_ne]; omega
        have hrlt : r < q := by omega
        clear hp
        have HQ := Lib.hid hrq2
        clear hrq2
        cases fd
        · (go_enter Try.func22, Try.ntmps22; have p0 : _ = some (.int .i64 a : Value) := hP.cell 0; have p1 : _ = some (.int .i64 b : Value) := hP.cell 1; have p2 : _ = some (.int .i64 c : Value) := hP.cell 2; have p3 : _ = some (.slice A n cp : Value) := hP.cell 3; go_wp2_with fail; refine (prCost_any hr1 hn0 hs1 (by omega) (own_rints ho1) (by omega) ht1 ha hb1 h0 hn5 HX.out hi0 HM.out HI.out (by omega)).mono ?_; rintro e1 w1 ⟨rfl, hn⟩; clear p0 p1 p2 p3; replace hb := hb.trans (hn.mono hb.size); replace hP := hP.below hn hP.lt; replace ho1 := row_step ho1 hn; (have hst1 := HBO.out.step hn); (have HST := Lib.hid hst1); clear hn hst1 hr1 hs1 ht1)
          go_wp2_with fail
          go_loopw [5, 6, 7, 47] (fun v5 v6 v7 v47 wr => ∃ (k : Nat) (V : Option Addr) (N C : Nat) (l : Int) (fd : Bool) (s1 : Fnd), k ≤ q ∧ v47 = .int .i64 k ∧ v5 = .slice V N C ∧ v6 = .int .i64 l ∧ v7 = .bool fd ∧ BestV wr L s1 V N C l fd ∧ roundF (bestF (costF a b c ink xs ms dl) q f) os (q - k) k s1 = bestF (costF a b c ink xs ms dl) q (f + 1) os s ∧ Own wr L (.slice Vo r Co) r os ∧ Blk wr w.heap.size 30 [.int .i64 a, .int .i64 b, .int .i64 c, .slice A n cp] ∧ Below w.heap.size w wr) (fun _ _ _ u _ => q - (intOf u).toNat)
          case atStart => exact ⟨0, _, _, _, _, _, s, Nat.zero_le _, rfl, rfl, rfl, rfl, HST.out, by rw [HR.out]; rfl, ho1, hP, hb⟩
          case round =>
            clear hb hP ho1
            obtain ⟨k, V, N, C, l1, fd1, s1, hk, rfl, rfl, rfl, rfl, hst, hrf1, ho1, hP, hb⟩ := hrel
            by_cases hlt : k < q
            · have HRF := Lib.hid ((roundF_step hlt).symm.trans hrf1)
              have HSB := Lib.hid hst
              clear hrf1 hst
              by_cases hmem : (k : Int) ∈ os
              · have HRF2 := Lib.hid (HRF.out)
                have HME := Lib.hid hmem
                have d1 : decide ((k : Int) ∈ os) = true := by simpa using hmem
                clear hmem
                go_wp2_with fail
                refine (hasS_any (own_rints ho1) (by omega)).mono ?_
                rintro e1 w2 ⟨rfl, rfl⟩
                go_wp2_with fail
                go_roundw
                case rel =>
                  have h9 := HRF2.out
                  rw [if_pos HME.out] at h9
                  exact ⟨k + 1, V, N, C, l1, fd1, s1, by omega, by go_num, rfl, rfl, rfl, HSB.out, h9, ho1, hP, hb⟩
                case measure => simp [intOf]; omega
              · have HME := Lib.hid hmem
                have d1 : decide ((k : Int) ∈ os) = false := by simpa using hmem
                clear hmem
                go_wp2_with fail
                refine (hasS_any (own_rints ho1) (by omega)).mono ?_
                rintro e1 w2 ⟨rfl, rfl⟩
                have HC := Lib.hid (show ∀ wx, Below wr.heap.size wr wx → (wx.cell? ⟨w.heap.size, 0, none⟩ = some (.int .i64 a) ∧ wx.cell? ⟨w.heap.size, 1, none⟩ = some (.int .i64 b) ∧ wx.cell? ⟨w.heap.size, 2, none⟩ = some (.int .i64 c) ∧ wx.cell? ⟨w.heap.size, 3, none⟩ = some (.slice A n cp)) from fun wx h => ⟨(hP.below h hP.lt).cell 0, (hP.below h hP.lt).cell 1, (hP.below h hP.lt).cell 2, (hP.below h hP.lt).cell 3⟩)
                have hcap := (ownCap ho1).2
                have HCAP := Lib.hid hcap
                have hLr : L ≤ wr.heap.size := Nat.le_trans hL hb.size
                have hbL := hb.mono hL
                clear hcap
                go_wp2_with fail
                go_region_held3 (fun wx => Below wr.heap.size wr wx ∧ (wx.cell? ⟨w.heap.size, 0, none⟩ = some (.int .i64 a) ∧ wx.cell? ⟨w.heap.size, 1, none⟩ = some (.int .i64 b) ∧ wx.cell? ⟨w.heap.size, 2, none⟩ = some (.int .i64 c) ∧ wx.cell? ⟨w.heap.size, 3, none⟩ = some (.slice A n cp))) ((first | exact ⟨(Below.refl _ _).drew, HC.out _ (Below.refl _ _).drew⟩ | (have hh : Below _ _ _ ∧ _ := (by assumption); have hh0 := hh.1.trans (hn.mono hh.1.size); exact ⟨hh0, HC.out _ hh0⟩) | (have hh : Below _ _ _ ∧ _ := (by assumption); have hh0 := hh.1.trans hkb; exact ⟨hh0, HC.out _ hh0⟩) | (have hh : Below _ _ _ ∧ _ := (by assumption); exact ⟨hh.1.alloc hh.1.size _, HC.out _ (hh.1.alloc hh.1.size _)⟩) | assumption | go_keep)) (first
                  | (go_at_call 38; (have hh : Below _ _ _ ∧ _ := (by assumption)); refine (l1Own_any (own_rints (row_step ho1 hh.1)) (by omega) HCAP.out).mono ?_; rintro e1 wi ⟨VO, CO, rfl, hoO, hn⟩; have hoL := own_lower hoO hh.1.size)
                  | (go_at_call 22; (have hh : Below _ _ _ ∧ _ := (by assumption)); refine (ih (((hr.below hbL).below (hh.1.mono hLr))) ((RPJobs.below (RPJobs.below hs hbL) (hh.1.mono hLr))) ((RInts.below (RInts.below ht hbL) (hh.1.mono hLr))) (own_lower HN.out hLr) (HSB.out.step hh.1) (Nat.le_trans hLr hh.1.size) (by omega) (by omega) (by intro i hi; rcases List.mem_append.1 hi with h | h; exact HI.out i h; simp at h; omega)).mono ?_; rintro e1 wz ⟨V9, N9, C9, l9, fd9, rfl, hst9, hn⟩)
                  | (refine step_append_lies _ rfl (.tmp 60) (.tmp 62) 22 rfl wr.heap.size 3 i0 (.int .i64 0) 1 8 Try.underlying22 hi hz0 hz1 hz2 rfl (by decide) _ r _ rfl (by first | exact hoL | exact row_alloc hoL _) _ 1 1 [.int .i64 k] rfl rfl (by first | exact new_one _ _ rfl _ _ | exact new_one_keptD hn (Nat.le_of_eq (World.size_alloc _ _).symm)) (by intro u hu; simp at hu; subst hu; rfl) (by omega) (by unfold maxLen; omega) (by omega) (by have hh : Below _ _ _ ∧ _ := (by assumption); exact hh.1.size) _ rfl ?_; intro g cap w9 hown9 hgr9 _ _; (have hh : Below _ _ _ ∧ _ := (by assumption)); have hkb : Below wr.heap.size _ w9 := grown_below hgr9 hh.1.size (fun k hk => (hoL.lt k hk).1); have HN := Lib.hid (own_app hown9); clear hown9 hgr9))
                all_goals
                  have hn0 : Below wr.heap.size wr _ ∧ _ := (by assumption)
                  have hne := hn0.1
                  go_wp2_with fail
                  go_roundw
                  case rel =>
                    have h9 := HRF.out
                    rw [if_neg HME.out] at h9
                    exact ⟨k + 1, V9, N9, C9, l9, fd9, _, by omega, by go_num, rfl, rfl, rfl, hst9, h9, row_step ho1 hne, hP.below hne hP.lt, hb.trans (hne.mono hb.size)⟩
                  case measure => simp [intOf]; omega
            · have HRF := Lib.hid ((roundF_end hlt _).symm.trans hrf1)
              have HSB := Lib.hid hst
              clear hrf1 hst
              go_wp2_with fail
              go_ret3
              refine ⟨_, _, _, _, _, rfl, ?_, hb⟩
              rw [← HRF.out]
              exact HSB.out
        · have t1 : decide (l ≤ costF a b c ink xs ms dl os) = false := by simpa using HPF.out rfl
          have t2 : ¬ l ≤ costF a b c ink xs ms dl os := HPF.out rfl
          (go_enter Try.func22, Try.ntmps22; have p0 : _ = some (.int .i64 a : Value) := hP.cell 0; have p1 : _ = some (.int .i64 b : Value) := hP.cell 1; have p2 : _ = some (.int .i64 c : Value) := hP.cell 2; have p3 : _ = some (.slice A n cp : Value) := hP.cell 3; go_wp2_with fail; refine (prCost_any hr1 hn0 hs1 (by omega) (own_rints ho1) (by omega) ht1 ha hb1 h0 hn5 HX.out hi0 HM.out HI.out (by omega)).mono ?_; rintro e1 w1 ⟨rfl, hn⟩; clear p0 p1 p2 p3; replace hb := hb.trans (hn.mono hb.size); replace hP := hP.below hn hP.lt; replace ho1 := row_step ho1 hn; (have hst1 := HBO.out.step hn); (have HST := Lib.hid hst1); clear hn hst1 hr1 hs1 ht1)
          go_wp2_with fail
          go_loopw [5, 6, 7, 47] (fun v5 v6 v7 v47 wr => ∃ (k : Nat) (V : Option Addr) (N C : Nat) (l : Int) (fd : Bool) (s1 : Fnd), k ≤ q ∧ v47 = .int .i64 k ∧ v5 = .slice V N C ∧ v6 = .int .i64 l ∧ v7 = .bool fd ∧ BestV wr L s1 V N C l fd ∧ roundF (bestF (costF a b c ink xs ms dl) q f) os (q - k) k s1 = bestF (costF a b c ink xs ms dl) q (f + 1) os s ∧ Own wr L (.slice Vo r Co) r os ∧ Blk wr w.heap.size 30 [.int .i64 a, .int .i64 b, .int .i64 c, .slice A n cp] ∧ Below w.heap.size w wr) (fun _ _ _ u _ => q - (intOf u).toNat)
          case atStart => exact ⟨0, _, _, _, _, _, s, Nat.zero_le _, rfl, rfl, rfl, rfl, HST.out, by rw [HR.out]; rfl, ho1, hP, hb⟩
          case round =>
            clear hb hP ho1
            obtain ⟨k, V, N, C, l1, fd1, s1, hk, rfl, rfl, rfl, rfl, hst, hrf1, ho1, hP, hb⟩ := hrel
            by_cases hlt : k < q
            · have HRF := Lib.hid ((roundF_step hlt).symm.trans hrf1)
              have HSB := Lib.hid hst
              clear hrf1 hst
              by_cases hmem : (k : Int) ∈ os
              · have HRF2 := Lib.hid (HRF.out)
                have HME := Lib.hid hmem
                have d1 : decide ((k : Int) ∈ os) = true := by simpa using hmem
                clear hmem
                go_wp2_with fail
                refine (hasS_any (own_rints ho1) (by omega)).mono ?_
                rintro e1 w2 ⟨rfl, rfl⟩
                go_wp2_with fail
                go_roundw
                case rel =>
                  have h9 := HRF2.out
                  rw [if_pos HME.out] at h9
                  exact ⟨k + 1, V, N, C, l1, fd1, s1, by omega, by go_num, rfl, rfl, rfl, HSB.out, h9, ho1, hP, hb⟩
                case measure => simp [intOf]; omega
              · have HME := Lib.hid hmem
                have d1 : decide ((k : Int) ∈ os) = false := by simpa using hmem
                clear hmem
                go_wp2_with fail
                refine (hasS_any (own_rints ho1) (by omega)).mono ?_
                rintro e1 w2 ⟨rfl, rfl⟩
                have HC := Lib.hid (show ∀ wx, Below wr.heap.size wr wx → (wx.cell? ⟨w.heap.size, 0, none⟩ = some (.int .i64 a) ∧ wx.cell? ⟨w.heap.size, 1, none⟩ = some (.int .i64 b) ∧ wx.cell? ⟨w.heap.size, 2, none⟩ = some (.int .i64 c) ∧ wx.cell? ⟨w.heap.size, 3, none⟩ = some (.slice A n cp)) from fun wx h => ⟨(hP.below h hP.lt).cell 0, (hP.below h hP.lt).cell 1, (hP.below h hP.lt).cell 2, (hP.below h hP.lt).cell 3⟩)
                have hcap := (ownCap ho1).2
                have HCAP := Lib.hid hcap
                have hLr : L ≤ wr.heap.size := Nat.le_trans hL hb.size
                have hbL := hb.mono hL
                clear hcap
                go_wp2_with fail
                go_region_held3 (fun wx => Below wr.heap.size wr wx ∧ (wx.cell? ⟨w.heap.size, 0, none⟩ = some (.int .i64 a) ∧ wx.cell? ⟨w.heap.size, 1, none⟩ = some (.int .i64 b) ∧ wx.cell? ⟨w.heap.size, 2, none⟩ = some (.int .i64 c) ∧ wx.cell? ⟨w.heap.size, 3, none⟩ = some (.slice A n cp))) ((first | exact ⟨(Below.refl _ _).drew, HC.out _ (Below.refl _ _).drew⟩ | (have hh : Below _ _ _ ∧ _ := (by assumption); have hh0 := hh.1.trans (hn.mono hh.1.size); exact ⟨hh0, HC.out _ hh0⟩) | (have hh : Below _ _ _ ∧ _ := (by assumption); have hh0 := hh.1.trans hkb; exact ⟨hh0, HC.out _ hh0⟩) | (have hh : Below _ _ _ ∧ _ := (by assumption); exact ⟨hh.1.alloc hh.1.size _, HC.out _ (hh.1.alloc hh.1.size _)⟩) | assumption | go_keep)) (first
                  | (go_at_call 38; (have hh : Below _ _ _ ∧ _ := (by assumption)); refine (l1Own_any (own_rints (row_step ho1 hh.1)) (by omega) HCAP.out).mono ?_; rintro e1 wi ⟨VO, CO, rfl, hoO, hn⟩; have hoL := own_lower hoO hh.1.size)
                  | (go_at_call 22; (have hh : Below _ _ _ ∧ _ := (by assumption)); refine (ih (((hr.below hbL).below (hh.1.mono hLr))) ((RPJobs.below (RPJobs.below hs hbL) (hh.1.mono hLr))) ((RInts.below (RInts.below ht hbL) (hh.1.mono hLr))) (own_lower HN.out hLr) (HSB.out.step hh.1) (Nat.le_trans hLr hh.1.size) (by omega) (by omega) (by intro i hi; rcases List.mem_append.1 hi with h | h; exact HI.out i h; simp at h; omega)).mono ?_; rintro e1 wz ⟨V9, N9, C9, l9, fd9, rfl, hst9, hn⟩)
                  | (refine step_append_lies _ rfl (.tmp 60) (.tmp 62) 22 rfl wr.heap.size 3 i0 (.int .i64 0) 1 8 Try.underlying22 hi hz0 hz1 hz2 rfl (by decide) _ r _ rfl (by first | exact hoL | exact row_alloc hoL _) _ 1 1 [.int .i64 k] rfl rfl (by first | exact new_one _ _ rfl _ _ | exact new_one_keptD hn (Nat.le_of_eq (World.size_alloc _ _).symm)) (by intro u hu; simp at hu; subst hu; rfl) (by omega) (by unfold maxLen; omega) (by omega) (by have hh : Below _ _ _ ∧ _ := (by assumption); exact hh.1.size) _ rfl ?_; intro g cap w9 hown9 hgr9 _ _; (have hh : Below _ _ _ ∧ _ := (by assumption)); have hkb : Below wr.heap.size _ w9 := grown_below hgr9 hh.1.size (fun k hk => (hoL.lt k hk).1); have HN := Lib.hid (own_app hown9); clear hown9 hgr9))
                all_goals
                  have hn0 : Below wr.heap.size wr _ ∧ _ := (by assumption)
                  have hne := hn0.1
                  go_wp2_with fail
                  go_roundw
                  case rel =>
                    have h9 := HRF.out
                    rw [if_neg HME.out] at h9
                    exact ⟨k + 1, V9, N9, C9, l9, fd9, _, by omega, by go_num, rfl, rfl, rfl, hst9, h9, row_step ho1 hne, hP.below hne hP.lt, hb.trans (hne.mono hb.size)⟩
                  case measure => simp [intOf]; omega
            · have HRF := Lib.hid ((roundF_end hlt _).symm.trans hrf1)
              have HSB := Lib.hid hst
              clear hrf1 hst
              go_wp2_with fail
              go_ret3
              refine ⟨_, _, _, _, _, rfl, ?_, hb⟩
              rw [← HRF.out]
              exact HSB.out
    cases fd
    · exact hgo (by simp)
    · by_cases hm : l ≤ costF a b c ink xs ms dl os
      · have HR := Lib.hid (bestF_cut (f := f) (n := q) HF.out hm)
        (go_enter Try.func22, Try.ntmps22; have p0 : _ = some (.int .i64 a : Value) := hP.cell 0; have p1 : _ = some (.int .i64 b : Value) := hP.cell 1; have p2 : _ = some (.int .i64 c : Value) := hP.cell 2; have p3 : _ = some (.slice A n cp : Value) := hP.cell 3; go_wp2_with fail; refine (prCost_any hr1 hn0 hs1 (by omega) (own_rints ho1) (by omega) ht1 ha hb1 h0 hn5 HX.out hi0 HM.out HI.out (by omega)).mono ?_; rintro e1 w1 ⟨rfl, hn⟩; clear p0 p1 p2 p3; replace hb := hb.trans (hn.mono hb.size); replace hP := hP.below hn hP.lt; replace ho1 := row_step ho1 hn; (have hst1 := HBO.out.step hn); (have HST := Lib.hid hst1); clear hn hst1 hr1 hs1 ht1)
        go_wp2_with fail
        go_ret3
        refine ⟨_, _, _, _, _, rfl, ?_, hb⟩
        rw [HR.out]
        exact HST.out
      · exact hgo (fun _ => hm)
end Go.Proofs.Ytfjkmocjlmcjdaa
