/-
  Contracts: the minutes of all jobs, and how an order of jobs ends.
-/
import Derived.Test.YtfjkmocjlmcjdaaPr7
namespace Go.Proofs.Ytfjkmocjlmcjdaa
open Go.RowKit
def timesL (a b c : Int) (ms : List PJob) : List Int := ms.map fun m => mins a b c m.sheets
theorem timesL_step {a b c : Int} {ms r : List PJob} {m : PJob} {k : Nat} {zs : List Int} (hd : ms.drop k = m :: r) (h : zs ++ timesL a b c (ms.drop k) = timesL a b c ms) : (zs ++ [mins a b c m.sheets]) ++ timesL a b c r = timesL a b c ms := by
  rw [← h, hd, timesL, timesL, List.map_cons, List.append_assoc]; rfl
theorem prTimes_any {a b c : Int} {A B : Option Addr} {n cp q cq : Nat} {ms : List PJob} {w : World} (hs : RPJobs w w.heap.size B q ms) (hq : q ≤ 1048576) (ha : 1 ≤ a ∧ a ≤ 5000) (hb1 : 0 ≤ b ∧ b ≤ 600) (h0 : 0 ≤ c ∧ c ≤ 500) (hm : (∀ m ∈ ms, (0 ≤ m.ink ∧ m.ink ≤ 4) ∧ (1 ≤ m.sheets ∧ m.sheets ≤ 20000) ∧ (0 ≤ m.due ∧ m.due ≤ 100000))) :
    Calls Try.prog 23 #[.agg #[.int .i64 a, .int .i64 b, .int .i64 c, .slice A n cp], .slice B q cq] w fun e w' => ∃ V C, e = .returned (.slice V q C) ∧ Own w' w.heap.size (.slice V q C) q (timesL a b c ms) ∧ Below w.heap.size w w' := by
  obtain ⟨i0, hi, hz0, hz1, hz2⟩ := info_parts info3
  have HS := Lib.hid hs.len
  have HX := Lib.hid hm
  have hP0 := Blk.new' w 30 #[.int .i64 a, .int .i64 b, .int .i64 c, .slice A n cp]
  clear hm
  go_enter Try.func23, Try.ntmps23
  go_wp2_with fail
  go_loopw [5, 10] (fun v u wr => ∃ (k : Nat) (zs : List Int), k ≤ q ∧ u = .int .i64 k ∧ Own wr (w.heap.size + 1) v k zs ∧ zs ++ timesL a b c (ms.drop k) = timesL a b c ms ∧ Blk wr w.heap.size 30 [.int .i64 a, .int .i64 b, .int .i64 c, .slice A n cp] ∧ Below w.heap.size w wr ∧ w.heap.size + 1 ≤ wr.heap.size) (fun _ u _ => q - (intOf u).toNat)
  case atStart => exact ⟨0, [], Nat.zero_le _, rfl, own_nil _ _, rfl, hP0, (by (repeat (first | exact Below.refl _ _ | exact hb | apply Below.drew | (refine Below.alloc ?_ (by first | (simp; done) | (simp; omega) | (have := hb.size; simp at this ⊢; omega)) _) | (refine Below.setCell ?_ (by simp) _)))), by simp⟩
  case round =>
    clear hP0
    obtain ⟨k, zs, hk, rfl, hown, hR, hP, hb, hsz⟩ := hrel
    by_cases hlt : k < q
    · obtain ⟨bb, off, m, rfl, _, hd, hy, c0, c1, c2⟩ := RPJobs.at_ (hs.below hb) hlt
      have hx := HX.out m (List.mem_of_getElem? hy)
      have HR := Lib.hid (timesL_step hd hR)
      have hPa := hP.alloc (.cells #[.int .i64 m.ink, .int .i64 m.sheets, .int .i64 m.due] 46)
      have hba := hb.alloc hb.size (.cells #[.int .i64 m.ink, .int .i64 m.sheets, .int .i64 m.due] 46)
      have hoa := row_alloc hown (.cells #[.int .i64 m.ink, .int .i64 m.sheets, .int .i64 m.due] 46)
      have p0 : _ = some (.int .i64 a : Value) := hPa.cell 0
      have p1 : _ = some (.int .i64 b : Value) := hPa.cell 1
      have p2 : _ = some (.int .i64 c : Value) := hPa.cell 2
      have p3 : _ = some (.slice A n cp : Value) := hPa.cell 3
      clear hd hR hy hown hb hP
      go_wp2_with fail
      refine (prMinutes_any ha hb1 h0 hx.2.1).mono ?_
      rintro e1 w1 ⟨rfl, hn⟩
      replace hPa := hPa.below hn hPa.lt
      replace hba := hba.trans (hn.mono hba.size)
      replace hoa := row_step hoa hn
      have hz9 := hn.size
      simp only [World.size_alloc] at hz9
      clear c0 c1 c2 p0 p1 p2 p3 hn
      go_wp2_with (at_builtin; refine wpList_append_own _ rfl _ _ 22 rfl (w.heap.size + 1) 3 i0 (.int .i64 0) 1 8 Try.underlying22 hi hz0 hz1 hz2 rfl (by decide) _ _ _ rfl (hoa.alloc _) ⟨w1.heap.size, 0, none⟩ 1 1 [.int .i64 (mins a b c m.sheets)] rfl rfl (new_one _ _ (by simp) _ _) (by intro u hu; simp at hu; subst hu; rfl) (by unfold maxLen; omega) (by omega) (by simp <;> omega) ?_)
      intro v' w2 hown' hgrow _
      have hkb := below_grown (World.ownsRow.alloc hoa (.cells #[.int .i64 (mins a b c m.sheets)] 3)) (by simp; omega) hgrow
      have ho2 := own_app hown'
      have hz3 := hkb.size
      simp only [World.size_alloc] at hz3
      replace hPa := (hPa.alloc (.cells #[.int .i64 (mins a b c m.sheets)] 3)).below hkb (by omega)
      replace hba := (hba.alloc hba.size (.cells #[.int .i64 (mins a b c m.sheets)] 3)).trans (hkb.mono (by omega))
      clear hoa hown' hgrow hkb
      go_wp2_with fail
      go_roundw
      case rel => exact ⟨k + 1, _, by omega, by go_num, ho2, HR.out, hPa, hba, by omega⟩
      case measure => simp [intOf]; omega
    · have HR := Lib.hid (show zs = timesL a b c ms by rw [← hR, drop_end HS.out hlt]; simp [timesL])
      have hkn : k = q := by omega
      clear hR
      obtain ⟨V, C, rfl⟩ := own_slice hown
      have HO := Lib.hid hown
      have HK := Lib.hid hkn
      clear hown hkn
      go_wp2_with fail
      go_ret
      have ho := HO.out
      rw [HR.out] at ho
      have hkn := HK.out
      subst hkn
      exact ⟨V, C, rfl, own_lower ho (by omega), hb⟩
def jobAt (ms : List PJob) (i : Int) : PJob := (ms[i.toNat]?).getD ⟨0, 0, 0⟩
/-- The ends of jobs in an order, and the washing. -/
def endsL (xs : List Int) (ms : List PJob) (ts : List Int) : List Int → Int → Int → Int → List Int × Int
  | [], _, _, ws => ([], ws)
  | i :: r, ink, t, ws =>
    ((t + (washF xs ink (jobAt ms i).ink + ts.getD i.toNat 0)) :: (endsL xs ms ts r (jobAt ms i).ink (t + (washF xs ink (jobAt ms i).ink + ts.getD i.toNat 0)) (ws + washF xs ink (jobAt ms i).ink)).1,
     (endsL xs ms ts r (jobAt ms i).ink (t + (washF xs ink (jobAt ms i).ink + ts.getD i.toNat 0)) (ws + washF xs ink (jobAt ms i).ink)).2)
theorem endsL_step {xs ts os r zs : List Int} {ms : List PJob} {i ink t ws ink0 : Int} {k : Nat} (hd : os.drop k = i :: r)
    (h1 : zs ++ (endsL xs ms ts (os.drop k) ink t ws).1 = (endsL xs ms ts os ink0 0 0).1) (h2 : (endsL xs ms ts (os.drop k) ink t ws).2 = (endsL xs ms ts os ink0 0 0).2) :
    (zs ++ [t + (washF xs ink (jobAt ms i).ink + ts.getD i.toNat 0)]) ++ (endsL xs ms ts r (jobAt ms i).ink (t + (washF xs ink (jobAt ms i).ink + ts.getD i.toNat 0)) (ws + washF xs ink (jobAt ms i).ink)).1 = (endsL xs ms ts os ink0 0 0).1 ∧
    (endsL xs ms ts r (jobAt ms i).ink (t + (washF xs ink (jobAt ms i).ink + ts.getD i.toNat 0)) (ws + washF xs ink (jobAt ms i).ink)).2 = (endsL xs ms ts os ink0 0 0).2 := by
  rw [← h1, ← h2, hd, endsL, List.append_assoc]
  exact ⟨rfl, rfl⟩
theorem jobAt_get {ms : List PJob} {i : Int} {m : PJob} (h : ms[i.toNat]? = some m) : jobAt ms i = m := by rw [jobAt, h]; rfl
set_option maxRecDepth 100000 in
theorem prEnds_any {a b c ink : Int} {A B D : Option Addr} {n cp q cq r cr : Nat} {xs os : List Int} {ms : List PJob} {w : World} {T : Option Addr} {ct : Nat} (hr : RInts w w.heap.size A n xs) (hn0 : n ≤ 1048576) (hs : RPJobs w w.heap.size B q ms) (hq0 : q ≤ 1048576) (ho : RInts w w.heap.size D r os) (hr0 : r ≤ 1048576) (ht : RInts w w.heap.size T q (timesL a b c ms)) (ha : 1 ≤ a ∧ a ≤ 5000) (hb1 : 0 ≤ b ∧ b ≤ 600) (h0 : 0 ≤ c ∧ c ≤ 500) (hn5 : 5 ≤ n) (hx : ∀ x ∈ xs, 0 ≤ x ∧ x ≤ 300) (hi0 : 0 ≤ ink ∧ ink ≤ 4) (hm : (∀ m ∈ ms, (0 ≤ m.ink ∧ m.ink ≤ 4) ∧ (1 ≤ m.sheets ∧ m.sheets ≤ 20000) ∧ (0 ≤ m.due ∧ m.due ≤ 100000))) (hi : ∀ i ∈ os, 0 ≤ i ∧ i < q) (hr7 : r ≤ 7) :
    Calls Try.prog 51 #[.agg #[.int .i64 a, .int .i64 b, .int .i64 c, .slice A n cp], .int .i64 ink, .slice B q cq, .slice T q ct, .slice D r cr] w fun e w' => ∃ V C, e = .returned (.tuple #[.slice V r C, .int .i64 (endsL xs ms (timesL a b c ms) os ink 0 0).2]) ∧ Own w' w.heap.size (.slice V r C) r (endsL xs ms (timesL a b c ms) os ink 0 0).1 ∧ Below w.heap.size w w' := by
  have HO := Lib.hid ho.len
  have HX := Lib.hid hx
  have HM := Lib.hid hm
  have HI := Lib.hid hi
  have HSL := Lib.hid hs.len
  have hP0 := Blk.new' w 30 #[.int .i64 a, .int .i64 b, .int .i64 c, .slice A n cp]
  clear hm hx hi
  obtain ⟨i0, hi, hz0, hz1, hz2⟩ := info_parts info3
  go_enter Try.func51, Try.ntmps51
  go_wp2_with fail
  go_loopw [1, 12, 13, 14, 20] (fun x1 v x2 x3 u wr => ∃ (k : Nat) (zs : List Int) (jk t ws : Int), k ≤ r ∧ u = .int .i64 k ∧ x1 = .int .i64 jk ∧ x2 = .int .i64 t ∧ x3 = .int .i64 ws ∧ (0 ≤ jk ∧ jk ≤ 4) ∧ (0 ≤ t ∧ t ≤ 3000000 * k) ∧ (0 ≤ ws ∧ ws ≤ 300 * k) ∧ Own wr (w.heap.size + 1) v k zs ∧
    (zs ++ (endsL xs ms (timesL a b c ms) (os.drop k) jk t ws).1 = (endsL xs ms (timesL a b c ms) os ink 0 0).1 ∧ (endsL xs ms (timesL a b c ms) (os.drop k) jk t ws).2 = (endsL xs ms (timesL a b c ms) os ink 0 0).2) ∧ Blk wr w.heap.size 30 [.int .i64 a, .int .i64 b, .int .i64 c, .slice A n cp] ∧ Below w.heap.size w wr ∧ w.heap.size + 1 ≤ wr.heap.size) (fun _ _ _ _ u _ => r - (intOf u).toNat)
  case atStart => exact ⟨0, [], ink, 0, 0, Nat.zero_le _, rfl, rfl, rfl, rfl, hi0, by omega, by omega, own_nil _ _, ⟨rfl, rfl⟩, hP0, (by (repeat (first | exact Below.refl _ _ | exact hb | apply Below.drew | (refine Below.alloc ?_ (by first | (simp; done) | (simp; omega) | (have := hb.size; simp at this ⊢; omega)) _) | (refine Below.setCell ?_ (by simp) _)))), by simp⟩
  case round =>
    clear hP0
    obtain ⟨k, zs, jk, t, ws, hk, rfl, rfl, rfl, rfl, bj, bt, bw, hown, hR, hP, hb, hsz⟩ := hrel
    by_cases hlt : k < r
    · obtain ⟨ad, i, eA, _, hd, hyi, hci⟩ := RInts.at_ (ho.below hb) hlt
      have bi := HI.out i (List.mem_of_getElem? hyi)
      obtain ⟨bb, off, m, eB, hbb, _, hy, c0, c1, c2⟩ := RPJobs.at_ (hs.below hb) (k := i.toNat) (by omega)
      have hm := HM.out m (List.mem_of_getElem? hy)
      have hj : jobAt ms i = m := jobAt_get hy
      have htm : (timesL a b c ms).getD i.toNat 0 = mins a b c m.sheets := by rw [timesL, List.getD_eq_getElem?_getD, List.getElem?_map, hy]; rfl
      have hst := endsL_step hd hR.1 hR.2
      rw [hj, htm] at hst
      have HR := Lib.hid hst
      have bm := mins_bd (a := a) (b := b) (c := c) (s := m.sheets) ha hb1 h0 hm.2.1
      have bwf := washF_bd (f := jk) (t := m.ink) HX.out
      have bs : 0 ≤ mins a b c m.sheets ∧ mins a b c m.sheets ≤ 2500000 := by omega
      obtain ⟨ae, z, eT, _, _, hzt, hct⟩ := RInts.at_ (ht.below hb) (k := i.toNat) (by omega)
      have hzz : z = mins a b c m.sheets := by rw [List.getD_eq_getElem?_getD, hzt] at htm; exact htm
      subst hzz
      have HT := Lib.hid eT
      rw [eT]
      have HA := Lib.hid eA
      have HB := Lib.hid eB
      clear hd hR hy hyi hj htm hst bm hzt eT
      rw [eA, eB]
      have HC := Lib.hid (show ∀ wx, Below wr.heap.size wr wx → (wx.cell? ⟨w.heap.size, 0, none⟩ = some (.int .i64 a) ∧ wx.cell? ⟨w.heap.size, 1, none⟩ = some (.int .i64 b) ∧ wx.cell? ⟨w.heap.size, 2, none⟩ = some (.int .i64 c) ∧ wx.cell? ⟨w.heap.size, 3, none⟩ = some (.slice A n cp)) ∧ wx.cell? ⟨bb, off + i.toNat * 3, none⟩ = some (.int .i64 m.ink) from fun wx h => ⟨⟨(hP.below h hP.lt).cell 0, (hP.below h hP.lt).cell 1, (hP.below h hP.lt).cell 2, (hP.below h hP.lt).cell 3⟩, (h.cell (by simp; omega)).trans c0⟩)
      clear eA eB
      go_wp2_with fail
      go_region_held3 (fun wx => Below wr.heap.size wr wx ∧ (wx.cell? ⟨w.heap.size, 0, none⟩ = some (.int .i64 a) ∧ wx.cell? ⟨w.heap.size, 1, none⟩ = some (.int .i64 b) ∧ wx.cell? ⟨w.heap.size, 2, none⟩ = some (.int .i64 c) ∧ wx.cell? ⟨w.heap.size, 3, none⟩ = some (.slice A n cp)) ∧ wx.cell? ⟨bb, off + i.toNat * 3, none⟩ = some (.int .i64 m.ink)) ((first | exact ⟨(Below.refl _ _).drew, HC.out _ (Below.refl _ _).drew⟩ | (have hh : Below _ _ _ ∧ _ := (by assumption); have hh0 := hh.1.trans (hn.mono hh.1.size); exact ⟨hh0, HC.out _ hh0⟩) | assumption | go_keep))
        ((go_at_call 58; (have hh : Below _ _ _ ∧ _ := (by assumption)); refine (prWash_any ((RInts.below hr (hb.trans (hh.1.mono hb.size))).more (Nat.le_trans hb.size hh.1.size)) hn5 bj hm.1 HX.out hn0).mono ?_; rintro e1 wi ⟨rfl, hn⟩))
      clear HC
      have hn9 : Below wr.heap.size wr _ ∧ _ := (by assumption)
      obtain ⟨hn, _⟩ := hn9
      have e0 := (hn.cell (p := ⟨bb, off + i.toNat * 3, none⟩) (by simp; have := hb.size; omega)).trans c0
      have e1 := (hn.cell (p := ae.add i.toNat) (by rw [block_of_add]; have := hb.size; omega)).trans hct
      replace hP := hP.below hn hP.lt
      replace hb := hb.trans (hn.mono hb.size)
      replace hown := row_step hown hn
      have hz9 := hn.size
      clear c0 c1 c2 hci hct hn
      go_wp2_with (at_builtin; refine wpList_append_own _ rfl _ _ 22 rfl (w.heap.size + 1) 3 i0 (.int .i64 0) 1 8 Try.underlying22 hi hz0 hz1 hz2 rfl (by decide) _ _ _ rfl (hown.alloc _) ⟨wi.heap.size, 0, none⟩ 1 1 [.int .i64 (t + (washF xs jk m.ink + mins a b c m.sheets))] rfl rfl (new_one _ _ (by simp) _ _) (by intro u hu; simp at hu; subst hu; rfl) (by unfold maxLen; omega) (by omega) (by simp <;> omega) ?_)
      intro v' w2 hown' hgrow _
      have hkb := below_grown (World.ownsRow.alloc hown (.cells #[.int .i64 (t + (washF xs jk m.ink + mins a b c m.sheets))] 3)) (by simp; omega) hgrow
      have ho2 := own_app hown'
      have hz3 := hkb.size
      simp only [World.size_alloc] at hz3
      replace hP := (hP.alloc (.cells #[.int .i64 (t + (washF xs jk m.ink + mins a b c m.sheets))] 3)).below hkb (by omega)
      replace hb := (hb.alloc hb.size (.cells #[.int .i64 (t + (washF xs jk m.ink + mins a b c m.sheets))] 3)).trans (hkb.mono (by omega))
      clear hown hown' hgrow hkb
      go_wp2_with fail
      (try rw [← HA.out]); (try rw [← HB.out]); (try rw [← HT.out])
      go_roundw
      case rel => exact ⟨k + 1, _, _, _, _, by omega, by go_num, rfl, rfl, rfl, by omega, by omega, by omega, ho2, HR.out, hP, hb, by omega⟩
      case measure => simp [intOf]; omega
    · have hkn : k = r := by omega
      have hRR : zs = (endsL xs ms (timesL a b c ms) os ink 0 0).1 ∧ ws = (endsL xs ms (timesL a b c ms) os ink 0 0).2 := by
        obtain ⟨e1, e2⟩ := hR
        rw [drop_end HO.out hlt, endsL] at e1 e2
        exact ⟨by rw [← e1, List.append_nil], e2⟩
      have HR := Lib.hid hRR
      clear hR hRR
      obtain ⟨V, C, rfl⟩ := own_slice hown
      have HW := Lib.hid hown
      have HK := Lib.hid hkn
      clear hown hkn
      go_wp2_with fail
      go_ret2
      have ho9 := HW.out
      rw [HR.out.1] at ho9
      have hkn := HK.out
      subst hkn
      exact ⟨V, C, by rw [← HR.out.2]; rfl, own_lower ho9 (by omega), hb⟩
end Go.Proofs.Ytfjkmocjlmcjdaa
