/-
  Contracts: the program's run of jobs.
-/
import Derived.Test.YtfjkmocjlmcjdaaPr8
namespace Go.Proofs.Ytfjkmocjlmcjdaa
open Go.RowKit
set_option maxRecDepth 100000 in
theorem run_any {a b c ink : Int} {A B D : Option Addr} {n cp q cq r cr : Nat} {xs os : List Int} {ms : List PJob} {w : World} (hr : RInts w w.heap.size A n xs) (hn0 : n ≤ 1048576) (hs : RPJobs w w.heap.size B q ms) (hq0 : q ≤ 1048576) (ho : RInts w w.heap.size D r os) (hr0 : r ≤ 1048576) (ha : 1 ≤ a ∧ a ≤ 5000) (hb1 : 0 ≤ b ∧ b ≤ 600) (h0 : 0 ≤ c ∧ c ≤ 500) (hn5 : 5 ≤ n) (hx : ∀ x ∈ xs, 0 ≤ x ∧ x ≤ 300) (hi0 : 0 ≤ ink ∧ ink ≤ 4) (hm : (∀ m ∈ ms, (0 ≤ m.ink ∧ m.ink ≤ 4) ∧ (1 ≤ m.sheets ∧ m.sheets ≤ 20000) ∧ (0 ≤ m.due ∧ m.due ≤ 100000))) (hi : ∀ i ∈ os, 0 ≤ i ∧ i < q) (hr7 : r ≤ 7) :
    Calls Try.prog 29 #[.agg #[.int .i64 a, .int .i64 b, .int .i64 c, .slice A n cp], .int .i64 ink, .slice B q cq, .slice D r cr] w fun e w' => ∃ V C, e = .returned (.tuple #[.slice V r C, .int .i64 (endsL xs ms (timesL a b c ms) os ink 0 0).2]) ∧ Own w' w.heap.size (.slice V r C) r (endsL xs ms (timesL a b c ms) os ink 0 0).1 ∧ Below w.heap.size w w' := by
  have HO := Lib.hid ho.len
  have HX := Lib.hid hx
  have HM := Lib.hid hm
  have HI := Lib.hid hi
  have HSL := Lib.hid hs.len
  have hP0 := Blk.new' w 30 #[.int .i64 a, .int .i64 b, .int .i64 c, .slice A n cp]
  clear hm hx hi
  obtain ⟨i0, hi, hz0, hz1, hz2⟩ := info_parts info3
  go_enter Try.func29, Try.ntmps29
  go_wp2_with fail
  go_loopw [1, 10, 11, 12, 19] (fun x1 v x2 x3 u wr => ∃ (k : Nat) (zs : List Int) (jk t ws : Int), k ≤ r ∧ u = .int .i64 k ∧ x1 = .int .i64 jk ∧ x2 = .int .i64 t ∧ x3 = .int .i64 ws ∧ (0 ≤ jk ∧ jk ≤ 4) ∧ (0 ≤ t ∧ t ≤ 3000000 * k) ∧ (0 ≤ ws ∧ ws ≤ 300 * k) ∧ Own wr (w.heap.size + 1) v k zs ∧
    (zs ++ (endsL xs ms (timesL a b c ms) (os.drop k) jk t ws).1 = (endsL xs ms (timesL a b c ms) os ink 0 0).1 ∧ (endsL xs ms (timesL a b c ms) (os.drop k) jk t ws).2 = (endsL xs ms (timesL a b c ms) os ink 0 0).2) ∧ Blk wr w.heap.size 30 [.int .i64 a, .int .i64 b, .int .i64 c, .slice A n cp] ∧ Below w.heap.size w wr ∧ w.heap.size + 1 ≤ wr.heap.size) (fun _ _ _ _ u _ => r - (intOf u).toNat)
  case atStart => exact ⟨0, [], ink, 0, 0, Nat.zero_le _, rfl, rfl, rfl, rfl, hi0, by omega, by omega, by simpa using own_empty (w.alloc (.cells #[.int .i64 a, .int .i64 b, .int .i64 c, .slice A n cp] 30)) (w.heap.size + 1) (by simp), ⟨rfl, rfl⟩, hP0.alloc _, (by (repeat (first | exact Below.refl _ _ | exact hb | apply Below.drew | (refine Below.alloc ?_ (by first | (simp; done) | (simp; omega) | (have := hb.size; simp at this ⊢; omega)) _) | (refine Below.setCell ?_ (by simp) _)))), by simp⟩
  case round =>
    clear hP0
    obtain ⟨k, zs, jk, t, ws, hk, rfl, rfl, rfl, rfl, bj, bt, bw, hown, hR, hP, hb, hsz⟩ := hrel
    by_cases hlt : k < r
    · obtain ⟨ad, i, eA, _, hd, hyi, hci⟩ := RInts.at_ (ho.below hb) hlt
      have bi := HI.out i (List.mem_of_getElem? hyi)
      obtain ⟨bb, off, m, eB, hbb, _, hy, c0, c1, c2⟩ := RPJobs.at_ (hs.below hb) (k := i.toNat) (by omega)
      have hm := HM.out m (List.mem_of_getElem? hy)
      have hj : jobAt ms i = m := jobAt_get hy
      have htm : (timesL a b c ms).getD i.toNat 0 = mins a b c m.sheets := by rw [timesL, List.getD_eq_getElem?_getD, List.getElem?_map, hy]; rfl
      have hst := endsL_step hd hR.1 hR.2
      rw [hj, htm] at hst
      have HR := Lib.hid hst
      have bm := mins_bd (a := a) (b := b) (c := c) (s := m.sheets) ha hb1 h0 hm.2.1
      have bwf := washF_bd (f := jk) (t := m.ink) HX.out
      have bs : 0 ≤ mins a b c m.sheets ∧ mins a b c m.sheets ≤ 2500000 := by omega
      have HA := Lib.hid eA
      have HB := Lib.hid eB
      clear hd hR hy hyi hj htm hst bm
      rw [eA, eB]
      have HC := Lib.hid (show ∀ wx, Below wr.heap.size wr wx → (wx.cell? ⟨w.heap.size, 0, none⟩ = some (.int .i64 a) ∧ wx.cell? ⟨w.heap.size, 1, none⟩ = some (.int .i64 b) ∧ wx.cell? ⟨w.heap.size, 2, none⟩ = some (.int .i64 c) ∧ wx.cell? ⟨w.heap.size, 3, none⟩ = some (.slice A n cp)) ∧ wx.cell? ⟨bb, off + i.toNat * 3, none⟩ = some (.int .i64 m.ink) from fun wx h => ⟨⟨(hP.below h hP.lt).cell 0, (hP.below h hP.lt).cell 1, (hP.below h hP.lt).cell 2, (hP.below h hP.lt).cell 3⟩, (h.cell (by simp; omega)).trans c0⟩)
      clear eA eB
      go_wp2_with fail
      go_region_held3 (fun wx => Below wr.heap.size wr wx ∧ (wx.cell? ⟨w.heap.size, 0, none⟩ = some (.int .i64 a) ∧ wx.cell? ⟨w.heap.size, 1, none⟩ = some (.int .i64 b) ∧ wx.cell? ⟨w.heap.size, 2, none⟩ = some (.int .i64 c) ∧ wx.cell? ⟨w.heap.size, 3, none⟩ = some (.slice A n cp)) ∧ wx.cell? ⟨bb, off + i.toNat * 3, none⟩ = some (.int .i64 m.ink)) ((first | exact ⟨(Below.refl _ _).drew, HC.out _ (Below.refl _ _).drew⟩ | (have hh : Below _ _ _ ∧ _ := (by assumption); have hh0 := hh.1.trans (hn.mono hh.1.size); exact ⟨hh0, HC.out _ hh0⟩) | assumption | go_keep))
        ((go_at_call 45; (have hh : Below _ _ _ ∧ _ := (by assumption)); refine (wash_any ((RInts.below hr (hb.trans (hh.1.mono hb.size))).more (Nat.le_trans hb.size hh.1.size)) hn5 bj hm.1 HX.out hn0).mono ?_; rintro e1 wi ⟨rfl, hn⟩))
      clear HC
      have hn9 : Below wr.heap.size wr _ ∧ _ := (by assumption)
      obtain ⟨hn, _⟩ := hn9
      have d0 := (hn.cell (p := ⟨bb, off + i.toNat * 3, none⟩) (by simp; have := hb.size; omega)).trans c0
      have d1 := (hn.cell (p := ⟨bb, off + i.toNat * 3 + 1, none⟩) (by simp; have := hb.size; omega)).trans c1
      have d2 := (hn.cell (p := ⟨bb, off + i.toNat * 3 + 2, none⟩) (by simp; have := hb.size; omega)).trans c2
      replace hP := hP.below hn hP.lt
      replace hb := hb.trans (hn.mono hb.size)
      replace hown := row_step hown hn
      have hz8 := hn.size
      clear c0 c1 c2 hci hn
      obtain ⟨wo, hwo⟩ : ∃ u, u = wi := ⟨_, rfl⟩
      subst hwo
      have HC := Lib.hid (show ∀ wx, Below wo.heap.size wo wx → (wx.cell? ⟨w.heap.size, 0, none⟩ = some (.int .i64 a) ∧ wx.cell? ⟨w.heap.size, 1, none⟩ = some (.int .i64 b) ∧ wx.cell? ⟨w.heap.size, 2, none⟩ = some (.int .i64 c) ∧ wx.cell? ⟨w.heap.size, 3, none⟩ = some (.slice A n cp)) ∧ wx.cell? ⟨bb, off + i.toNat * 3, none⟩ = some (.int .i64 m.ink) ∧ wx.cell? ⟨bb, off + i.toNat * 3 + 1, none⟩ = some (.int .i64 m.sheets) ∧ wx.cell? ⟨bb, off + i.toNat * 3 + 2, none⟩ = some (.int .i64 m.due) from fun wx h => ⟨⟨(hP.below h hP.lt).cell 0, (hP.below h hP.lt).cell 1, (hP.below h hP.lt).cell 2, (hP.below h hP.lt).cell 3⟩, (h.cell (by simp; have := hb.size; omega)).trans d0, (h.cell (by simp; have := hb.size; omega)).trans d1, (h.cell (by simp; have := hb.size; omega)).trans d2⟩)
      go_wp2_with fail
      clear d0 d1 d2
      go_region_held3 (fun wx => Below wo.heap.size wo wx ∧ (wx.cell? ⟨w.heap.size, 0, none⟩ = some (.int .i64 a) ∧ wx.cell? ⟨w.heap.size, 1, none⟩ = some (.int .i64 b) ∧ wx.cell? ⟨w.heap.size, 2, none⟩ = some (.int .i64 c) ∧ wx.cell? ⟨w.heap.size, 3, none⟩ = some (.slice A n cp)) ∧ wx.cell? ⟨bb, off + i.toNat * 3, none⟩ = some (.int .i64 m.ink) ∧ wx.cell? ⟨bb, off + i.toNat * 3 + 1, none⟩ = some (.int .i64 m.sheets) ∧ wx.cell? ⟨bb, off + i.toNat * 3 + 2, none⟩ = some (.int .i64 m.due)) ((first | exact ⟨(Below.refl _ _).drew, HC.out _ (Below.refl _ _).drew⟩ | (have hh : Below _ _ _ ∧ _ := (by assumption); have hh0 := hh.1.trans (hn.mono hh.1.size); exact ⟨hh0, HC.out _ hh0⟩) | assumption | go_keep))
        ((go_at_call 46; refine (minutes_any ha hb1 h0 hm.2.1).mono ?_; rintro e1 wi ⟨rfl, hn⟩))
      clear HC
      have hn9 : Below wo.heap.size wo _ ∧ _ := (by assumption)
      obtain ⟨hn, _⟩ := hn9
      have ew1 : IntKind.i64.wrap (washF xs jk m.ink + mins a b c m.sheets) = washF xs jk m.ink + mins a b c m.sheets := wrapI (by omega) (by omega)
      have ew2 : IntKind.i64.wrap (t + (washF xs jk m.ink + mins a b c m.sheets)) = t + (washF xs jk m.ink + mins a b c m.sheets) := wrapI (by omega) (by omega)
      replace hP := hP.below hn hP.lt
      replace hb := hb.trans (hn.mono hb.size)
      replace hown := row_step hown hn
      have hz9 := hn.size
      clear hn
      rw [ew1, ew2]
      clear ew1 ew2
      go_wp2_with (at_builtin; refine wpList_append_own _ rfl _ _ 22 rfl (w.heap.size + 1) 3 i0 (.int .i64 0) 1 8 Try.underlying22 hi hz0 hz1 hz2 rfl (by decide) _ _ _ rfl (hown.alloc _) ⟨wi.heap.size, 0, none⟩ 1 1 [.int .i64 (t + (washF xs jk m.ink + mins a b c m.sheets))] rfl rfl (new_one _ _ (by simp) _ _) (by intro u hu; simp at hu; subst hu; rfl) (by unfold maxLen; omega) (by omega) (by simp <;> omega) ?_)
      intro v' w2 hown' hgrow _
      have hkb := below_grown (World.ownsRow.alloc hown (.cells #[.int .i64 (t + (washF xs jk m.ink + mins a b c m.sheets))] 3)) (by simp; omega) hgrow
      have ho2 := own_app hown'
      have hz3 := hkb.size
      simp only [World.size_alloc] at hz3
      replace hP := (hP.alloc (.cells #[.int .i64 (t + (washF xs jk m.ink + mins a b c m.sheets))] 3)).below hkb (by omega)
      replace hb := (hb.alloc hb.size (.cells #[.int .i64 (t + (washF xs jk m.ink + mins a b c m.sheets))] 3)).trans (hkb.mono (by omega))
      clear hown hown' hgrow hkb
      go_wp2_with fail
      (try rw [← HA.out]); (try rw [← HB.out])
      go_roundw
      case rel => exact ⟨k + 1, _, _, _, _, by omega, by go_num, rfl, rfl, rfl, by omega, by omega, by omega, ho2, HR.out, hP, hb, by omega⟩
      case measure => simp [intOf]; omega
    · have hkn : k = r := by omega
      have hRR : zs = (endsL xs ms (timesL a b c ms) os ink 0 0).1 ∧ ws = (endsL xs ms (timesL a b c ms) os ink 0 0).2 := by
        obtain ⟨e1, e2⟩ := hR
        rw [drop_end HO.out hlt, endsL] at e1 e2
        exact ⟨by rw [← e1, List.append_nil], e2⟩
      have HR := Lib.hid hRR
      clear hR hRR
      obtain ⟨V, C, rfl⟩ := own_slice hown
      have HW := Lib.hid hown
      have HK := Lib.hid hkn
      clear hown hkn
      go_wp2_with fail
      go_ret2
      have ho9 := HW.out
      rw [HR.out.1] at ho9
      have hkn := HK.out
      subst hkn
      exact ⟨V, C, by rw [← HR.out.2]; rfl, own_lower ho9 (by omega), hb⟩
end Go.Proofs.Ytfjkmocjlmcjdaa
