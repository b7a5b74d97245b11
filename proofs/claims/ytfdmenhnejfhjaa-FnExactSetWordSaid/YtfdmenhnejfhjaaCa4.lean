/-
  Contracts: a case of boxes is one (spec).
-/
import Derived.Test.YtfdmenhnejfhjaaCa3
namespace Go.Proofs.Ytfdmenhnejfhjaa
open Go.RowKit
set_option maxRecDepth 100000 in
set_option maxHeartbeats 2000000 in
theorem caGood_any {A : Option Addr} {n cp : Nat} {ms : List Bx} {w : World} (hr : RBxs w w.heap.size A n ms) (hn0 : n ≤ 1048576) (hcp : n ≤ cp) (hL : ∀ b ∈ ms, b.code.size ≤ 1048576) :
    Calls Try.prog 54 #[.slice A n cp] w fun e w' => e = .returned (.bool (caseB ms)) ∧ Below w.heap.size w w' := by
  have HL := Lib.hid hr.len
  have HX := Lib.hid hL
  clear hL
  go_enter Try.func54, Try.ntmps54
  go_wp2_with fail
  go_loopw [9] (fun u wr => ∃ k : Nat, k ≤ n ∧ u = .int .i64 k ∧ goodF ms (n - k) k = goodF ms n 0 ∧ Below w.heap.size w wr) (fun u _ => n - (intOf u).toNat)
  case atStart => exact ⟨0, Nat.zero_le _, rfl, rfl, Below.refl _ _⟩
  case round =>
    obtain ⟨wo, rfl⟩ : ∃ wo, wo = wr := ⟨_, rfl⟩
    obtain ⟨k, hk, rfl, hR, hb⟩ := hrel
    by_cases hlt : k < n
    · obtain ⟨bb, off, b, rfl, hbb, _, hy, c0, c1, c2, c3⟩ := RBxs.at_ (hr.below hb) hlt
      have hbs := HX.out b (List.mem_of_getElem? hy)
      have HR := Lib.hid (show (goodK ms k b && goodF ms (n - (k + 1)) (k + 1)) = goodF ms n 0 by rw [← hR, goodF_step hlt hy])
      have hX := Blk.new' wo 71 #[.string b.code, .int .i64 b.line, .int .i64 b.column, .int .i64 b.count]
      have hba := hb.alloc hb.size (.cells #[.string b.code, .int .i64 b.line, .int .i64 b.column, .int .i64 b.count] 71)
      have htk := RBxs_take (k := k) ((RRow.alloc (hr.below hb) hb.size (.cells #[.string b.code, .int .i64 b.line, .int .i64 b.column, .int .i64 b.count] 71))) (by omega)
      have hbz := hb.size
      clear hR hy
      have hkc : k ≤ cp := by omega
      cases hB : boxB b
      · have q0 : ∀ x : Later (wo.heap.size + 1) (wo.alloc (.cells #[.string b.code, .int .i64 b.line, .int .i64 b.column, .int .i64 b.count] 71)), x.wx.cell? ⟨wo.heap.size, 0, none⟩ = some (.string b.code) := fun x => x.cell (by omega) (hX.cell 0); have q1 : ∀ x : Later (wo.heap.size + 1) (wo.alloc (.cells #[.string b.code, .int .i64 b.line, .int .i64 b.column, .int .i64 b.count] 71)), x.wx.cell? ⟨wo.heap.size, 1, none⟩ = some (.int .i64 b.line) := fun x => x.cell (by omega) (hX.cell 1); have q2 : ∀ x : Later (wo.heap.size + 1) (wo.alloc (.cells #[.string b.code, .int .i64 b.line, .int .i64 b.column, .int .i64 b.count] 71)), x.wx.cell? ⟨wo.heap.size, 2, none⟩ = some (.int .i64 b.column) := fun x => x.cell (by omega) (hX.cell 2); have q3 : ∀ x : Later (wo.heap.size + 1) (wo.alloc (.cells #[.string b.code, .int .i64 b.line, .int .i64 b.column, .int .i64 b.count] 71)), x.wx.cell? ⟨wo.heap.size, 3, none⟩ = some (.int .i64 b.count) := fun x => x.cell (by omega) (hX.cell 3)
        have HG := Lib.hid (show goodK ms k b = false by rw [goodK, hB]; rfl)
        go_wp2_with fail; clear c0 c1 c2 c3; refine quiet_start (wo.heap.size + 1) (by kernel_rfl) (by kernel_rfl) ?_; (repeat (go_big_quiet_step ((go_at_call 62; exact later_call (by simp) (caBox_is b _ hbs hB))))); refine wpQuiet_nil ?_; rintro wx ⟨⟨wy, hn⟩, rfl⟩; (try dsimp only); clear q0 q1 q2 q3; (try clear q4); have hX2 := hX.below hn (by omega); replace hba := hba.trans (hn.mono (by omega))
        clear hX hX2
        go_wp2_with fail
        go_ret
        exact ⟨ret_bool (by rw [caseB, HL.out, ← HR.out, HG.out]; rfl), hba⟩
      by_cases hk0 : k = 0
      · subst hk0
        simp only [Nat.zero_mul, Nat.add_zero] at c0 c1 c2 c3
        have q0 : ∀ x : Later (wo.heap.size + 1) (wo.alloc (.cells #[.string b.code, .int .i64 b.line, .int .i64 b.column, .int .i64 b.count] 71)), x.wx.cell? ⟨wo.heap.size, 0, none⟩ = some (.string b.code) := fun x => x.cell (by omega) (hX.cell 0); have q1 : ∀ x : Later (wo.heap.size + 1) (wo.alloc (.cells #[.string b.code, .int .i64 b.line, .int .i64 b.column, .int .i64 b.count] 71)), x.wx.cell? ⟨wo.heap.size, 1, none⟩ = some (.int .i64 b.line) := fun x => x.cell (by omega) (hX.cell 1); have q2 : ∀ x : Later (wo.heap.size + 1) (wo.alloc (.cells #[.string b.code, .int .i64 b.line, .int .i64 b.column, .int .i64 b.count] 71)), x.wx.cell? ⟨wo.heap.size, 2, none⟩ = some (.int .i64 b.column) := fun x => x.cell (by omega) (hX.cell 2); have q3 : ∀ x : Later (wo.heap.size + 1) (wo.alloc (.cells #[.string b.code, .int .i64 b.line, .int .i64 b.column, .int .i64 b.count] 71)), x.wx.cell? ⟨wo.heap.size, 3, none⟩ = some (.int .i64 b.count) := fun x => x.cell (by omega) (hX.cell 3)
        have HG := Lib.hid (show goodK ms 0 b = true by rw [goodK, hB]; rfl)
        go_wp2_with fail; clear c0 c1 c2 c3; refine quiet_start (wo.heap.size + 1) (by kernel_rfl) (by kernel_rfl) ?_; (repeat (go_big_quiet_step ((go_at_call 62; exact later_call (by simp) (caBox_is b _ hbs hB))))); refine wpQuiet_nil ?_; rintro wx ⟨⟨wy, hn⟩, rfl⟩; (try dsimp only); clear q0 q1 q2 q3; (try clear q4); have hX2 := hX.below hn (by omega); replace hba := hba.trans (hn.mono (by omega))
        clear hX hX2
        go_wp2_with fail
        go_loopw [36] (fun u wr => u = .int .i64 0 ∧ wr = wx) (fun _ _ => 0)
        case atStart => exact ⟨rfl, rfl⟩
        case round =>
          obtain ⟨rfl, rfl⟩ := hrel
          go_wp2_with fail
          go_roundw
          case rel => exact ⟨1, by omega, by go_num, by rw [← HR.out, HG.out, Bool.true_and], hba⟩
          case measure => simp [intOf]; omega
      · obtain ⟨b2, o2, p, eA, _, _, hyp, d0, _⟩ := RBxs.at_ (hr.below hb) (k := k - 1) (by omega)
        injection eA with eA
        injection eA with e1 e2
        subst e1 e2
        have HO := Lib.hid (show ordK ms k b = lessS p.code b.code by
          obtain ⟨j, rfl⟩ : ∃ j, k = j + 1 := ⟨k - 1, by omega⟩
          rw [ordK, show j = j + 1 - 1 by omega, hyp]; rfl)
        have kp : 0 < k := by omega
        have kp2 : (0 : Int) < (k : Int) := by omega
        clear hyp
        cases hO : lessS p.code b.code
        · have q0 : ∀ x : Later (wo.heap.size + 1) (wo.alloc (.cells #[.string b.code, .int .i64 b.line, .int .i64 b.column, .int .i64 b.count] 71)), x.wx.cell? ⟨wo.heap.size, 0, none⟩ = some (.string b.code) := fun x => x.cell (by omega) (hX.cell 0); have q1 : ∀ x : Later (wo.heap.size + 1) (wo.alloc (.cells #[.string b.code, .int .i64 b.line, .int .i64 b.column, .int .i64 b.count] 71)), x.wx.cell? ⟨wo.heap.size, 1, none⟩ = some (.int .i64 b.line) := fun x => x.cell (by omega) (hX.cell 1); have q2 : ∀ x : Later (wo.heap.size + 1) (wo.alloc (.cells #[.string b.code, .int .i64 b.line, .int .i64 b.column, .int .i64 b.count] 71)), x.wx.cell? ⟨wo.heap.size, 2, none⟩ = some (.int .i64 b.column) := fun x => x.cell (by omega) (hX.cell 2); have q3 : ∀ x : Later (wo.heap.size + 1) (wo.alloc (.cells #[.string b.code, .int .i64 b.line, .int .i64 b.column, .int .i64 b.count] 71)), x.wx.cell? ⟨wo.heap.size, 3, none⟩ = some (.int .i64 b.count) := fun x => x.cell (by omega) (hX.cell 3); have q4 : ∀ x : Later (wo.heap.size + 1) (wo.alloc (.cells #[.string b.code, .int .i64 b.line, .int .i64 b.column, .int .i64 b.count] 71)), x.wx.cell? ⟨bb, off + (k - 1) * 4, none⟩ = some (.string p.code) := fun x => x.cell (by omega) ((World.cell?_alloc_lt wo _ _ (by simp; omega)).trans d0)
          have HG := Lib.hid (show goodK ms k b = false by rw [goodK, HO.out, hO]; simp)
          have e3 : (Go.Op.bytesLess p.code.toList b.code.toList) = false := hO
          have ew : IntKind.i64.wrap ((k : Int) - 1) = (k : Int) - 1 := wrapI (by omega) (by omega)
          have e0 : 0 ≤ (k : Int) - 1 := by omega
          have en : ((k : Int) - 1).toNat = k - 1 := by omega
          clear d0
          go_wp2_with fail; clear c0 c1 c2 c3; refine quiet_start (wo.heap.size + 1) (by kernel_rfl) (by kernel_rfl) ?_; (repeat (go_big_quiet_step ((go_at_call 62; exact later_call (by simp) (caBox_is b _ hbs hB))))); refine wpQuiet_nil ?_; rintro wx ⟨⟨wy, hn⟩, rfl⟩; (try dsimp only); clear q0 q1 q2 q3; (try clear q4); have hX2 := hX.below hn (by omega); replace hba := hba.trans (hn.mono (by omega))
          clear hX hX2
          go_wp2_with fail
          go_ret
          exact ⟨ret_bool (by rw [caseB, HL.out, ← HR.out, HG.out]; rfl), hba⟩
        · have e3 : (Go.Op.bytesLess p.code.toList b.code.toList) = true := hO
          have ew : IntKind.i64.wrap ((k : Int) - 1) = (k : Int) - 1 := wrapI (by omega) (by omega)
          have e0 : 0 ≤ (k : Int) - 1 := by omega
          have en : ((k : Int) - 1).toNat = k - 1 := by omega
          have q0 : ∀ x : Later (wo.heap.size + 1) (wo.alloc (.cells #[.string b.code, .int .i64 b.line, .int .i64 b.column, .int .i64 b.count] 71)), x.wx.cell? ⟨wo.heap.size, 0, none⟩ = some (.string b.code) := fun x => x.cell (by omega) (hX.cell 0); have q1 : ∀ x : Later (wo.heap.size + 1) (wo.alloc (.cells #[.string b.code, .int .i64 b.line, .int .i64 b.column, .int .i64 b.count] 71)), x.wx.cell? ⟨wo.heap.size, 1, none⟩ = some (.int .i64 b.line) := fun x => x.cell (by omega) (hX.cell 1); have q2 : ∀ x : Later (wo.heap.size + 1) (wo.alloc (.cells #[.string b.code, .int .i64 b.line, .int .i64 b.column, .int .i64 b.count] 71)), x.wx.cell? ⟨wo.heap.size, 2, none⟩ = some (.int .i64 b.column) := fun x => x.cell (by omega) (hX.cell 2); have q3 : ∀ x : Later (wo.heap.size + 1) (wo.alloc (.cells #[.string b.code, .int .i64 b.line, .int .i64 b.column, .int .i64 b.count] 71)), x.wx.cell? ⟨wo.heap.size, 3, none⟩ = some (.int .i64 b.count) := fun x => x.cell (by omega) (hX.cell 3); have q4 : ∀ x : Later (wo.heap.size + 1) (wo.alloc (.cells #[.string b.code, .int .i64 b.line, .int .i64 b.column, .int .i64 b.count] 71)), x.wx.cell? ⟨bb, off + (k - 1) * 4, none⟩ = some (.string p.code) := fun x => x.cell (by omega) ((World.cell?_alloc_lt wo _ _ (by simp; omega)).trans d0)
          have HG := Lib.hid (show goodK ms k b = !takB b.line b.column (ms.take k) by rw [goodK, HO.out, hO, hB]; rfl)
          clear d0
          go_wp2_with fail; clear c0 c1 c2 c3; refine quiet_start (wo.heap.size + 1) (by kernel_rfl) (by kernel_rfl) ?_; (repeat (go_big_quiet_step ((go_at_call 62; exact later_call (by simp) (caBox_is b _ hbs hB))))); refine wpQuiet_nil ?_; rintro wx ⟨⟨wy, hn⟩, rfl⟩; (try dsimp only); clear q0 q1 q2 q3; (try clear q4); have hX2 := hX.below hn (by omega); replace hba := hba.trans (hn.mono (by omega))
          clear hX e3 ew e0 en
          have htk2 := RBxs.below htk (hn.mono (by omega))
          have htl := htk2.len
          have HTL := Lib.hid htl
          clear hn htk htl
          go_wp2_with fail
          go_loopw [36] (fun u wr => ∃ j : Nat, j ≤ k ∧ u = .int .i64 j ∧ takB b.line b.column ((ms.take k).drop j) = takB b.line b.column (ms.take k) ∧ Below wx.heap.size wx wr) (fun u _ => k - (intOf u).toNat)
          case atStart => exact ⟨0, Nat.zero_le _, rfl, rfl, Below.refl _ _⟩
          case round =>
            obtain ⟨j, hj, rfl, hT, hbi⟩ := hrel
            have hbz2 := hba.size
            have hXi := hX2.below hbi hX2.lt
            have p0 : _ = some (.string b.code : Value) := hXi.cell 0
            have p1 : _ = some (.int .i64 b.line : Value) := hXi.cell 1
            have p2 : _ = some (.int .i64 b.column : Value) := hXi.cell 2
            have p3 : _ = some (.int .i64 b.count : Value) := hXi.cell 3
            have hwl := hXi.lt
            by_cases hjk : j < k
            · obtain ⟨b3, o3, x, eB, _, hd, _, f0, f1, f2, f3⟩ := RBxs.at_ (RBxs.below htk2 (hbi.mono hbz2)) hjk
              injection eB with eB
              injection eB with e1 e2
              subst e1 e2
              have HT := Lib.hid (show ((decide (x.line = b.line) && decide (x.column = b.column)) || takB b.line b.column ((ms.take k).drop (j + 1))) = takB b.line b.column (ms.take k) by rw [← hT, hd, takB])
              clear hd hT
              have hjc : j < cp := by omega
              replace hbi := hbi.alloc hbi.size (.cells #[.string x.code, .int .i64 x.line, .int .i64 x.column, .int .i64 x.count] 71)
              have p1' : (wr.alloc (.cells #[.string x.code, .int .i64 x.line, .int .i64 x.column, .int .i64 x.count] 71)).cell? ⟨wo.heap.size, 1, none⟩ = some (.int .i64 b.line) := (World.cell?_alloc_lt _ _ _ hwl).trans p1
              have p2' : (wr.alloc (.cells #[.string x.code, .int .i64 x.line, .int .i64 x.column, .int .i64 x.count] 71)).cell? ⟨wo.heap.size, 2, none⟩ = some (.int .i64 b.column) := (World.cell?_alloc_lt _ _ _ hwl).trans p2
              by_cases h1 : x.line = b.line
              · have e1 : (x.line == b.line) = true := by simp [h1]
                have H1 := Lib.hid h1; clear h1
                by_cases h2 : x.column = b.column
                · have e2 : (x.column == b.column) = true := by simp [h2]
                  have H2 := Lib.hid h2; clear h2
                  go_wp2_with fail
                  go_ret
                  have h9 := HT.out
                  simp only [H1.out, H2.out, decide_true, Bool.and_self, Bool.true_or] at h9
                  exact ⟨ret_bool (by rw [caseB, HL.out, ← HR.out, HG.out, ← h9]; rfl), hba.trans (hbi.mono hbz2)⟩
                · have e2 : (x.column == b.column) = false := by simp [h2]
                  have H2 := Lib.hid h2; clear h2
                  go_wp2_with fail
                  go_roundw
                  case rel =>
                    have h9 := HT.out
                    rw [show decide (x.column = b.column) = false by simpa using H2.out, Bool.and_false, Bool.false_or] at h9
                    exact ⟨j + 1, by omega, by go_num, h9, hbi⟩
                  case measure => simp [intOf]; omega
              · have e1 : (x.line == b.line) = false := by simp [h1]
                have H1 := Lib.hid h1; clear h1
                go_wp2_with fail
                go_roundw
                case rel =>
                  have h9 := HT.out
                  rw [show decide (x.line = b.line) = false by simpa using H1.out, Bool.false_and, Bool.false_or] at h9
                  exact ⟨j + 1, by omega, by go_num, h9, hbi⟩
                case measure => simp [intOf]; omega
            · have HT := Lib.hid (show takB b.line b.column (ms.take k) = false by rw [← hT, drop_end HTL.out hjk]; rfl)
              clear hT p0 p1 p2 p3
              go_wp2_with fail
              go_roundw
              case rel => exact ⟨k + 1, by omega, by go_num, by rw [← HR.out, HG.out, HT.out]; rfl, hba.trans (hbi.mono hbz2)⟩
              case measure => simp [intOf]; omega
    · have HR := Lib.hid (show goodF ms n 0 = true by rw [← hR, show n - k = 0 by omega]; rfl)
      clear hR
      go_wp2_with (go_at_call 39; refine (in_any _ _ _ _).mono ?_; rintro e1 w1 ⟨rfl, rfl⟩)
      go_ret
      exact ⟨ret_bool (by rw [caseB, HL.out, HR.out, Bool.true_and]), hb⟩
end Go.Proofs.Ytfdmenhnejfhjaa
