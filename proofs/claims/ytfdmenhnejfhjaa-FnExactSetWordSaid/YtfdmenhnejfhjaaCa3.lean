/-
  Contracts: a case of boxes is one.
-/
import Derived.Test.YtfdmenhnejfhjaaCa2
import Derived.Test.YtfdmenhnejfhjaaQuiet
namespace Go.Proofs.Ytfdmenhnejfhjaa
open Go.RowKit

set_option maxRecDepth 100000 in
set_option maxHeartbeats 4000000 in
theorem isCase_any {A : Option Addr} {n cp : Nat} {ms : List Bx} {w : World} (hr : RBxs w w.heap.size A n ms) (hn0 : n ≤ 1048576) (hcp : n ≤ cp) (hL : ∀ b ∈ ms, b.code.size ≤ 1048576) :
    Calls Try.prog 59 #[.slice A n cp] w fun e w' => e = .returned (.bool (caseB ms)) ∧ Below w.heap.size w w' := by
  have HL := Lib.hid hr.len
  have HX := Lib.hid hL
  clear hL
  go_enter Try.func59, Try.ntmps59
  go_wp2_with fail
  go_loopw [7] (fun u wr => ∃ k : Nat, k ≤ n ∧ u = .int .i64 k ∧ goodF ms (n - k) k = goodF ms n 0 ∧ Below w.heap.size w wr) (fun u _ => n - (intOf u).toNat)
  case atStart => exact ⟨0, Nat.zero_le _, rfl, rfl, Below.refl _ _⟩
  case round =>
    obtain ⟨k, hk, rfl, hR, hb⟩ := hrel
    by_cases hlt : k < n
    · obtain ⟨bb, off, b, rfl, hbb, _, hy, c0, c1, c2, c3⟩ := RBxs.at_ (hr.below hb) hlt
      have hbs := HX.out b (List.mem_of_getElem? hy)
      have HR := Lib.hid (show (goodK ms k b && goodF ms (n - (k + 1)) (k + 1)) = goodF ms n 0 by rw [← hR, goodF_step hlt hy])
      have hX := Blk.new' wr 71 #[.string b.code, .int .i64 b.line, .int .i64 b.column, .int .i64 b.count]
      have hba := hb.alloc hb.size (.cells #[.string b.code, .int .i64 b.line, .int .i64 b.column, .int .i64 b.count] 71)
      have htk := RBxs_take (k := k) ((RRow.alloc (hr.below hb) hb.size (.cells #[.string b.code, .int .i64 b.line, .int .i64 b.column, .int .i64 b.count] 71))) (by omega)
      have hbz := hb.size
      clear hR hy
      have hkc : k ≤ cp := by omega
      cases hB : boxB b
      · have q0 : ∀ x : Later (wr.heap.size + 1) (wr.alloc (.cells #[.string b.code, .int .i64 b.line, .int .i64 b.column, .int .i64 b.count] 71)), x.wx.cell? ⟨wr.heap.size, 0, none⟩ = some (.string b.code) := fun x => x.cell (by omega) (hX.cell 0); have q1 : ∀ x : Later (wr.heap.size + 1) (wr.alloc (.cells #[.string b.code, .int .i64 b.line, .int .i64 b.column, .int .i64 b.count] 71)), x.wx.cell? ⟨wr.heap.size, 1, none⟩ = some (.int .i64 b.line) := fun x => x.cell (by omega) (hX.cell 1); have q2 : ∀ x : Later (wr.heap.size + 1) (wr.alloc (.cells #[.string b.code, .int .i64 b.line, .int .i64 b.column, .int .i64 b.count] 71)), x.wx.cell? ⟨wr.heap.size, 2, none⟩ = some (.int .i64 b.column) := fun x => x.cell (by omega) (hX.cell 2); have q3 : ∀ x : Later (wr.heap.size + 1) (wr.alloc (.cells #[.string b.code, .int .i64 b.line, .int .i64 b.column, .int .i64 b.count] 71)), x.wx.cell? ⟨wr.heap.size, 3, none⟩ = some (.int .i64 b.count) := fun x => x.cell (by omega) (hX.cell 3)
        have HG := Lib.hid (show goodK ms k b = false by rw [goodK, hB]; rfl)
        clear hX
        go_wp2_with fail; clear c0 c1 c2 c3; refine quiet_start (wr.heap.size + 1) (by kernel_rfl) (by kernel_rfl) ?_; (repeat (go_big_quiet_step ((go_at_call 63; exact later_call (by simp) (isBox_is b _ hbs hB))))); refine wpQuiet_nil ?_; rintro wx ⟨⟨wy, hn⟩, rfl⟩; (try dsimp only); clear q0 q1 q2 q3; (try clear q4); replace hba := hba.trans (hn.mono (by omega)); clear hn
        go_wp2_with fail
        go_ret
        exact ⟨ret_bool (by rw [caseB, HL.out, ← HR.out, HG.out]; rfl), hba⟩
      by_cases hk0 : k = 0
      · subst hk0
        simp only [Nat.zero_mul, Nat.add_zero] at c0 c1 c2 c3
        cases hT : takB b.line b.column (ms.take 0)
        · have q0 : ∀ x : Later (wr.heap.size + 1) (wr.alloc (.cells #[.string b.code, .int .i64 b.line, .int .i64 b.column, .int .i64 b.count] 71)), x.wx.cell? ⟨wr.heap.size, 0, none⟩ = some (.string b.code) := fun x => x.cell (by omega) (hX.cell 0); have q1 : ∀ x : Later (wr.heap.size + 1) (wr.alloc (.cells #[.string b.code, .int .i64 b.line, .int .i64 b.column, .int .i64 b.count] 71)), x.wx.cell? ⟨wr.heap.size, 1, none⟩ = some (.int .i64 b.line) := fun x => x.cell (by omega) (hX.cell 1); have q2 : ∀ x : Later (wr.heap.size + 1) (wr.alloc (.cells #[.string b.code, .int .i64 b.line, .int .i64 b.column, .int .i64 b.count] 71)), x.wx.cell? ⟨wr.heap.size, 2, none⟩ = some (.int .i64 b.column) := fun x => x.cell (by omega) (hX.cell 2); have q3 : ∀ x : Later (wr.heap.size + 1) (wr.alloc (.cells #[.string b.code, .int .i64 b.line, .int .i64 b.column, .int .i64 b.count] 71)), x.wx.cell? ⟨wr.heap.size, 3, none⟩ = some (.int .i64 b.count) := fun x => x.cell (by omega) (hX.cell 3)
          have HG := Lib.hid (show goodK ms 0 b = true by rw [goodK, hB, hT]; rfl)
          clear hX
          go_wp2_with fail; clear c0 c1 c2 c3; refine quiet_start (wr.heap.size + 1) (by kernel_rfl) (by kernel_rfl) ?_; (repeat (go_big_quiet_step ((first | (go_at_call 63; exact later_call (by simp) (isBox_is b _ hbs hB)) | (go_at_call 64; rename_i x; exact later_call (by simp) (isTaken_is ((RBxs.below htk (x.ok.mono (by omega))).more (by have := x.ok.size; simp at this; omega)) (by omega) hT)))))); refine wpQuiet_nil ?_; rintro wx ⟨⟨wy, hn⟩, rfl⟩; (try dsimp only); clear q0 q1 q2 q3; (try clear q4); replace hba := hba.trans (hn.mono (by omega)); clear hn
          go_wp2_with fail
          go_roundw
          case rel => exact ⟨1, by omega, by go_num, by rw [← HR.out, HG.out, Bool.true_and], hba⟩
          case measure => simp [intOf]; omega
        · simp [takB] at hT
      · obtain ⟨b2, o2, p, eA, _, _, hyp, d0, _⟩ := RBxs.at_ (hr.below hb) (k := k - 1) (by omega)
        injection eA with eA
        injection eA with e1 e2
        subst e1 e2
        have HO := Lib.hid (show ordK ms k b = lessS p.code b.code by
          obtain ⟨j, rfl⟩ : ∃ j, k = j + 1 := ⟨k - 1, by omega⟩
          rw [ordK, show j = j + 1 - 1 by omega, hyp]; rfl)
        have kp : 0 < k := by omega
        have kp2 : (0 : Int) < (k : Int) := by omega
        clear hyp
        cases hO : lessS p.code b.code
        · have q0 : ∀ x : Later (wr.heap.size + 1) (wr.alloc (.cells #[.string b.code, .int .i64 b.line, .int .i64 b.column, .int .i64 b.count] 71)), x.wx.cell? ⟨wr.heap.size, 0, none⟩ = some (.string b.code) := fun x => x.cell (by omega) (hX.cell 0); have q1 : ∀ x : Later (wr.heap.size + 1) (wr.alloc (.cells #[.string b.code, .int .i64 b.line, .int .i64 b.column, .int .i64 b.count] 71)), x.wx.cell? ⟨wr.heap.size, 1, none⟩ = some (.int .i64 b.line) := fun x => x.cell (by omega) (hX.cell 1); have q2 : ∀ x : Later (wr.heap.size + 1) (wr.alloc (.cells #[.string b.code, .int .i64 b.line, .int .i64 b.column, .int .i64 b.count] 71)), x.wx.cell? ⟨wr.heap.size, 2, none⟩ = some (.int .i64 b.column) := fun x => x.cell (by omega) (hX.cell 2); have q3 : ∀ x : Later (wr.heap.size + 1) (wr.alloc (.cells #[.string b.code, .int .i64 b.line, .int .i64 b.column, .int .i64 b.count] 71)), x.wx.cell? ⟨wr.heap.size, 3, none⟩ = some (.int .i64 b.count) := fun x => x.cell (by omega) (hX.cell 3); have q4 : ∀ x : Later (wr.heap.size + 1) (wr.alloc (.cells #[.string b.code, .int .i64 b.line, .int .i64 b.column, .int .i64 b.count] 71)), x.wx.cell? ⟨bb, off + (k - 1) * 4, none⟩ = some (.string p.code) := fun x => x.cell (by omega) ((World.cell?_alloc_lt wr _ _ (by simp; omega)).trans d0)
          have HG := Lib.hid (show goodK ms k b = false by rw [goodK, HO.out, hO]; simp)
          have e3 : (Go.Op.bytesLess p.code.toList b.code.toList) = false := hO
          have ew : IntKind.i64.wrap ((k : Int) - 1) = (k : Int) - 1 := wrapI (by omega) (by omega)
          have e0 : 0 ≤ (k : Int) - 1 := by omega
          have en : ((k : Int) - 1).toNat = k - 1 := by omega
          clear hX d0
          go_wp2_with fail; clear c0 c1 c2 c3; refine quiet_start (wr.heap.size + 1) (by kernel_rfl) (by kernel_rfl) ?_; (repeat (go_big_quiet_step ((go_at_call 63; exact later_call (by simp) (isBox_is b _ hbs hB))))); refine wpQuiet_nil ?_; rintro wx ⟨⟨wy, hn⟩, rfl⟩; (try dsimp only); clear q0 q1 q2 q3; (try clear q4); replace hba := hba.trans (hn.mono (by omega)); clear hn
          go_wp2_with fail
          go_ret
          exact ⟨ret_bool (by rw [caseB, HL.out, ← HR.out, HG.out]; rfl), hba⟩
        · have e3 : (Go.Op.bytesLess p.code.toList b.code.toList) = true := hO
          have ew : IntKind.i64.wrap ((k : Int) - 1) = (k : Int) - 1 := wrapI (by omega) (by omega)
          have e0 : 0 ≤ (k : Int) - 1 := by omega
          have en : ((k : Int) - 1).toNat = k - 1 := by omega
          have q0 : ∀ x : Later (wr.heap.size + 1) (wr.alloc (.cells #[.string b.code, .int .i64 b.line, .int .i64 b.column, .int .i64 b.count] 71)), x.wx.cell? ⟨wr.heap.size, 0, none⟩ = some (.string b.code) := fun x => x.cell (by omega) (hX.cell 0); have q1 : ∀ x : Later (wr.heap.size + 1) (wr.alloc (.cells #[.string b.code, .int .i64 b.line, .int .i64 b.column, .int .i64 b.count] 71)), x.wx.cell? ⟨wr.heap.size, 1, none⟩ = some (.int .i64 b.line) := fun x => x.cell (by omega) (hX.cell 1); have q2 : ∀ x : Later (wr.heap.size + 1) (wr.alloc (.cells #[.string b.code, .int .i64 b.line, .int .i64 b.column, .int .i64 b.count] 71)), x.wx.cell? ⟨wr.heap.size, 2, none⟩ = some (.int .i64 b.column) := fun x => x.cell (by omega) (hX.cell 2); have q3 : ∀ x : Later (wr.heap.size + 1) (wr.alloc (.cells #[.string b.code, .int .i64 b.line, .int .i64 b.column, .int .i64 b.count] 71)), x.wx.cell? ⟨wr.heap.size, 3, none⟩ = some (.int .i64 b.count) := fun x => x.cell (by omega) (hX.cell 3); have q4 : ∀ x : Later (wr.heap.size + 1) (wr.alloc (.cells #[.string b.code, .int .i64 b.line, .int .i64 b.column, .int .i64 b.count] 71)), x.wx.cell? ⟨bb, off + (k - 1) * 4, none⟩ = some (.string p.code) := fun x => x.cell (by omega) ((World.cell?_alloc_lt wr _ _ (by simp; omega)).trans d0)
          clear d0
          cases hT : takB b.line b.column (ms.take k)
          · have HG := Lib.hid (show goodK ms k b = true by rw [goodK, HO.out, hO, hB, hT]; rfl)
            clear hX
            go_wp2_with fail; clear c0 c1 c2 c3; refine quiet_start (wr.heap.size + 1) (by kernel_rfl) (by kernel_rfl) ?_; (repeat (go_big_quiet_step ((first | (go_at_call 63; exact later_call (by simp) (isBox_is b _ hbs hB)) | (go_at_call 64; rename_i x; exact later_call (by simp) (isTaken_is ((RBxs.below htk (x.ok.mono (by omega))).more (by have := x.ok.size; simp at this; omega)) (by omega) hT)))))); refine wpQuiet_nil ?_; rintro wx ⟨⟨wy, hn⟩, rfl⟩; (try dsimp only); clear q0 q1 q2 q3; (try clear q4); replace hba := hba.trans (hn.mono (by omega)); clear hn
            go_wp2_with fail
            go_roundw
            case rel => exact ⟨k + 1, by omega, by go_num, by rw [← HR.out, HG.out, Bool.true_and], hba⟩
            case measure => simp [intOf]; omega
          · have HG := Lib.hid (show goodK ms k b = false by rw [goodK, HO.out, hO, hB, hT]; rfl)
            clear hX
            go_wp2_with fail; clear c0 c1 c2 c3; refine quiet_start (wr.heap.size + 1) (by kernel_rfl) (by kernel_rfl) ?_; (repeat (go_big_quiet_step ((first | (go_at_call 63; exact later_call (by simp) (isBox_is b _ hbs hB)) | (go_at_call 64; rename_i x; exact later_call (by simp) (isTaken_is ((RBxs.below htk (x.ok.mono (by omega))).more (by have := x.ok.size; simp at this; omega)) (by omega) hT)))))); refine wpQuiet_nil ?_; rintro wx ⟨⟨wy, hn⟩, rfl⟩; (try dsimp only); clear q0 q1 q2 q3; (try clear q4); replace hba := hba.trans (hn.mono (by omega)); clear hn
            go_wp2_with fail
            go_ret
            exact ⟨ret_bool (by rw [caseB, HL.out, ← HR.out, HG.out]; rfl), hba⟩
    · have HR := Lib.hid (show goodF ms n 0 = true by rw [← hR, show n - k = 0 by omega]; rfl)
      clear hR
      go_wp2_with (go_at_call 47; refine (within_any _ _ _ _).mono ?_; rintro e1 w1 ⟨rfl, rfl⟩)
      go_ret
      exact ⟨ret_bool (by rw [caseB, HL.out, HR.out, Bool.true_and]), hb⟩
end Go.Proofs.Ytfdmenhnejfhjaa
