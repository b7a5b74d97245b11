/-
  Contracts: a font is one.
-/
import Derived.Test.YtfdmenhnejfhjaaFo1
import Derived.Test.YtfdmenhnejfhjaaQuiet
namespace Go.Proofs.Ytfdmenhnejfhjaa
open Go.RowKit
/-- The sort in place k is good behind the sorts before it. -/
def ordT (ms : List Srt) (k : Nat) (b : Srt) : Bool := match k with | 0 => true | j + 1 => lessS2 ((ms[j]?).getD ⟨⟨#[]⟩, 0⟩).code b.code
def fontK (ms : List Srt) (k : Nat) (b : Srt) : Bool := sortB b && ordT ms k b
def fontF (ms : List Srt) : Nat → Nat → Bool
  | 0, _ => true
  | f + 1, k => fontK ms k ((ms[k]?).getD ⟨⟨#[]⟩, 0⟩) && fontF ms f (k + 1)
def fontB (ms : List Srt) : Bool := fontF ms ms.length 0 && inB ms.length 1 32
theorem fontF_step {ms : List Srt} {n k : Nat} {b : Srt} (h : k < n) (hb : ms[k]? = some b) : fontF ms (n - k) k = (fontK ms k b && fontF ms (n - (k + 1)) (k + 1)) := by
  rw [show n - k = (n - (k + 1)) + 1 by omega, fontF, hb]; rfl
theorem fontF_mem {ms : List Srt} : ∀ (f k : Nat), fontF ms f k = true → ∀ (j : Nat) (b : Srt), k ≤ j → j < k + f → ms[j]? = some b → sortB b = true
  | 0, _, _, j, b, h1, h2, _ => by omega
  | f + 1, k, h, j, b, h1, h2, h3 => by
    rw [fontF, Bool.and_eq_true] at h
    by_cases e : j = k
    · subst e
      rw [h3] at h
      have := h.1
      rw [fontK, Bool.and_eq_true] at this
      exact this.1
    · exact fontF_mem f (k + 1) h.2 j b (by omega) (by omega) h3
theorem fontB_true {ms : List Srt} (h : fontB ms = true) : (1 ≤ ms.length ∧ ms.length ≤ 32) ∧ ∀ b ∈ ms, sortB b = true := by
  rw [fontB, Bool.and_eq_true] at h
  refine ⟨by have := inB_true.1 h.2; omega, fun b hb => ?_⟩
  obtain ⟨j, hj, e⟩ := List.mem_iff_getElem.1 hb
  exact fontF_mem _ _ h.1 j b (by omega) (by omega) (by rw [List.getElem?_eq_getElem hj, e])
theorem sortB_true {b : Srt} (h : sortB b = true) : letB b.code 1 3 = true ∧ (1 ≤ b.set_ ∧ b.set_ ≤ 54) := by
  simp only [sortB, Bool.and_eq_true] at h
  exact ⟨h.1, inB_true.1 h.2⟩
--DEF aSimpl.IsSort (go_at_call 46; exact later_call (by simp) (isSort_is b _ hbs hB))
set_option maxRecDepth 100000 in
set_option maxHeartbeats 2000000 in
theorem isFont_any {A : Option Addr} {n cp : Nat} {ms : List Srt} {w : World} (hr : RSrts w w.heap.size A n ms) (hn0 : n ≤ 1048576) (hL : ∀ b ∈ ms, b.code.size ≤ 1048576) :
    Calls Try.prog 25 #[.slice A n cp] w fun e w' => e = .returned (.bool (fontB ms)) ∧ Below w.heap.size w w' := by
  have HL := Lib.hid hr.len
  have HX := Lib.hid hL
  clear hL
  go_enter Try.func25, Try.ntmps25
  go_wp2_with fail
  go_loopw [7] (fun u wr => ∃ k : Nat, k ≤ n ∧ u = .int .i64 k ∧ fontF ms (n - k) k = fontF ms n 0 ∧ Below w.heap.size w wr) (fun u _ => n - (intOf u).toNat)
  case atStart => exact ⟨0, Nat.zero_le _, rfl, rfl, Below.refl _ _⟩
  case round =>
    obtain ⟨k, hk, rfl, hR, hb⟩ := hrel
    by_cases hlt : k < n
    · obtain ⟨bb, off, b, rfl, hbb, _, hy, c0, c1⟩ := RSrts.at_ (hr.below hb) hlt
      have hbs := HX.out b (List.mem_of_getElem? hy)
      have HR := Lib.hid (show (fontK ms k b && fontF ms (n - (k + 1)) (k + 1)) = fontF ms n 0 by rw [← hR, fontF_step hlt hy])
      have hX := Blk.new' wr 50 #[.string b.code, .int .i64 b.set_]
      have hba := hb.alloc hb.size (.cells #[.string b.code, .int .i64 b.set_] 50)
      have hbz := hb.size
      clear hR hy
      cases hB : sortB b
      · have q0 : ∀ x : Later (wr.heap.size + 1) (wr.alloc (.cells #[.string b.code, .int .i64 b.set_] 50)), x.wx.cell? ⟨wr.heap.size, 0, none⟩ = some (.string b.code) := fun x => x.cell (by omega) (hX.cell 0); have q1 : ∀ x : Later (wr.heap.size + 1) (wr.alloc (.cells #[.string b.code, .int .i64 b.set_] 50)), x.wx.cell? ⟨wr.heap.size, 1, none⟩ = some (.int .i64 b.set_) := fun x => x.cell (by omega) (hX.cell 1)
        have HG := Lib.hid (show fontK ms k b = false by rw [fontK, hB]; rfl)
        clear hX
        go_wp2_with fail; clear c0 c1; refine quiet_start (wr.heap.size + 1) (by kernel_rfl) (by kernel_rfl) ?_; (repeat (go_big_quiet_step ((go_at_call 46; exact later_call (by simp) (isSort_is b _ hbs hB))))); refine wpQuiet_nil ?_; rintro wx ⟨⟨wy, hn⟩, rfl⟩; (try dsimp only); clear q0 q1; (try clear q4); replace hba := hba.trans (hn.mono (by omega)); clear hn
        go_wp2_with fail
        go_ret
        exact ⟨ret_bool (by rw [fontB, HL.out, ← HR.out, HG.out]; rfl), hba⟩
      by_cases hk0 : k = 0
      · subst hk0
        simp only [Nat.zero_mul, Nat.add_zero] at c0 c1
        have q0 : ∀ x : Later (wr.heap.size + 1) (wr.alloc (.cells #[.string b.code, .int .i64 b.set_] 50)), x.wx.cell? ⟨wr.heap.size, 0, none⟩ = some (.string b.code) := fun x => x.cell (by omega) (hX.cell 0); have q1 : ∀ x : Later (wr.heap.size + 1) (wr.alloc (.cells #[.string b.code, .int .i64 b.set_] 50)), x.wx.cell? ⟨wr.heap.size, 1, none⟩ = some (.int .i64 b.set_) := fun x => x.cell (by omega) (hX.cell 1)
        have HG := Lib.hid (show fontK ms 0 b = true by rw [fontK, hB]; rfl)
        clear hX
        go_wp2_with fail; clear c0 c1; refine quiet_start (wr.heap.size + 1) (by kernel_rfl) (by kernel_rfl) ?_; (repeat (go_big_quiet_step ((go_at_call 46; exact later_call (by simp) (isSort_is b _ hbs hB))))); refine wpQuiet_nil ?_; rintro wx ⟨⟨wy, hn⟩, rfl⟩; (try dsimp only); clear q0 q1; (try clear q4); replace hba := hba.trans (hn.mono (by omega)); clear hn
        go_wp2_with fail
        go_roundw
        case rel => exact ⟨1, by omega, by go_num, by rw [← HR.out, HG.out, Bool.true_and], hba⟩
        case measure => simp [intOf]; omega
      · obtain ⟨b2, o2, p, eA, _, _, hyp, d0, _⟩ := RSrts.at_ (hr.below hb) (k := k - 1) (by omega)
        injection eA with eA
        injection eA with e1 e2
        subst e1 e2
        have HO := Lib.hid (show ordT ms k b = lessS2 p.code b.code by
          obtain ⟨j, rfl⟩ : ∃ j, k = j + 1 := ⟨k - 1, by omega⟩
          rw [ordT, show j = j + 1 - 1 by omega, hyp]; rfl)
        have kp : 0 < k := by omega
        have kp2 : (0 : Int) < (k : Int) := by omega
        clear hyp
        have ew : IntKind.i64.wrap ((k : Int) - 1) = (k : Int) - 1 := wrapI (by omega) (by omega)
        have e0 : 0 ≤ (k : Int) - 1 := by omega
        have en : ((k : Int) - 1).toNat = k - 1 := by omega
        cases hO : lessS2 p.code b.code
        · have q0 : ∀ x : Later (wr.heap.size + 1) (wr.alloc (.cells #[.string b.code, .int .i64 b.set_] 50)), x.wx.cell? ⟨wr.heap.size, 0, none⟩ = some (.string b.code) := fun x => x.cell (by omega) (hX.cell 0); have q1 : ∀ x : Later (wr.heap.size + 1) (wr.alloc (.cells #[.string b.code, .int .i64 b.set_] 50)), x.wx.cell? ⟨wr.heap.size, 1, none⟩ = some (.int .i64 b.set_) := fun x => x.cell (by omega) (hX.cell 1); have q4 : ∀ x : Later (wr.heap.size + 1) (wr.alloc (.cells #[.string b.code, .int .i64 b.set_] 50)), x.wx.cell? ⟨bb, off + (k - 1) * 2, none⟩ = some (.string p.code) := fun x => x.cell (by omega) ((World.cell?_alloc_lt wr _ _ (by simp; omega)).trans d0)
          have HG := Lib.hid (show fontK ms k b = false by rw [fontK, HO.out, hO]; simp)
          have e3 : (Go.Op.bytesLess p.code.toList b.code.toList) = false := hO
          clear hX d0
          go_wp2_with fail; clear c0 c1; refine quiet_start (wr.heap.size + 1) (by kernel_rfl) (by kernel_rfl) ?_; (repeat (go_big_quiet_step ((go_at_call 46; exact later_call (by simp) (isSort_is b _ hbs hB))))); refine wpQuiet_nil ?_; rintro wx ⟨⟨wy, hn⟩, rfl⟩; (try dsimp only); clear q0 q1; (try clear q4); replace hba := hba.trans (hn.mono (by omega)); clear hn
          go_wp2_with fail
          go_ret
          exact ⟨ret_bool (by rw [fontB, HL.out, ← HR.out, HG.out]; rfl), hba⟩
        · have e3 : (Go.Op.bytesLess p.code.toList b.code.toList) = true := hO
          have q0 : ∀ x : Later (wr.heap.size + 1) (wr.alloc (.cells #[.string b.code, .int .i64 b.set_] 50)), x.wx.cell? ⟨wr.heap.size, 0, none⟩ = some (.string b.code) := fun x => x.cell (by omega) (hX.cell 0); have q1 : ∀ x : Later (wr.heap.size + 1) (wr.alloc (.cells #[.string b.code, .int .i64 b.set_] 50)), x.wx.cell? ⟨wr.heap.size, 1, none⟩ = some (.int .i64 b.set_) := fun x => x.cell (by omega) (hX.cell 1); have q4 : ∀ x : Later (wr.heap.size + 1) (wr.alloc (.cells #[.string b.code, .int .i64 b.set_] 50)), x.wx.cell? ⟨bb, off + (k - 1) * 2, none⟩ = some (.string p.code) := fun x => x.cell (by omega) ((World.cell?_alloc_lt wr _ _ (by simp; omega)).trans d0)
          have HG := Lib.hid (show fontK ms k b = true by rw [fontK, HO.out, hO, hB]; rfl)
          clear hX d0
          go_wp2_with fail; clear c0 c1; refine quiet_start (wr.heap.size + 1) (by kernel_rfl) (by kernel_rfl) ?_; (repeat (go_big_quiet_step ((go_at_call 46; exact later_call (by simp) (isSort_is b _ hbs hB))))); refine wpQuiet_nil ?_; rintro wx ⟨⟨wy, hn⟩, rfl⟩; (try dsimp only); clear q0 q1; (try clear q4); replace hba := hba.trans (hn.mono (by omega)); clear hn
          go_wp2_with fail
          go_roundw
          case rel => exact ⟨k + 1, by omega, by go_num, by rw [← HR.out, HG.out, Bool.true_and], hba⟩
          case measure => simp [intOf]; omega
    · have HR := Lib.hid (show fontF ms n 0 = true by rw [← hR, show n - k = 0 by omega]; rfl)
      clear hR
      go_wp2_with (go_at_call 47; refine (within_any _ _ _ _).mono ?_; rintro e1 w1 ⟨rfl, rfl⟩)
      go_ret
      exact ⟨ret_bool (by rw [fontB, HL.out, HR.out, Bool.true_and]), hb⟩
--DEF aSspec.tySort (go_at_call 38; exact later_call (by simp) (tySort_is b _ hbs hB))
set_option maxRecDepth 100000 in
set_option maxHeartbeats 2000000 in
theorem tyFont_any {A : Option Addr} {n cp : Nat} {ms : List Srt} {w : World} (hr : RSrts w w.heap.size A n ms) (hn0 : n ≤ 1048576) (hL : ∀ b ∈ ms, b.code.size ≤ 1048576) :
    Calls Try.prog 18 #[.slice A n cp] w fun e w' => e = .returned (.bool (fontB ms)) ∧ Below w.heap.size w w' := by
  have HL := Lib.hid hr.len
  have HX := Lib.hid hL
  clear hL
  go_enter Try.func18, Try.ntmps18
  go_wp2_with fail
  go_loopw [7] (fun u wr => ∃ k : Nat, k ≤ n ∧ u = .int .i64 k ∧ fontF ms (n - k) k = fontF ms n 0 ∧ Below w.heap.size w wr) (fun u _ => n - (intOf u).toNat)
  case atStart => exact ⟨0, Nat.zero_le _, rfl, rfl, Below.refl _ _⟩
  case round =>
    obtain ⟨k, hk, rfl, hR, hb⟩ := hrel
    by_cases hlt : k < n
    · obtain ⟨bb, off, b, rfl, hbb, _, hy, c0, c1⟩ := RSrts.at_ (hr.below hb) hlt
      have hbs := HX.out b (List.mem_of_getElem? hy)
      have HR := Lib.hid (show (fontK ms k b && fontF ms (n - (k + 1)) (k + 1)) = fontF ms n 0 by rw [← hR, fontF_step hlt hy])
      have hX := Blk.new' wr 50 #[.string b.code, .int .i64 b.set_]
      have hba := hb.alloc hb.size (.cells #[.string b.code, .int .i64 b.set_] 50)
      have hbz := hb.size
      clear hR hy
      cases hB : sortB b
      · have q0 : ∀ x : Later (wr.heap.size + 1) (wr.alloc (.cells #[.string b.code, .int .i64 b.set_] 50)), x.wx.cell? ⟨wr.heap.size, 0, none⟩ = some (.string b.code) := fun x => x.cell (by omega) (hX.cell 0); have q1 : ∀ x : Later (wr.heap.size + 1) (wr.alloc (.cells #[.string b.code, .int .i64 b.set_] 50)), x.wx.cell? ⟨wr.heap.size, 1, none⟩ = some (.int .i64 b.set_) := fun x => x.cell (by omega) (hX.cell 1)
        have HG := Lib.hid (show fontK ms k b = false by rw [fontK, hB]; rfl)
        clear hX
        go_wp2_with fail; clear c0 c1; refine quiet_start (wr.heap.size + 1) (by kernel_rfl) (by kernel_rfl) ?_; (repeat (go_big_quiet_step ((go_at_call 38; exact later_call (by simp) (tySort_is b _ hbs hB))))); refine wpQuiet_nil ?_; rintro wx ⟨⟨wy, hn⟩, rfl⟩; (try dsimp only); clear q0 q1; (try clear q4); replace hba := hba.trans (hn.mono (by omega)); clear hn
        go_wp2_with fail
        go_ret
        exact ⟨ret_bool (by rw [fontB, HL.out, ← HR.out, HG.out]; rfl), hba⟩
      by_cases hk0 : k = 0
      · subst hk0
        simp only [Nat.zero_mul, Nat.add_zero] at c0 c1
        have q0 : ∀ x : Later (wr.heap.size + 1) (wr.alloc (.cells #[.string b.code, .int .i64 b.set_] 50)), x.wx.cell? ⟨wr.heap.size, 0, none⟩ = some (.string b.code) := fun x => x.cell (by omega) (hX.cell 0); have q1 : ∀ x : Later (wr.heap.size + 1) (wr.alloc (.cells #[.string b.code, .int .i64 b.set_] 50)), x.wx.cell? ⟨wr.heap.size, 1, none⟩ = some (.int .i64 b.set_) := fun x => x.cell (by omega) (hX.cell 1)
        have HG := Lib.hid (show fontK ms 0 b = true by rw [fontK, hB]; rfl)
        clear hX
        go_wp2_with fail; clear c0 c1; refine quiet_start (wr.heap.size + 1) (by kernel_rfl) (by kernel_rfl) ?_; (repeat (go_big_quiet_step ((go_at_call 38; exact later_call (by simp) (tySort_is b _ hbs hB))))); refine wpQuiet_nil ?_; rintro wx ⟨⟨wy, hn⟩, rfl⟩; (try dsimp only); clear q0 q1; (try clear q4); replace hba := hba.trans (hn.mono (by omega)); clear hn
        go_wp2_with fail
        go_roundw
        case rel => exact ⟨1, by omega, by go_num, by rw [← HR.out, HG.out, Bool.true_and], hba⟩
        case measure => simp [intOf]; omega
      · obtain ⟨b2, o2, p, eA, _, _, hyp, d0, _⟩ := RSrts.at_ (hr.below hb) (k := k - 1) (by omega)
        injection eA with eA
        injection eA with e1 e2
        subst e1 e2
        have HO := Lib.hid (show ordT ms k b = lessS2 p.code b.code by
          obtain ⟨j, rfl⟩ : ∃ j, k = j + 1 := ⟨k - 1, by omega⟩
          rw [ordT, show j = j + 1 - 1 by omega, hyp]; rfl)
        have kp : 0 < k := by omega
        have kp2 : (0 : Int) < (k : Int) := by omega
        clear hyp
        have ew : IntKind.i64.wrap ((k : Int) - 1) = (k : Int) - 1 := wrapI (by omega) (by omega)
        have e0 : 0 ≤ (k : Int) - 1 := by omega
        have en : ((k : Int) - 1).toNat = k - 1 := by omega
        cases hO : lessS2 p.code b.code
        · have q0 : ∀ x : Later (wr.heap.size + 1) (wr.alloc (.cells #[.string b.code, .int .i64 b.set_] 50)), x.wx.cell? ⟨wr.heap.size, 0, none⟩ = some (.string b.code) := fun x => x.cell (by omega) (hX.cell 0); have q1 : ∀ x : Later (wr.heap.size + 1) (wr.alloc (.cells #[.string b.code, .int .i64 b.set_] 50)), x.wx.cell? ⟨wr.heap.size, 1, none⟩ = some (.int .i64 b.set_) := fun x => x.cell (by omega) (hX.cell 1); have q4 : ∀ x : Later (wr.heap.size + 1) (wr.alloc (.cells #[.string b.code, .int .i64 b.set_] 50)), x.wx.cell? ⟨bb, off + (k - 1) * 2, none⟩ = some (.string p.code) := fun x => x.cell (by omega) ((World.cell?_alloc_lt wr _ _ (by simp; omega)).trans d0)
          have HG := Lib.hid (show fontK ms k b = false by rw [fontK, HO.out, hO]; simp)
          have e3 : (Go.Op.bytesLess p.code.toList b.code.toList) = false := hO
          clear hX d0
          go_wp2_with fail; clear c0 c1; refine quiet_start (wr.heap.size + 1) (by kernel_rfl) (by kernel_rfl) ?_; (repeat (go_big_quiet_step ((go_at_call 38; exact later_call (by simp) (tySort_is b _ hbs hB))))); refine wpQuiet_nil ?_; rintro wx ⟨⟨wy, hn⟩, rfl⟩; (try dsimp only); clear q0 q1; (try clear q4); replace hba := hba.trans (hn.mono (by omega)); clear hn
          go_wp2_with fail
          go_ret
          exact ⟨ret_bool (by rw [fontB, HL.out, ← HR.out, HG.out]; rfl), hba⟩
        · have e3 : (Go.Op.bytesLess p.code.toList b.code.toList) = true := hO
          have q0 : ∀ x : Later (wr.heap.size + 1) (wr.alloc (.cells #[.string b.code, .int .i64 b.set_] 50)), x.wx.cell? ⟨wr.heap.size, 0, none⟩ = some (.string b.code) := fun x => x.cell (by omega) (hX.cell 0); have q1 : ∀ x : Later (wr.heap.size + 1) (wr.alloc (.cells #[.string b.code, .int .i64 b.set_] 50)), x.wx.cell? ⟨wr.heap.size, 1, none⟩ = some (.int .i64 b.set_) := fun x => x.cell (by omega) (hX.cell 1); have q4 : ∀ x : Later (wr.heap.size + 1) (wr.alloc (.cells #[.string b.code, .int .i64 b.set_] 50)), x.wx.cell? ⟨bb, off + (k - 1) * 2, none⟩ = some (.string p.code) := fun x => x.cell (by omega) ((World.cell?_alloc_lt wr _ _ (by simp; omega)).trans d0)
          have HG := Lib.hid (show fontK ms k b = true by rw [fontK, HO.out, hO, hB]; rfl)
          clear hX d0
          go_wp2_with fail; clear c0 c1; refine quiet_start (wr.heap.size + 1) (by kernel_rfl) (by kernel_rfl) ?_; (repeat (go_big_quiet_step ((go_at_call 38; exact later_call (by simp) (tySort_is b _ hbs hB))))); refine wpQuiet_nil ?_; rintro wx ⟨⟨wy, hn⟩, rfl⟩; (try dsimp only); clear q0 q1; (try clear q4); replace hba := hba.trans (hn.mono (by omega)); clear hn
          go_wp2_with fail
          go_roundw
          case rel => exact ⟨k + 1, by omega, by go_num, by rw [← HR.out, HG.out, Bool.true_and], hba⟩
          case measure => simp [intOf]; omega
    · have HR := Lib.hid (show fontF ms n 0 = true by rw [← hR, show n - k = 0 by omega]; rfl)
      clear hR
      go_wp2_with (go_at_call 39; refine (in_any _ _ _ _).mono ?_; rintro e1 w1 ⟨rfl, rfl⟩)
      go_ret
      exact ⟨ret_bool (by rw [fontB, HL.out, HR.out, Bool.true_and]), hb⟩
end Go.Proofs.Ytfdmenhnejfhjaa
