/-
  Contracts: the number of types in a case; TypesOfSetting.
-/
import Derived.Test.YtjcopempjanhhaaSe1
namespace Go.Proofs.Ytjcopempjanhhaa
open Go.RowKit
def sumB : List Bx → Int
  | [] => 0
  | b :: r => b.count + sumB r
theorem count_bd {ms : List Bx} (h : caseB ms = true) : ∀ b ∈ ms, 0 ≤ b.count ∧ b.count ≤ 9999 := fun b hb => (boxB_true ((caseB_true h).2 b hb)).2.2.2
theorem sumB_bd : ∀ {ms : List Bx}, (∀ b ∈ ms, 0 ≤ b.count ∧ b.count ≤ 9999) → 0 ≤ sumB ms ∧ sumB ms ≤ 9999 * ms.length
  | [], _ => by simp [sumB]
  | b :: r, h => by
    have h1 := h b (by simp)
    have h2 := sumB_bd (ms := r) fun x hx => h x (List.mem_cons_of_mem _ hx)
    rw [sumB, List.length_cons]
    omega
set_option maxRecDepth 100000 in
theorem caSum_any {A : Option Addr} {n cp : Nat} {ms : List Bx} {w : World} (hr : RBxs w w.heap.size A n ms) (hn : n ≤ 32) (hc : ∀ b ∈ ms, 0 ≤ b.count ∧ b.count ≤ 9999) :
    Calls Try.prog 83 #[.slice A n cp] w fun e w' => e = .returned (.int .i64 (sumB ms)) ∧ Below w.heap.size w w' := by
  have HL := Lib.hid hr.len
  have HB := Lib.hid hc
  clear hc
  go_enter Try.func83, Try.ntmps83
  go_wp2_with fail
  go_loopw [3, 8] (fun v u wr => ∃ (k : Nat) (q : Int), k ≤ n ∧ u = .int .i64 k ∧ v = .int .i64 q ∧ 0 ≤ q ∧ q ≤ 9999 * k ∧ q + sumB (ms.drop k) = sumB ms ∧ Below w.heap.size w wr) (fun _ u _ => n - (intOf u).toNat)
  case atStart => exact ⟨0, 0, Nat.zero_le _, rfl, rfl, by omega, by omega, by simp, Below.refl _ _⟩
  case round =>
    obtain ⟨k, q, hk, rfl, rfl, q0, q1, hR, hb⟩ := hrel
    by_cases hlt : k < n
    · obtain ⟨bb, off, b, rfl, _, hd, hy, c0, c1, c2, c3⟩ := RBxs.at_ (hr.below hb) hlt
      have hcb := HB.out b (List.mem_of_getElem? hy)
      have HR := Lib.hid (show q + b.count + sumB (ms.drop (k + 1)) = sumB ms by rw [← hR, hd, sumB]; omega)
      clear hd hR hy
      replace hb := hb.alloc hb.size (.cells #[.string b.code, .int .i64 b.line, .int .i64 b.column, .int .i64 b.count] 98)
      go_wp2_with fail
      go_roundw
      case rel => exact ⟨k + 1, q + b.count, by omega, by go_num, rfl, by omega, by omega, HR.out, hb⟩
      case measure => simp [intOf]; omega
    · have HR := Lib.hid (show q = sumB ms by rw [← hR, drop_end HL.out hlt]; simp [sumB])
      clear hR
      go_wp2_with fail
      go_ret
      exact ⟨ret_int HR.out, hb⟩
set_option maxRecDepth 100000 in
theorem typesIn_any {A : Option Addr} {n cp : Nat} {ms : List Bx} {w : World} (hr : RBxs w w.heap.size A n ms) (hn : n ≤ 32) (hcp : n ≤ cp) (hL : ∀ b ∈ ms, b.code.size ≤ 1048576) (h1 : caseB ms = true) :
    Calls Try.prog 84 #[.slice A n cp] w fun e w' => e = .returned (.tuple #[.int .i64 (sumB ms), .bool true]) ∧ Below w.heap.size w w' := by
  have HL := Lib.hid hr.len
  have HB := Lib.hid (count_bd h1)
  go_enter Try.func84, Try.ntmps84
  go_wp2_with fail
  refine (isCase_any hr (by omega) hcp hL).mono ?_
  rintro e1 w1 ⟨rfl, hn1⟩
  rw [h1]
  clear h1
  have hb0 : Below w.heap.size w w1 := hn1
  clear hn1
  go_wp2_with fail
  go_loopw [4, 12] (fun v u wr => ∃ (k : Nat) (q : Int), k ≤ n ∧ u = .int .i64 k ∧ v = .int .i64 q ∧ 0 ≤ q ∧ q ≤ 9999 * k ∧ q + sumB (ms.drop k) = sumB ms ∧ Below w.heap.size w wr) (fun _ u _ => n - (intOf u).toNat)
  case atStart => exact ⟨0, 0, Nat.zero_le _, rfl, rfl, by omega, by omega, by simp, hb0⟩
  case round =>
    clear hb0
    obtain ⟨k, q, hk, rfl, rfl, q0, q1, hR, hb⟩ := hrel
    by_cases hlt : k < n
    · obtain ⟨bb, off, b, rfl, _, hd, hy, c0, c1, c2, c3⟩ := RBxs.at_ (hr.below hb) hlt
      have hcb := HB.out b (List.mem_of_getElem? hy)
      have HR := Lib.hid (show q + b.count + sumB (ms.drop (k + 1)) = sumB ms by rw [← hR, hd, sumB]; omega)
      clear hd hR hy
      replace hb := hb.alloc hb.size (.cells #[.string b.code, .int .i64 b.line, .int .i64 b.column, .int .i64 b.count] 98)
      go_wp2_with fail
      go_roundw
      case rel => exact ⟨k + 1, q + b.count, by omega, by go_num, rfl, by omega, by omega, HR.out, hb⟩
      case measure => simp [intOf]; omega
    · have HR := Lib.hid (show q = sumB ms by rw [← hR, drop_end HL.out hlt]; simp [sumB])
      clear hR
      go_wp2_with fail
      go_ret2
      exact ⟨by rw [← HR.out]; rfl, hb⟩
def tosV (bs : List Bx) (ss : List ByteArray) : Int := if askB bs ss then sumB bs + ss.length else 0
theorem typesOfSetting_spec {A A' : Option Addr} {n cp m cd : Nat} {bs : List Bx} {ss : List ByteArray} {w : World} (hr : RBxs w w.heap.size A n bs) (hn0 : n ≤ 1048576) (hcp : n ≤ cp) (hL : ∀ b ∈ bs, b.code.size ≤ 1048576) (hs : RStrs w w.heap.size A' m ss) (hm0 : m ≤ 1048576) (_ : m ≤ cd) (_ : ∀ s ∈ ss, s.size ≤ 1048576) :
    Calls Try.prog 36 #[.agg #[.slice A n cp, .slice A' m cd]] w fun e w' => e = .returned (.tuple #[.int .i64 (tosV bs ss), .bool (askB bs ss)]) ∧ Below w.heap.size w w' := by
  have hbW : Below w.heap.size w (w.alloc (.cells #[.slice A n cp, .slice A' m cd] 31)) := (Below.refl _ _).alloc (Nat.le_refl _) _; have ha0 := Blk.new' w 31 #[.slice A n cp, .slice A' m cd]; (have a0 : _ = some (Value.slice A n cp) := ha0.cell 0); (have a1 : _ = some (Value.slice A' m cd) := ha0.cell 1)
  cases h : askB bs ss
  · have HV := Lib.hid (show tosV bs ss = 0 by rw [tosV, h]; rfl)
    go_enter Try.func36, Try.ntmps36; go_wp2_with fail; refine (diGood_any ((RBxs.below hr hbW).more hbW.size) hn0 hcp hL ((RStrs.below hs hbW).more hbW.size) hm0).mono ?_; rintro e1 w1 ⟨rfl, hn⟩; replace ha0 := ha0.below hn ha0.lt; replace hbW := hbW.trans (hn.mono hbW.size); clear hn a0 a1; (have a0 : _ = some (Value.slice A n cp) := ha0.cell 0); (have a1 : _ = some (Value.slice A' m cd) := ha0.cell 1); rw [h]; clear h; go_wp2_with fail
    go_ret2
    exact ⟨by rw [HV.out]; rfl, hbW⟩
  · have HV := Lib.hid (show tosV bs ss = sumB bs + m by rw [tosV, h, hs.len]; rfl)
    obtain ⟨_, h1, h2⟩ := askB_true h
    have h3 := (caseB_true h1).1
    have hl := hr.len
    have h4 := hs.len
    have hm60 : m ≤ 60 := by omega
    have hn32 : n ≤ 32 := by omega
    have HB := Lib.hid (count_bd h1)
    have hsb := sumB_bd HB.out
    clear h1 h2 h4
    go_enter Try.func36, Try.ntmps36; go_wp2_with fail; refine (diGood_any ((RBxs.below hr hbW).more hbW.size) hn0 hcp hL ((RStrs.below hs hbW).more hbW.size) hm0).mono ?_; rintro e1 w1 ⟨rfl, hn⟩; replace ha0 := ha0.below hn ha0.lt; replace hbW := hbW.trans (hn.mono hbW.size); clear hn a0 a1; (have a0 : _ = some (Value.slice A n cp) := ha0.cell 0); (have a1 : _ = some (Value.slice A' m cd) := ha0.cell 1); rw [h]; clear h; go_wp2_with fail
    clear a0 a1
    have q0 : ∀ x : Later w1.heap.size w1, x.wx.cell? ⟨w.heap.size, 0, none⟩ = some (.slice A n cp) := fun x => x.cell ha0.lt (ha0.cell 0)
    have q1 : ∀ x : Later w1.heap.size w1, x.wx.cell? ⟨w.heap.size, 1, none⟩ = some (.slice A' m cd) := fun x => x.cell ha0.lt (ha0.cell 1)
    have HRx := Lib.hid (show ∀ x : Later w1.heap.size w1, RBxs x.wx x.wx.heap.size A n bs from fun x => (RBxs.below ((RBxs.below hr hbW).more hbW.size) x.ok).more x.ok.size)
    have ew : IntKind.i64.wrap (sumB bs + (m : Int)) = sumB bs + (m : Int) := wrapI (by omega) (by omega)
    refine quiet_start (w1.heap.size) (by kernel_rfl) (by kernel_rfl) ?_; (repeat (go_big_quiet_step ((go_at_call 83; rename_i x; exact later_call (Nat.le_refl _) (caSum_any (HRx.out x) hn32 HB.out))))); refine wpQuiet_nil ?_; rintro wx ⟨⟨wy, hn⟩, rfl⟩; (try dsimp only)
    go_wp2_with fail
    go_ret2
    exact ⟨by rw [HV.out]; rfl, hbW.trans (hn.mono hbW.size)⟩
theorem typesOfSetting_impl {A A' : Option Addr} {n cp m cd : Nat} {bs : List Bx} {ss : List ByteArray} {w : World} (hr : RBxs w w.heap.size A n bs) (hn0 : n ≤ 1048576) (hcp : n ≤ cp) (hL : ∀ b ∈ bs, b.code.size ≤ 1048576) (hs : RStrs w w.heap.size A' m ss) (hm0 : m ≤ 1048576) (_ : m ≤ cd) (_ : ∀ s ∈ ss, s.size ≤ 1048576) :
    Calls Try.prog 37 #[.agg #[.slice A n cp, .slice A' m cd]] w fun e w' => e = .returned (.tuple #[.int .i64 (tosV bs ss), .bool (askB bs ss)]) ∧ Below w.heap.size w w' := by
  have hbW : Below w.heap.size w (w.alloc (.cells #[.slice A n cp, .slice A' m cd] 31)) := (Below.refl _ _).alloc (Nat.le_refl _) _; have ha0 := Blk.new' w 31 #[.slice A n cp, .slice A' m cd]; (have a0 : _ = some (Value.slice A n cp) := ha0.cell 0); (have a1 : _ = some (Value.slice A' m cd) := ha0.cell 1)
  cases h : askB bs ss
  · have HV := Lib.hid (show tosV bs ss = 0 by rw [tosV, h]; rfl)
    go_enter Try.func37, Try.ntmps37; go_wp2_with fail; refine (isSetting_any ((RBxs.below hr hbW).more hbW.size) hn0 hcp hL ((RStrs.below hs hbW).more hbW.size) hm0).mono ?_; rintro e1 w1 ⟨rfl, hn⟩; replace ha0 := ha0.below hn ha0.lt; replace hbW := hbW.trans (hn.mono hbW.size); clear hn a0 a1; (have a0 : _ = some (Value.slice A n cp) := ha0.cell 0); (have a1 : _ = some (Value.slice A' m cd) := ha0.cell 1); rw [h]; clear h; go_wp2_with fail
    go_ret2
    exact ⟨by rw [HV.out]; rfl, hbW⟩
  · have HV := Lib.hid (show tosV bs ss = sumB bs + m by rw [tosV, h, hs.len]; rfl)
    obtain ⟨_, h1, h2⟩ := askB_true h
    have h3 := (caseB_true h1).1
    have hl := hr.len
    have h4 := hs.len
    have hm60 : m ≤ 60 := by omega
    have hn32 : n ≤ 32 := by omega
    have hsb := sumB_bd (count_bd h1)
    have H1 := Lib.hid h1
    clear h1 h2 h4
    go_enter Try.func37, Try.ntmps37; go_wp2_with fail; refine (isSetting_any ((RBxs.below hr hbW).more hbW.size) hn0 hcp hL ((RStrs.below hs hbW).more hbW.size) hm0).mono ?_; rintro e1 w1 ⟨rfl, hn⟩; replace ha0 := ha0.below hn ha0.lt; replace hbW := hbW.trans (hn.mono hbW.size); clear hn a0 a1; (have a0 : _ = some (Value.slice A n cp) := ha0.cell 0); (have a1 : _ = some (Value.slice A' m cd) := ha0.cell 1); rw [h]; clear h; go_wp2_with fail
    refine (typesIn_any ((RBxs.below hr hbW).more hbW.size) hn32 hcp hL H1.out).mono ?_
    rintro e1 w2 ⟨rfl, hn⟩
    have a1' : _ = some (Value.slice A' m cd) := (ha0.below hn ha0.lt).cell 1
    clear a0 a1
    go_wp2_with fail
    go_ret2
    exact ⟨by rw [HV.out]; rfl, hbW.trans (hn.mono hbW.size)⟩
end Go.Proofs.Ytjcopempjanhhaa
