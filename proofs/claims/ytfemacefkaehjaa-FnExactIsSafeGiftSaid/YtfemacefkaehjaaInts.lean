/-
  Contracts of the laws' own helpers on slices of ints: the copy, the comparison.
-/
import Derived.Test.YtfemacefkaehjaaWords
import Derived.Test.YtfemacefkaehjaaChecked
import Derived.WalkSpells
import Derived.Outline
import Derived.Deep.QuietTactic
import Derived.BigQuiet
import Derived.Deep.OwnRows
namespace Go.Proofs.Ytfemacefkaehjaa
open Go.RowKit
theorem info3 : (Try.prog.info? 3).map (fun i => (i.zero, i.size, i.bytes)) = some (some (.int .i64 0), 1, 8) := by kernel_rfl

theorem toIntS_any (A : Option Addr) (n c B : Nat) (xs : List Int) (w : World) (hr : RInts w B A n xs) (hB : B ≤ w.heap.size) (hn : n ≤ 1048576) :
    Calls Try.prog 7 #[.slice A n c] w fun e w' => ∃ g, e = .returned (.slice (some ⟨g, 0, none⟩) n n) ∧ w.heap.size ≤ g ∧ Blk w' g 3 (xs.map (Value.int .i64)) ∧ Below w.heap.size w w' := by
  have hmk := run_make_row' (P := Try.prog) 22 3 (.int .i64 0) 8 Try.underlying22 info3 rfl .i64 .i64 n (by omega) (by omega)
  have HL := Lib.hid hr.len
  go_enter Try.func7, Try.ntmps7
  go_wp2
  go_loopw [4] (fun i wr => ∃ (k : Nat) (cs : List Value), k ≤ n ∧ i = .int .i64 k ∧ Blk wr w.heap.size 3 cs ∧ cs.length = n ∧ cs.take k = (xs.map (Value.int .i64)).take k ∧ Below w.heap.size w wr) (fun i _ => n - (intOf i).toNat)
  case atStart =>
    refine ⟨0, _, Nat.zero_le _, rfl, Blk.new' _ _ _, ?_, rfl, (by (repeat (first | exact Below.refl _ _ | exact hb | apply Below.drew | (refine Below.alloc ?_ (by first | (simp; done) | (simp; omega) | (have := hb.size; simp at this ⊢; omega)) _) | (refine Below.setCell ?_ (by simp) _))))⟩
    simp [size_madeCells]
  case round =>
    obtain ⟨k, cs, hk, rfl, hblk, hlen, htk, hb⟩ := hrel
    have HLn := Lib.hid hlen
    have HTK := Lib.hid htk; clear htk
    by_cases hlt : k < n
    · obtain ⟨ad, y, rfl, _, _, hy, hc⟩ := ((hr.more hB).below hb).at_ hlt
      obtain ⟨z, hd⟩ : ∃ z, wr.cell? ⟨w.heap.size, k, none⟩ = some z := ⟨_, (hblk.cell k).trans (List.getElem?_eq_getElem (by omega))⟩
      have hz := hblk.frozen k
      have HY := Lib.hid hy; clear hy hlen
      go_wp2
      go_roundw
      case rel => exact ⟨k + 1, _, by omega, by go_num, hblk.set_ k _, by rw [List.length_set]; exact HLn.out, fill_step HTK.out (by rw [HLn.out]; exact hlt) (by rw [List.getElem?_map, HY.out]; rfl), hb.setCell (by simp) _⟩
      case measure => simp [intOf]; omega
    · clear hlen
      go_wp2
      go_ret
      refine ⟨_, rfl, Nat.le_refl _, ?_, hb⟩
      have h1 := HTK.out
      rw [List.take_of_length_le (by rw [HLn.out]; omega), List.take_of_length_le (by rw [List.length_map, HL.out]; omega)] at h1
      rw [← h1]
      exact hblk

/-- Two slices of ints are compared. -/
def eqI (xs ys : List Int) : Bool := decide (xs = ys)
theorem eqIntS_any (A B' : Option Addr) (n c m d B C : Nat) (xs ys : List Int) (w : World) (hr : RInts w B A n xs) (hs : RInts w C B' m ys) (hn : n ≤ 1048576) (hm : m ≤ 9223372036854775807) :
    Calls Try.prog 10 #[.slice A n c, .slice B' m d] w fun e w' => e = .returned (.bool (eqI xs ys)) ∧ Below w.heap.size w w' := by
  have HL := Lib.hid hr.len
  have HM := Lib.hid hs.len
  by_cases hnm : n = m
  · subst hnm
    go_enter Try.func10, Try.ntmps10
    go_wp2
    go_loopw [5] (fun i wr => ∃ k : Nat, k ≤ n ∧ i = .int .i64 k ∧ xs.take k = ys.take k ∧ ∃ j, wr = w.drewN j) (fun i _ => n - (intOf i).toNat)
    case atStart => exact ⟨0, Nat.zero_le _, rfl, by simp, 0, rfl⟩
    case round =>
      obtain ⟨k, hk, rfl, htk, j, rfl⟩ := hrel
      have HTK := Lib.hid htk; clear htk
      by_cases hlt : k < n
      · obtain ⟨ad, x, rfl, _, _, hx, hc⟩ := hr.at_ hlt
        obtain ⟨bd, y, rfl, _, _, hy, hd⟩ := hs.at_ hlt
        have HX := Lib.hid hx; have HY := Lib.hid hy; clear hx hy
        have l0 : (0 : Int) ≤ (k : Int) := by omega
        have l1 : (k : Int) < (n : Int) := by omega
        by_cases hxy : x = y
        · have ht : (!(x == y)) = false := by simp [hxy]
          have ht' : (x != y) = false := by simp [hxy]
          have HXY := Lib.hid hxy; clear hxy
          go_wp2
          go_quiet (fail)
          go_wp2
          go_roundw
          case rel => exact ⟨k + 1, by omega, by go_num, by rw [List.take_add_one, List.take_add_one, HTK.out, HX.out, HY.out, HXY.out], _, rfl⟩
          case measure => simp [intOf]; omega
        · have ht : (!(x == y)) = true := by simp [hxy]
          have ht' : (x != y) = true := by simp [hxy]
          have HXY := Lib.hid hxy; clear hxy
          go_wp2
          go_quiet (fail)
          go_wp2
          go_ret
          refine ⟨ret_bool ?_, below_drewN (below_drewN (Below.refl _ _) _) _⟩
          have : ¬ xs = ys := fun e => by
            have h1 := HX.out
            rw [e, HY.out] at h1
            exact HXY.out (by injection h1 with h1; exact h1.symm)
          simp [eqI, this]
      · go_wp2
        go_ret
        refine ⟨ret_bool ?_, below_drewN (Below.refl _ _) _⟩
        have h1 := HTK.out
        rw [List.take_of_length_le (by rw [HL.out]; omega), List.take_of_length_le (by rw [HM.out]; omega)] at h1
        simp [eqI, h1]
  · go_enter Try.func10, Try.ntmps10
    have ht : ((n : Int) != (m : Int)) = true := by rw [bne_iff_ne]; omega
    go_wp2
    go_ret
    refine ⟨ret_bool ?_, Below.refl _ _⟩
    have : ¬ xs = ys := fun e => hnm (by rw [← HL.out, ← HM.out, e])
    simp [eqI, this]
end Go.Proofs.Ytfemacefkaehjaa
