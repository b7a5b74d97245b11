/-
  Contracts of SwapInks and its law.
-/
import Derived.Test.YtanpiipmoedfnaaCol3
namespace Go.Proofs.Ytanpiipmoedfnaa
open Go.RowKit
def swapL : List UInt8 → List UInt8 → List UInt8
  | a :: r, d :: s => (if (a.toNat : Int) ≠ 32 ∧ (d.toNat : Int) = 98 then 114 else 98) :: swapL r s
  | _, _ => []
def swT (t i : ByteArray) : ByteArray := if ikB t i then t else ⟨#[]⟩
def swI (t i : ByteArray) : ByteArray := if ikB t i then str (swapL (bytes t) (bytes i)) else ⟨#[]⟩
theorem sw_spec (t i : ByteArray) (w : World) (ht : t.size ≤ 1048576) : Calls Try.prog 30 #[.agg #[.string t, .string i]] w fun e w' => e = .returned (.tuple #[.agg #[.string (swT t i), .string (swI t i)], .bool (ikB t i)]) ∧ Below w.heap.size w w' := by
  have hb : Below w.heap.size w ((w.alloc (.cells #[.string t, .string i] 26)).alloc (.cells (#[.string ⟨#[]⟩, .string ⟨#[]⟩] : Array Value) 26)) := (by (repeat (first | exact Below.refl _ _ | exact hb | apply Below.drew | (refine Below.alloc ?_ (by first | (simp; done) | (simp; omega) | (have := hb.size; simp at this ⊢; omega)) _) | (refine Below.setCell ?_ (by simp) _)))); have hx := (Blk.new' w 26 #[.string t, .string i]).alloc (.cells (#[.string ⟨#[]⟩, .string ⟨#[]⟩] : Array Value) 26); have hz : Blk ((w.alloc (.cells #[.string t, .string i] 26)).alloc (.cells (#[.string ⟨#[]⟩, .string ⟨#[]⟩] : Array Value) 26)) (w.heap.size + 1) 26 [.string ⟨#[]⟩, .string ⟨#[]⟩] := by simpa using Blk.new' (w.alloc (.cells #[.string t, .string i] 26)) 26 (#[.string ⟨#[]⟩, .string ⟨#[]⟩] : Array Value)
  cases h1 : ikB t i
  · go_enter Try.func30, Try.ntmps30
    go_wp2_with fail
    refine (coGood_any _ _ _ ht).mono ?_
    rintro e1 w1 ⟨rfl, hn⟩
    replace hx := hx.below hn hx.lt; replace hz := hz.below hn hz.lt; replace hb := hb.trans (hn.mono hb.size); clear hn
    have m0 : _ = some (Value.string t) := hx.cell 0; have m1 : _ = some (Value.string i) := hx.cell 1; have z0 : _ = some (Value.string ⟨#[]⟩) := hz.cell 0; have z1 : _ = some (Value.string ⟨#[]⟩) := hz.cell 1; have y0 := hz.frozen 0; have y1 := hz.frozen 1
    go_wp2_with fail
    clear m0 m1 z0 z1 y0 y1
    have hz := (hz.set_ 0 (.string ⟨#[]⟩)).set_ 1 (.string ⟨#[]⟩); have q0 : _ = some (Value.string ⟨#[]⟩) := hz.cell 0; have q1 : _ = some (Value.string ⟨#[]⟩) := hz.cell 1
    exact bodyPost_ret (v := .tuple #[.agg #[.string (swT t i), .string (swI t i)], .bool false]) (by simp [results, Try.results30, go_sem, swT, swI, h1, q0, q1]) rfl ⟨rfl, (hb.setCell (by simp) _).setCell (by simp) _⟩
  obtain ⟨g1, g2, g3, g4⟩ := ikB_true h1
  have HT := Lib.hid g3
  have HP := Lib.hid g1
  clear g1 g2 g3 g4
  go_enter Try.func30, Try.ntmps30
  go_wp2_with fail
  refine (coGood_any _ _ _ ht).mono ?_
  rintro e1 w1 ⟨rfl, hn⟩
  replace hx := hx.below hn hx.lt; replace hz := hz.below hn hz.lt; replace hb := hb.trans (hn.mono hb.size); clear hn
  have m0 : _ = some (Value.string t) := hx.cell 0; have m1 : _ = some (Value.string i) := hx.cell 1; have z0 : _ = some (Value.string ⟨#[]⟩) := hz.cell 0; have z1 : _ = some (Value.string ⟨#[]⟩) := hz.cell 1; have y0 := hz.frozen 0; have y1 := hz.frozen 1
  have n0 : _ = some (Value.string t) := (hx.alloc (.cells #[.string t, .string ⟨#[]⟩] 26)).cell 0
  go_wp2_with fail
  clear m0 m1 z0 z1 y0 y1 n0
  have hw1 : w.heap.size + 1 < w1.heap.size := hz.lt
  go_loopw [5] (fun _ wr => ∃ (k : Nat) (l : List UInt8), k ≤ t.size ∧ l.length = k ∧ l ++ swapL ((bytes t).drop k) ((bytes i).drop k) = swapL (bytes t) (bytes i) ∧ wr.heap[w1.heap.size + 1]? = some (.stringIter t k) ∧ Blk wr w.heap.size 26 [.string t, .string i] ∧ Blk wr (w.heap.size + 1) 26 [.string ⟨#[]⟩, .string ⟨#[]⟩] ∧ Blk wr w1.heap.size 26 [.string t, .string (str l)] ∧ Below w.heap.size w wr) (fun _ wr => t.size - wr.iterPos (w1.heap.size + 1))
  case atStart =>
    refine ⟨0, [], Nat.zero_le _, rfl, rfl, ?_, (hx.alloc _).alloc _, (hz.alloc _).alloc _, (Blk.new' w1 26 #[.string t, .string ⟨#[]⟩]).alloc _, (hb.alloc hb.size _).alloc (by have := hb.size; simp; omega) _⟩
    have := World.iter_heap (w1.alloc (.cells #[.string t, .string ⟨#[]⟩] 26)) t 0
    rwa [World.size_alloc] at this
  case round =>
    clear hx hz hb
    obtain ⟨k, l, hk, hl, hR, hit, hx, hz, ho, hb⟩ := hrel
    have HR := Lib.hid hR; clear hR
    have HL := Lib.hid hl; clear hl
    have hls : (str l).size ≤ 1048576 := by rw [str_size, HL.out]; omega
    by_cases hlt : k < t.size
    · have hasc : t[k].toNat < 128 := plB_ascii HP.out (bytes_get t k hlt)
      have hlt2 : k < i.size := by have := HT.out; omega
      have hnx := Lib.run_next_ascii_at (P := Try.prog) wr (w1.heap.size + 1) t k 0 hit hlt hasc
      have hx2 : Blk (wr.iterAt (w1.heap.size + 1) t (k + 1)) w.heap.size 26 [.string t, .string i] := (Lib.iterAt_other wr (w1.heap.size + 1) w.heap.size t (k + 1) (by omega)).trans hx
      have hz2 : Blk (wr.iterAt (w1.heap.size + 1) t (k + 1)) (w.heap.size + 1) 26 [.string ⟨#[]⟩, .string ⟨#[]⟩] := (Lib.iterAt_other wr (w1.heap.size + 1) (w.heap.size + 1) t (k + 1) (by omega)).trans hz
      have ho2 : Blk (wr.iterAt (w1.heap.size + 1) t (k + 1)) w1.heap.size 26 [.string t, .string (str l)] := (Lib.iterAt_other wr (w1.heap.size + 1) w1.heap.size t (k + 1) (by omega)).trans ho
      have hb2 := Lib.below_iterAt hb (by omega) t (k + 1) (k := w1.heap.size + 1)
      have hc0 : _ = some (Value.string t) := hx2.cell 0
      have hc1 : _ = some (Value.string i) := hx2.cell 1
      have ho1 : _ = some (Value.string (str l)) := ho2.cell 1
      have hof := ho2.frozen 1
      have HD := Lib.hid (bytes_drop t k hlt)
      have HE := Lib.hid (bytes_drop i k hlt2)
      have hgo : ∀ (z : UInt8) (zs : ByteArray), zs = str [z] → (z = if (t[k].toNat : Int) ≠ 32 ∧ (i[k].toNat : Int) = 98 then 114 else 98) → ∃ (k' : Nat) (l' : List UInt8), k' ≤ t.size ∧ l'.length = k' ∧ l' ++ swapL ((bytes t).drop k') ((bytes i).drop k') = swapL (bytes t) (bytes i) ∧ ((wr.iterAt (w1.heap.size + 1) t (k + 1)).setCell ⟨w1.heap.size, 1, none⟩ (.string (str l ++ zs))).heap[w1.heap.size + 1]? = some (.stringIter t k') ∧ Blk ((wr.iterAt (w1.heap.size + 1) t (k + 1)).setCell ⟨w1.heap.size, 1, none⟩ (.string (str l ++ zs))) w.heap.size 26 [.string t, .string i] ∧ Blk ((wr.iterAt (w1.heap.size + 1) t (k + 1)).setCell ⟨w1.heap.size, 1, none⟩ (.string (str l ++ zs))) (w.heap.size + 1) 26 [.string ⟨#[]⟩, .string ⟨#[]⟩] ∧ Blk ((wr.iterAt (w1.heap.size + 1) t (k + 1)).setCell ⟨w1.heap.size, 1, none⟩ (.string (str l ++ zs))) w1.heap.size 26 [.string t, .string (str l')] ∧ Below w.heap.size w ((wr.iterAt (w1.heap.size + 1) t (k + 1)).setCell ⟨w1.heap.size, 1, none⟩ (.string (str l ++ zs))) := by
        rintro z zs rfl hz'
        refine ⟨k + 1, l ++ [z], by omega, by rw [List.length_append, HL.out]; rfl, by rw [← HR.out, HD.out, HE.out, swapL, ← hz', List.append_assoc]; rfl, (Below.heap_setCell _ _ _ _ (by simp)).trans (Lib.iterAt_heap wr _ t k (k + 1) hit), hx2.far (by simp; omega) _, hz2.far (by simp; omega) _, ?_, hb2.setCell (by simp; omega) _⟩
        have := ho2.set_ 1 (.string (str l ++ str [z]))
        rwa [str_append] at this ⊢
      have HG := Lib.hid hgo; clear hgo hx2 hz2 ho2 hb2
      have hms : ∀ zs : ByteArray, t.size - ((wr.iterAt (w1.heap.size + 1) t (k + 1)).setCell ⟨w1.heap.size, 1, none⟩ (.string (str l ++ zs))).iterPos (w1.heap.size + 1) < t.size - wr.iterPos (w1.heap.size + 1) := by
        intro zs
        rw [iterPos_of hit, iterPos_of ((Below.heap_setCell _ _ _ _ (by simp)).trans (Lib.iterAt_heap wr _ t k (k + 1) hit))]
        omega
      have HM := Lib.hid hms; clear hms
      by_cases q1 : (t[k].toNat : Int) = 32
      · obtain ⟨f1, f2⟩ := ne_f q1
        have HQ := Lib.hid q1; clear q1
        go_wp2_with fail
        go_roundw
        case rel => exact HG.out 98 _ rfl (by rw [if_neg (fun h => h.1 HQ.out)])
        case measure => exact HM.out _
      · obtain ⟨f1, f2⟩ := ne_t q1
        have HQ := Lib.hid q1; clear q1
        by_cases q2 : (i[k].toNat : Int) = 98
        · obtain ⟨f3, f4⟩ := ne_f q2
          have HQ2 := Lib.hid q2; clear q2
          go_wp2_with fail
          go_roundw
          case rel => exact HG.out 114 _ rfl (by rw [if_pos ⟨HQ.out, HQ2.out⟩])
          case measure => exact HM.out _
        · obtain ⟨f3, f4⟩ := ne_t q2
          have HQ2 := Lib.hid q2; clear q2
          go_wp2_with fail
          go_roundw
          case rel => exact HG.out 98 _ rfl (by rw [if_neg (fun h => HQ2.out h.2)])
          case measure => exact HM.out _
    · have hnx := Lib.run_next_end_at (P := Try.prog) wr (w1.heap.size + 1) t k 0 hit hlt
      have : l = swapL (bytes t) (bytes i) := by
        rw [← HR.out, List.drop_of_length_le (l := bytes t) (by rw [bytes_len]; omega)]
        simp [swapL]
      have HF := Lib.hid this; clear this
      have m0 : _ = some (Value.string t) := hx.cell 0; have m1 : _ = some (Value.string i) := hx.cell 1; have z0 : _ = some (Value.string ⟨#[]⟩) := hz.cell 0; have z1 : _ = some (Value.string ⟨#[]⟩) := hz.cell 1; have y0 := hz.frozen 0; have y1 := hz.frozen 1
      have o0 : _ = some (Value.string t) := ho.cell 0
      have o1 : _ = some (Value.string (str l)) := ho.cell 1
      go_wp2_with fail
      clear m0 m1 z0 z1 y0 y1 o0 o1
      have hz := (hz.set_ 0 (.string t)).set_ 1 (.string (str l)); have q0 : _ = some (Value.string t) := hz.cell 0; have q1 : _ = some (Value.string (str l)) := hz.cell 1
      exact bodyPost_ret (v := .tuple #[.agg #[.string (swT t i), .string (swI t i)], .bool true]) (by simp [results, Try.results30, go_sem, swT, swI, h1, q0, q1, ← HF.out]) rfl ⟨rfl, (hb.setCell (by simp) _).setCell (by simp) _⟩
theorem sw_impl (t i : ByteArray) (w : World) (ht : t.size ≤ 1048576) : Calls Try.prog 31 #[.agg #[.string t, .string i]] w fun e w' => e = .returned (.tuple #[.agg #[.string (swT t i), .string (swI t i)], .bool (ikB t i)]) ∧ Below w.heap.size w w' := by
  have hb : Below w.heap.size w ((w.alloc (.cells #[.string t, .string i] 26)).alloc (.cells (#[.string ⟨#[]⟩, .string ⟨#[]⟩] : Array Value) 26)) := (by (repeat (first | exact Below.refl _ _ | exact hb | apply Below.drew | (refine Below.alloc ?_ (by first | (simp; done) | (simp; omega) | (have := hb.size; simp at this ⊢; omega)) _) | (refine Below.setCell ?_ (by simp) _)))); have hx := (Blk.new' w 26 #[.string t, .string i]).alloc (.cells (#[.string ⟨#[]⟩, .string ⟨#[]⟩] : Array Value) 26); have hz : Blk ((w.alloc (.cells #[.string t, .string i] 26)).alloc (.cells (#[.string ⟨#[]⟩, .string ⟨#[]⟩] : Array Value) 26)) (w.heap.size + 1) 26 [.string ⟨#[]⟩, .string ⟨#[]⟩] := by simpa using Blk.new' (w.alloc (.cells #[.string t, .string i] 26)) 26 (#[.string ⟨#[]⟩, .string ⟨#[]⟩] : Array Value)
  cases h1 : ikB t i
  · go_enter Try.func31, Try.ntmps31
    go_wp2_with fail
    refine (isInked_any _ _ _ ht).mono ?_
    rintro e1 w1 ⟨rfl, hn⟩
    replace hx := hx.below hn hx.lt; replace hz := hz.below hn hz.lt; replace hb := hb.trans (hn.mono hb.size); clear hn
    have m0 : _ = some (Value.string t) := hx.cell 0; have m1 : _ = some (Value.string i) := hx.cell 1; have z0 : _ = some (Value.string ⟨#[]⟩) := hz.cell 0; have z1 : _ = some (Value.string ⟨#[]⟩) := hz.cell 1; have y0 := hz.frozen 0; have y1 := hz.frozen 1
    go_wp2_with fail
    clear m0 m1 z0 z1 y0 y1
    have hz := (hz.set_ 0 (.string ⟨#[]⟩)).set_ 1 (.string ⟨#[]⟩); have q0 : _ = some (Value.string ⟨#[]⟩) := hz.cell 0; have q1 : _ = some (Value.string ⟨#[]⟩) := hz.cell 1
    exact bodyPost_ret (v := .tuple #[.agg #[.string (swT t i), .string (swI t i)], .bool false]) (by simp [results, Try.results31, go_sem, swT, swI, h1, q0, q1]) rfl ⟨rfl, (hb.setCell (by simp) _).setCell (by simp) _⟩
  obtain ⟨g1, g2, g3, g4⟩ := ikB_true h1
  have HT := Lib.hid g3
  have HP := Lib.hid g1
  clear g1 g2 g3 g4
  have hcv := fun w => run_bytes_of_string (P := Try.prog) w 9 58 5 i Try.underlying9 Try.underlying58 Try.underlying5
  go_enter Try.func31, Try.ntmps31
  go_wp2_with fail
  refine (isInked_any _ _ _ ht).mono ?_
  rintro e1 w1 ⟨rfl, hn⟩
  replace hx := hx.below hn hx.lt; replace hz := hz.below hn hz.lt; replace hb := hb.trans (hn.mono hb.size); clear hn
  have m0 : _ = some (Value.string t) := hx.cell 0; have m1 : _ = some (Value.string i) := hx.cell 1; have z0 : _ = some (Value.string ⟨#[]⟩) := hz.cell 0; have z1 : _ = some (Value.string ⟨#[]⟩) := hz.cell 1; have y0 := hz.frozen 0; have y1 := hz.frozen 1
  go_wp2_with fail
  clear m0 m1 z0 z1 y0 y1
  have hw1 : w.heap.size + 1 < w1.heap.size := hz.lt
  have hblk := BBlk.new w1.drew i (grownCap w1 i.size 0 5)
  replace hx := (hx.drewN 1).alloc (.cells (bytesRow i (grownCap w1 i.size 0 5)) 5 ((bytesRow i (grownCap w1 i.size 0 5)).size, (bytesRow i (grownCap w1 i.size 0 5)).size + 1))
  replace hz := (hz.drewN 1).alloc (.cells (bytesRow i (grownCap w1 i.size 0 5)) 5 ((bytesRow i (grownCap w1 i.size 0 5)).size, (bytesRow i (grownCap w1 i.size 0 5)).size + 1))
  replace hb := (below_drewN hb 1).alloc hb.size (.cells (bytesRow i (grownCap w1 i.size 0 5)) 5 ((bytesRow i (grownCap w1 i.size 0 5)).size, (bytesRow i (grownCap w1 i.size 0 5)).size + 1))
  go_loopw [15] (fun u wr => ∃ (k : Nat) (l : List UInt8), k ≤ t.size ∧ u = .int .i64 k ∧ l.length = i.size ∧ l.drop k = (bytes i).drop k ∧ l.take k ++ swapL ((bytes t).drop k) ((bytes i).drop k) = swapL (bytes t) (bytes i) ∧ BBlk wr w1.heap.size l ∧ Blk wr w.heap.size 26 [.string t, .string i] ∧ Blk wr (w.heap.size + 1) 26 [.string ⟨#[]⟩, .string ⟨#[]⟩] ∧ Below w.heap.size w wr) (fun u _ => t.size - (intOf u).toNat)
  case atStart => exact ⟨0, bytes i, Nat.zero_le _, rfl, bytes_len i, rfl, rfl, hblk, hx, hz, hb⟩
  case round =>
    clear hblk hx hz hb hcv
    obtain ⟨k, l, hk, rfl, hl, hd, hR, hblk, hx, hz, hb⟩ := hrel
    have HR := Lib.hid hR; clear hR
    have HL := Lib.hid hl; clear hl
    have HD := Lib.hid hd; clear hd
    have hc0 : _ = some (Value.string t) := hx.cell 0
    have l2 : (k : Int) < (i.size : Int) ↔ k < t.size := by have := HT.out; omega
    by_cases hlt : k < t.size
    · have hlt2 : k < i.size := by have := HT.out; omega
      clear l2
      have l0 : (0 : Int) ≤ (k : Int) := by omega
      have l1 : (k : Int) < (t.size : Int) := by omega
      have l3 : (k : Int) < (i.size : Int) := by omega
      have HU := Lib.hid (bytes_drop t k hlt)
      have HE := Lib.hid (bytes_drop i k hlt2)
      have hlk : k < l.length := by rw [HL.out]; exact hlt2
      have hlc : l[k]? = some i[k] := (drop_facts (HD.out.trans HE.out)).1
      have hd : _ = _ := hblk.cell hlc
      have hfz := hblk.frozen hlk
      have hgo : ∀ (z : UInt8) (z' : Int), z' = (z.toNat : Int) → (z = if (t[k].toNat : Int) ≠ 32 ∧ (i[k].toNat : Int) = 98 then 114 else 98) → ∃ (k' : Nat) (l' : List UInt8), k' ≤ t.size ∧ Value.int .i64 (k + 1) = .int .i64 k' ∧ l'.length = i.size ∧ l'.drop k' = (bytes i).drop k' ∧ l'.take k' ++ swapL ((bytes t).drop k') ((bytes i).drop k') = swapL (bytes t) (bytes i) ∧ BBlk (wr.setCell ⟨w1.heap.size, k, none⟩ (.int .u8 z')) w1.heap.size l' ∧ Blk (wr.setCell ⟨w1.heap.size, k, none⟩ (.int .u8 z')) w.heap.size 26 [.string t, .string i] ∧ Blk (wr.setCell ⟨w1.heap.size, k, none⟩ (.int .u8 z')) (w.heap.size + 1) 26 [.string ⟨#[]⟩, .string ⟨#[]⟩] ∧ Below w.heap.size w (wr.setCell ⟨w1.heap.size, k, none⟩ (.int .u8 z')) := by
        rintro z z' rfl hz'
        obtain ⟨e2, e3⟩ := set_facts z (HD.out.trans HE.out)
        exact ⟨k + 1, l.set k z, by omega, by go_num, by rw [List.length_set]; exact HL.out, e2, by rw [← HR.out, HU.out, HE.out, swapL, ← hz', e3, List.append_assoc]; rfl, hblk.set_ k z hlk, hx.far (by simp; omega) _, hz.far (by simp; omega) _, hb.setCell (by simp; omega) _⟩
      have HG := Lib.hid hgo; clear hgo
      by_cases q2 : (i[k].toNat : Int) = 98
      · obtain ⟨f3, f4⟩ := ne_f q2
        have HQ2 := Lib.hid q2; clear q2
        by_cases q1 : (t[k].toNat : Int) = 32
        · obtain ⟨f1, f2⟩ := ne_f q1
          have HQ := Lib.hid q1; clear q1
          go_wp2_with fail
          go_roundw
          case rel => exact HG.out 98 _ rfl (by rw [if_neg (fun h => h.1 HQ.out)])
          case measure => simp [intOf]; omega
        · obtain ⟨f1, f2⟩ := ne_t q1
          have HQ := Lib.hid q1; clear q1
          go_wp2_with fail
          go_roundw
          case rel => exact HG.out 114 _ rfl (by rw [if_pos ⟨HQ.out, HQ2.out⟩])
          case measure => simp [intOf]; omega
      · obtain ⟨f3, f4⟩ := ne_t q2
        have HQ2 := Lib.hid q2; clear q2
        go_wp2_with fail
        go_roundw
        case rel => exact HG.out 98 _ rfl (by rw [if_neg (fun h => HQ2.out h.2)])
        case measure => simp [intOf]; omega
    · have hge : ¬ k < i.size := by have := HT.out; omega
      clear l2
      have : l = swapL (bytes t) (bytes i) := by
        have e := HR.out
        rw [List.drop_of_length_le (l := bytes t) (by rw [bytes_len]; omega), List.take_of_length_le (by rw [HL.out]; omega)] at e
        simpa [swapL] using e
      have HF := Lib.hid this; clear this
      have hcv2 := fun cap => bytes_back (cap := cap) hblk HL.out
      have m0 : _ = some (Value.string t) := hx.cell 0; have m1 : _ = some (Value.string i) := hx.cell 1; have z0 : _ = some (Value.string ⟨#[]⟩) := hz.cell 0; have z1 : _ = some (Value.string ⟨#[]⟩) := hz.cell 1; have y0 := hz.frozen 0; have y1 := hz.frozen 1
      go_wp2_with fail
      clear m0 m1 z0 z1 y0 y1
      have hz := (hz.set_ 0 (.string t)).set_ 1 (.string (str l)); have q0 : _ = some (Value.string t) := hz.cell 0; have q1 : _ = some (Value.string (str l)) := hz.cell 1
      exact bodyPost_ret (v := .tuple #[.agg #[.string (swT t i), .string (swI t i)], .bool true]) (by simp [results, Try.results31, go_sem, swT, swI, h1, q0, q1, ← HF.out]) rfl ⟨rfl, (hb.setCell (by simp) _).setCell (by simp) _⟩
theorem eqInked_any (t i : ByteArray) (w : World) : Calls Try.prog 19 #[.agg #[.string t, .string i], .agg #[.string t, .string i]] w fun e w' => e = .returned (.bool true) ∧ Below w.heap.size w w' := by
  have hx := (Blk.new' w 26 #[.string t, .string i]).alloc (.cells #[.string t, .string i] 26)
  have hy : Blk ((w.alloc (.cells #[.string t, .string i] 26)).alloc (.cells #[.string t, .string i] 26)) (w.heap.size + 1) 26 [.string t, .string i] := by simpa using Blk.new' (w.alloc (.cells #[.string t, .string i] 26)) 26 #[.string t, .string i]
  have c0 : _ = some (Value.string t) := hx.cell 0
  have c1 : _ = some (Value.string i) := hx.cell 1
  have d0 : _ = some (Value.string t) := hy.cell 0
  have d1 : _ = some (Value.string i) := hy.cell 1
  have e0 : (t.toList != t.toList) = false := by simp
  have e1 : (i.toList != i.toList) = false := by simp
  have e2 : (t.toList == t.toList) = true := by simp
  have e3 : (i.toList == i.toList) = true := by simp
  go_enter Try.func19, Try.ntmps19
  go_wp2
  exact bodyPost_ret (v := .bool true) (by simp [results, Try.results19, go_sem]) rfl ⟨rfl, (by (repeat (first | exact Below.refl _ _ | exact hb | apply Below.drew | (refine Below.alloc ?_ (by first | (simp; done) | (simp; omega) | (have := hb.size; simp at this ⊢; omega)) _) | (refine Below.setCell ?_ (by simp) _))))⟩
theorem swapInksLaw (W : World) (t i : ByteArray) (ht : t.size ≤ maxLen) (hi : i.size ≤ maxLen) : Calls Try.prog 9 #[.agg #[.string t, .string i]] W fun e W' => e = .returned (.bool true) ∧ Below W.heap.size W W' := by
  have hc : True := trivial; have hf : True := trivial; have hb := Below.refl (W.alloc (.cells #[.string t, .string i] 23)).heap.size (W.alloc (.cells #[.string t, .string i] 23))
  have hz : 0 ≤ szI t i 1048576 ∨ szI t i 1048576 < 0 := by omega
  rcases hz with hz | hz
  · have hk := szI_ok hz (by omega)
    have HK := Lib.hid hk; clear hk
    go_enter Try.func9, Try.ntmps9
    go_wp2_with fail; refine (szInked_any _ _ _ _ ht hi (by omega)).mono ?_; rintro e1 w1 ⟨rfl, hn⟩; replace hb := hb.trans (hn.mono hb.size); clear hc hf hn; obtain ⟨hc, hf⟩ := bcell hb
    go_wp2_with fail; refine (toInked_any _ _ _).mono ?_; rintro e1 w1 ⟨rfl, hn⟩; replace hb := hb.trans (hn.mono hb.size); clear hc hf hn; obtain ⟨hc, hf⟩ := bcell hb
    go_wp2_with fail
    refine (sw_spec _ _ _ HK.out.1).mono ?_
    rintro e1 w1 ⟨rfl, hn⟩
    replace hb := hb.trans (hn.mono hb.size)
    obtain ⟨x, hx⟩ : ∃ x, x = swT t i := ⟨_, rfl⟩; obtain ⟨y, hy⟩ : ∃ y, y = swI t i := ⟨_, rfl⟩; obtain ⟨z, hz⟩ : ∃ z, z = ikB t i := ⟨_, rfl⟩
    have HI : ∀ w, Calls Try.prog 31 #[.agg #[.string t, .string i]] w fun e w' => e = .returned (.tuple #[.agg #[.string x, .string y], .bool z]) ∧ Below w.heap.size w w' := by rw [hx, hy, hz]; exact fun w => sw_impl t i w HK.out.1
    rw [← hx, ← hy, ← hz]; clear hx hy hz; have hw := Blk.new' w1 26 #[.string x, .string y]; replace hb := hb.alloc hb.size (.cells #[.string x, .string y] 26); clear hc hf hn; obtain ⟨hc, hf⟩ := bcell hb
    go_wp2_with fail
    refine (toInked_any _ _ _).mono ?_
    rintro e1 w2 ⟨rfl, hn⟩
    replace hw := hw.below hn hw.lt
    replace hb := hb.trans (hn.mono hb.size)
    go_wp2_with fail
    refine (HI _).mono ?_
    rintro e1 w3 ⟨rfl, hn⟩
    replace hw := hw.below hn hw.lt
    replace hb := hb.trans (hn.mono hb.size)
    replace hw := hw.alloc (.cells #[.string x, .string y] 26); replace hb := hb.alloc (by have := hb.size; simp at this ⊢; omega) (.cells #[.string x, .string y] 26); have c0 : _ = some (Value.string x) := hw.cell 0; have c1 : _ = some (Value.string y) := hw.cell 1; have hzz : (z != z) = false := by simp
    go_wp2_with fail
    refine (eqInked_any _ _ _).mono ?_
    rintro e1 w4 ⟨rfl, hn⟩
    replace hb := hb.trans (hn.mono hb.size)
    clear c0 c1
    go_wp2_with fail
    go_ret; exact ⟨rfl, Below.trans (by (repeat (first | exact Below.refl _ _ | exact hb | apply Below.drew | (refine Below.alloc ?_ (by first | (simp; done) | (simp; omega) | (have := hb.size; simp at this ⊢; omega)) _) | (refine Below.setCell ?_ (by simp) _)))) (hb.mono (by simp))⟩
  · go_enter Try.func9, Try.ntmps9
    go_wp2_with (go_at_call 13; refine (szInked_any _ _ _ _ ht hi (by omega)).mono ?_; rintro e1 w1 ⟨rfl, hn⟩; replace hb := hb.trans (hn.mono hb.size); clear hc hf hn; obtain ⟨hc, hf⟩ := bcell hb)
    go_ret; exact ⟨rfl, Below.trans (by (repeat (first | exact Below.refl _ _ | exact hb | apply Below.drew | (refine Below.alloc ?_ (by first | (simp; done) | (simp; omega) | (have := hb.size; simp at this ⊢; omega)) _) | (refine Below.setCell ?_ (by simp) _)))) (hb.mono (by simp))⟩
end Go.Proofs.Ytanpiipmoedfnaa
