/-
  Contracts of InkedText and its law.
-/
import Derived.Test.YtanpiipmoedfnaaCol2
namespace Go.Proofs.Ytanpiipmoedfnaa
open Go.RowKit
theorem iterPos_of {w : World} {k : Nat} {s : ByteArray} {p : Nat} (h : w.heap[k]? = some (.stringIter s p)) : w.iterPos k = p := by simp [World.iterPos, h]
def toldL : List UInt8 → List UInt8 → List UInt8
  | a :: r, d :: s => (if d.toNat = 114 then a - 32 else a) :: toldL r s
  | _, _ => []
theorem one_byte (w : World) (n : Int) (h0 : 0 ≤ n) (h1 : n < 256) : (convert 58 9 (.slice (some ⟨w.heap.size, 0, none⟩) 1 1)).run Try.prog (w.alloc (.cells #[.int .u8 n] 5)) = .ok (.string (str [UInt8.ofNat n.toNat])) (w.alloc (.cells #[.int .u8 n] 5)) := by
  refine run_convert_bytes_back (w.alloc (.cells #[.int .u8 n] 5)) _ _ 5 ⟨w.heap.size, 0, none⟩ 1 [UInt8.ofNat n.toNat] Try.underlying58 Try.underlying5 Try.underlying9 (fun j hj => ?_)
  have : j = 0 := by simpa using hj
  subst this
  rw [Addr.add_lit, cell_of_row _ _ _ _ _ _ (heap_alloc_new w _)]
  simp
  omega
theorem inkB_at : ∀ {t i : List UInt8} {k : Nat} {c d : UInt8}, inkB t i = true → t[k]? = some c → i[k]? = some d → inkC c d = true
  | [], _, _, _, _, _, h, _ => by simp at h
  | _ :: _, [], _, _, _, _, _, h => by simp at h
  | a :: r, b :: s, 0, c, d, hp, h, h' => by
    simp at h h'
    subst h h'
    simp only [inkB, Bool.and_eq_true] at hp
    exact hp.1
  | a :: r, b :: s, k + 1, c, d, hp, h, h' => by
    simp only [inkB, Bool.and_eq_true] at hp
    exact inkB_at hp.2 (by simpa using h) (by simpa using h')
theorem plB_at : ∀ {l : List UInt8} {k : Nat} {c : UInt8}, plB l = true → l[k]? = some c → plC c = true
  | [], _, _, _, h => by simp at h
  | a :: r, 0, c, hp, h => by
    simp at h
    subst h
    simp only [plB, Bool.and_eq_true] at hp
    exact hp.1
  | a :: r, k + 1, c, hp, h => by
    simp only [plB, Bool.and_eq_true] at hp
    exact plB_at hp.2 (by simpa using h)
/-- A red letter is a letter. -/
theorem red_letter {c d : UInt8} (hp : plC c = true) (hi : inkC c d = true) (hd : (d.toNat : Int) = 114) : 97 ≤ (c.toNat : Int) ∧ (c.toNat : Int) ≤ 122 := by
  simp only [plC, inkC, Bool.or_eq_true, Bool.and_eq_true, decide_eq_true_eq, Bool.not_eq_true', decide_eq_false_iff_not] at hp hi
  omega
theorem coTold_any (t i : ByteArray) (w : World) (ht : t.size ≤ 1048576) (hti : t.size = i.size) (hp : plB (bytes t) = true) (hi : inkB (bytes t) (bytes i) = true) : Calls Try.prog 55 #[.agg #[.string t, .string i]] w fun e w' => e = .returned (.string (str (toldL (bytes t) (bytes i)))) ∧ Below w.heap.size w w' := by
  have hx := (Blk.new' w 26 #[.string t, .string i])
  have HT := Lib.hid hti
  have HP := Lib.hid hp
  have HI := Lib.hid hi
  have hob := @one_byte
  have HOB := Lib.hid hob
  clear hti hp hi hob
  go_enter Try.func55, Try.ntmps55
  go_wp2_with fail
  go_loopw [3] (fun u wr => ∃ (k : Nat) (l : List UInt8), k ≤ t.size ∧ u = .string (str l) ∧ l.length = k ∧ l ++ toldL ((bytes t).drop k) ((bytes i).drop k) = toldL (bytes t) (bytes i) ∧ wr.heap[w.heap.size + 1]? = some (.stringIter t k) ∧ Blk wr w.heap.size 26 [.string t, .string i] ∧ Below w.heap.size w wr) (fun _ wr => t.size - wr.iterPos (w.heap.size + 1))
  case atStart =>
    refine ⟨0, [], Nat.zero_le _, rfl, rfl, rfl, ?_, hx.alloc _, ((Below.refl _ _).alloc (Nat.le_refl _) _).alloc (by simp) _⟩
    have := World.iter_heap (w.alloc (.cells #[.string t, .string i] 26)) t 0
    rwa [World.size_alloc] at this
  case round =>
    obtain ⟨k, l, hk, rfl, hl, hR, hit, hx, hb⟩ := hrel
    have HR := Lib.hid hR; clear hR
    have HL := Lib.hid hl; clear hl
    have hls : (str l).size ≤ 1048576 := by rw [str_size, HL.out]; omega
    by_cases hlt : k < t.size
    · have hasc : t[k].toNat < 128 := plB_ascii HP.out (bytes_get t k hlt)
      have hlt2 : k < i.size := by have := HT.out; omega
      have hnx := Lib.run_next_ascii_at (P := Try.prog) wr (w.heap.size + 1) t k 0 hit hlt hasc
      have hx2 : Blk (wr.iterAt (w.heap.size + 1) t (k + 1)) w.heap.size 26 [.string t, .string i] := (Lib.iterAt_other wr (w.heap.size + 1) w.heap.size t (k + 1) (by omega)).trans hx
      have hc0 : _ = some (Value.string t) := hx2.cell 0
      have hc1 : _ = some (Value.string i) := hx2.cell 1
      have HD := Lib.hid (bytes_drop t k hlt)
      have HE := Lib.hid (bytes_drop i k hlt2)
      by_cases hq : (i[k].toNat : Int) = 114
      · obtain ⟨r1, r2⟩ := red_letter (plB_at HP.out (bytes_get t k hlt)) (inkB_at HI.out (bytes_get t k hlt) (bytes_get i k hlt2)) hq
        obtain ⟨f1, f2⟩ := ne_f hq
        have HQ := Lib.hid hq; clear hq
        have hcv := HOB.out (wr.iterAt (w.heap.size + 1) t (k + 1)) ((t[k].toNat : Int) - 97 + 65) (by omega) (by omega)
        have hcb : UInt8.ofNat ((t[k].toNat : Int) - 97 + 65).toNat = t[k] - 32 := by
          rw [show ((t[k].toNat : Int) - 97 + 65).toNat = t[k].toNat - 32 by omega]
          apply UInt8.toNat_inj.1
          rw [UInt8.toNat_ofNat', UInt8.toNat_sub_of_le _ _ (by rw [UInt8.le_iff_toNat_le]; simp; omega)]
          simp
          omega
        rw [hcb] at hcv
        obtain ⟨cb, hcb2⟩ : ∃ cb, cb = t[k] - 32 := ⟨_, rfl⟩
        rw [← hcb2] at hcv
        have HCB := Lib.hid hcb2
        have hs1 : (str [cb]).size ≤ 1 := by rw [str_size]; simp
        clear hcb hcb2
        go_wp2_with fail
        go_roundw
        case rel => exact ⟨k + 1, l ++ [cb], by omega, by rw [str_append], by rw [List.length_append, HL.out]; rfl, by rw [← HR.out, HD.out, HE.out, toldL, if_pos (by have := HQ.out; omega), HCB.out, List.append_assoc]; rfl, (Below.heap_alloc _ _ _ (by rw [Lib.iterAt_size]; have := (Array.getElem?_eq_some_iff.1 hit).1; exact this)).trans (Lib.iterAt_heap wr _ t k (k + 1) hit), hx2.alloc _, (Lib.below_iterAt hb (by omega) _ _).alloc (by rw [Lib.iterAt_size]; exact hb.size) _⟩
        case measure =>
          have e1 := iterPos_of hit
          have e2 := iterPos_of ((Below.heap_alloc (wr.iterAt (w.heap.size + 1) t (k + 1)) (.cells #[.int .u8 ((t[k].toNat : Int) - 97 + 65)] 5) _ (by rw [Lib.iterAt_size]; have := (Array.getElem?_eq_some_iff.1 hit).1; exact this)).trans (Lib.iterAt_heap wr _ t k (k + 1) hit))
          rw [e1, e2]; omega
      · obtain ⟨f1, f2⟩ := ne_t hq
        have HQ := Lib.hid hq; clear hq
        go_wp2_with fail
        go_roundw
        case rel => exact ⟨k + 1, l ++ [t[k]], by omega, by rw [str_extract t k hlt, str_append], by rw [List.length_append, HL.out]; rfl, by rw [← HR.out, HD.out, HE.out, toldL, if_neg (by have := HQ.out; omega), List.append_assoc]; rfl, Lib.iterAt_heap wr _ t k (k + 1) hit, hx2, Lib.below_iterAt hb (by omega) _ _⟩
        case measure =>
          have e1 := iterPos_of hit
          have e2 := iterPos_of (Lib.iterAt_heap wr _ t k (k + 1) hit)
          rw [e1, e2]; omega
    · have hnx := Lib.run_next_end_at (P := Try.prog) wr (w.heap.size + 1) t k 0 hit hlt
      go_wp2_with fail
      go_ret
      refine ⟨?_, hb⟩
      have : l = toldL (bytes t) (bytes i) := by
        rw [← HR.out, List.drop_of_length_le (l := bytes t) (by rw [bytes_len]; omega)]
        simp [toldL]
      rw [← this]
      rfl
/-- InkedText. -/
def ikt (t i : ByteArray) : ByteArray × Bool := if ikB t i then (str (toldL (bytes t) (bytes i)), true) else (str [], false)
theorem ikt_spec (t i : ByteArray) (w : World) (ht : t.size ≤ 1048576) : Calls Try.prog 28 #[.agg #[.string t, .string i]] w fun e w' => e = .returned (.tuple #[.string (ikt t i).1, .bool (ikt t i).2]) ∧ Below w.heap.size w w' := by
  have hc : True := trivial; have hf : True := trivial; have hb := Below.refl (w.alloc (.cells #[.string t, .string i] 26)).heap.size (w.alloc (.cells #[.string t, .string i] 26))
  cases h1 : ikB t i
  · go_enter Try.func28, Try.ntmps28
    go_wp2_with (go_at_call 43; refine (coGood_any _ _ _ ht).mono ?_; rintro e1 w1 ⟨rfl, hn⟩; replace hb := hb.trans (hn.mono hb.size); clear hc hf hn; obtain ⟨hc, hf⟩ := bcell hb)
    go_ret2
    exact ⟨by simp [ikt, h1, str], Below.trans (by (repeat (first | exact Below.refl _ _ | exact hb | apply Below.drew | (refine Below.alloc ?_ (by first | (simp; done) | (simp; omega) | (have := hb.size; simp at this ⊢; omega)) _) | (refine Below.setCell ?_ (by simp) _)))) (hb.mono (by simp))⟩
  obtain ⟨g1, g2, g3, g4⟩ := ikB_true h1
  have hcf := fun w => coTold_any t i w ht g3 g1 g4
  have HC := Lib.hid hcf
  clear hcf g1 g2 g3 g4
  go_enter Try.func28, Try.ntmps28
  go_wp2_with (first | (go_at_call 43; refine (coGood_any _ _ _ ht).mono ?_; rintro e1 w1 ⟨rfl, hn⟩; replace hb := hb.trans (hn.mono hb.size); clear hc hf hn; obtain ⟨hc, hf⟩ := bcell hb) | (go_at_call 55; refine (HC.out _).mono ?_; rintro e1 w1 ⟨rfl, hn⟩; replace hb := hb.trans (hn.mono hb.size); clear hc hf hn; obtain ⟨hc, hf⟩ := bcell hb))
  go_ret2
  exact ⟨by simp [ikt, h1], Below.trans (by (repeat (first | exact Below.refl _ _ | exact hb | apply Below.drew | (refine Below.alloc ?_ (by first | (simp; done) | (simp; omega) | (have := hb.size; simp at this ⊢; omega)) _) | (refine Below.setCell ?_ (by simp) _)))) (hb.mono (by simp))⟩
theorem inkedText_any (t i : ByteArray) (w : World) (ht : t.size ≤ 1048576) (hti : t.size = i.size) (hp : plB (bytes t) = true) (hi : inkB (bytes t) (bytes i) = true) : Calls Try.prog 56 #[.agg #[.string t, .string i]] w fun e w' => e = .returned (.string (str (toldL (bytes t) (bytes i)))) ∧ Below w.heap.size w w' := by
  have hcv := fun w => run_bytes_of_string (P := Try.prog) w 9 58 5 t Try.underlying9 Try.underlying58 Try.underlying5
  have G3 := Lib.hid hti
  have HP := Lib.hid hp
  have HI := Lib.hid hi
  clear hti hp hi
  have hb := Below.refl (w.alloc (.cells #[.string t, .string i] 26)).heap.size (w.alloc (.cells #[.string t, .string i] 26))
  go_enter Try.func56, Try.ntmps56
  go_wp2_with fail
  have hsz : (w.alloc (.cells #[.string t, .string i] 26)).heap.size = w.heap.size + 1 := by simp
  have hblk := BBlk.new (w.alloc (.cells #[.string t, .string i] 26)).drew t (grownCap (w.alloc (.cells #[.string t, .string i] 26)) t.size 0 5)
  replace hb := (below_drewN hb 1).alloc hb.size (.cells (bytesRow t (grownCap (w.alloc (.cells #[.string t, .string i] 26)) t.size 0 5)) 5 ((bytesRow t (grownCap (w.alloc (.cells #[.string t, .string i] 26)) t.size 0 5)).size, (bytesRow t (grownCap (w.alloc (.cells #[.string t, .string i] 26)) t.size 0 5)).size + 1))
  replace hblk : BBlk _ (w.heap.size + 1) _ := hsz ▸ hblk
  go_loopw [10] (fun u wr => ∃ (k : Nat) (l : List UInt8), k ≤ t.size ∧ u = .int .i64 k ∧ l.length = t.size ∧ l.drop k = (bytes t).drop k ∧ l.take k ++ toldL ((bytes t).drop k) ((bytes i).drop k) = toldL (bytes t) (bytes i) ∧ BBlk wr (w.heap.size + 1) l ∧ Below (w.alloc (.cells #[.string t, .string i] 26)).heap.size (w.alloc (.cells #[.string t, .string i] 26)) wr) (fun u _ => t.size - (intOf u).toNat)
  case atStart => exact ⟨0, bytes t, Nat.zero_le _, rfl, bytes_len t, rfl, rfl, hblk, hb⟩
  case round =>
    clear hblk hb
    obtain ⟨k, l, hk, rfl, hl, hd, hR, hblk, hb⟩ := hrel
    have HR := Lib.hid hR; clear hR
    have HL := Lib.hid hl; clear hl
    have HD := Lib.hid hd; clear hd
    have hb4 := box_at hb 1
    have hc1 : _ = some (Value.string i) := hb4
    clear hb4
    by_cases hlt : k < t.size
    · have hlt2 : k < i.size := by have := G3.out; omega
      have l0 : (0 : Int) ≤ (k : Int) := by omega
      have l1 : (k : Int) < (i.size : Int) := by omega
      have HT := Lib.hid (bytes_drop t k hlt)
      have HE := Lib.hid (bytes_drop i k hlt2)
      by_cases hq : (i[k].toNat : Int) = 114
      · obtain ⟨f1, f2⟩ := ne_f hq
        obtain ⟨r1, r2⟩ := red_letter (plB_at HP.out (bytes_get t k hlt)) (inkB_at HI.out (bytes_get t k hlt) (bytes_get i k hlt2)) hq
        have HQ := Lib.hid hq; clear hq
        have hlk : k < l.length := by rw [HL.out]; exact hlt
        have hlc : l[k]? = some t[k] := (drop_facts (HD.out.trans HT.out)).1
        have hd := hblk.cell hlc
        have hfz := hblk.frozen hlk
        have hcb : ((t[k].toNat : Int) - 32) = ((t[k] - 32).toNat : Int) := by
          rw [UInt8.toNat_sub_of_le _ _ (by rw [UInt8.le_iff_toNat_le]; simp; omega)]
          simp
          omega
        have HCB := Lib.hid hcb; clear hcb hlc
        go_wp2_with fail
        go_roundw
        case rel =>
          obtain ⟨e2, e3⟩ := set_facts (t[k] - 32) (HD.out.trans HT.out)
          exact ⟨k + 1, l.set k (t[k] - 32), by omega, by go_num, by rw [List.length_set]; exact HL.out, e2, by rw [← HR.out, HT.out, HE.out, toldL, if_pos (by have := HQ.out; omega), e3, List.append_assoc]; rfl, by have := hblk.set_ k (t[k] - 32) hlk; rw [← HCB.out] at this; exact this, hb.setCell (by simp) _⟩
        case measure => simp [intOf]; omega
      · obtain ⟨f1, f2⟩ := ne_t hq
        have HQ := Lib.hid hq; clear hq
        go_wp2_with fail
        go_roundw
        case rel =>
          obtain ⟨_, e2, e3⟩ := drop_facts (HD.out.trans HT.out)
          exact ⟨k + 1, l, by omega, by go_num, HL.out, e2, by rw [← HR.out, HT.out, HE.out, toldL, if_neg (by have := HQ.out; omega), e3, List.append_assoc]; rfl, hblk, hb⟩
        case measure => simp [intOf]; omega
    · have hfin : l = toldL (bytes t) (bytes i) := by
        have e := HR.out
        rw [List.drop_of_length_le (l := bytes t) (by rw [bytes_len]; omega), List.take_of_length_le (by rw [HL.out]; omega)] at e
        simpa [toldL] using e
      have HF := Lib.hid hfin
      have hcv2 := fun cap => bytes_back (cap := cap) hblk HL.out
      clear hfin hcv
      go_wp2_with fail
      go_ret
      refine ⟨?_, Below.trans (by (repeat (first | exact Below.refl _ _ | exact hb | apply Below.drew | (refine Below.alloc ?_ (by first | (simp; done) | (simp; omega) | (have := hb.size; simp at this ⊢; omega)) _) | (refine Below.setCell ?_ (by simp) _)))) (hb.mono (by simp))⟩
      rw [← HF.out]
      rfl
theorem ikt_impl (t i : ByteArray) (w : World) (ht : t.size ≤ 1048576) : Calls Try.prog 29 #[.agg #[.string t, .string i]] w fun e w' => e = .returned (.tuple #[.string (ikt t i).1, .bool (ikt t i).2]) ∧ Below w.heap.size w w' := by
  have hc : True := trivial; have hf : True := trivial; have hb := Below.refl (w.alloc (.cells #[.string t, .string i] 26)).heap.size (w.alloc (.cells #[.string t, .string i] 26))
  cases h1 : ikB t i
  · go_enter Try.func29, Try.ntmps29
    go_wp2_with (go_at_call 16; refine (isInked_any _ _ _ ht).mono ?_; rintro e1 w1 ⟨rfl, hn⟩; replace hb := hb.trans (hn.mono hb.size); clear hc hf hn; obtain ⟨hc, hf⟩ := bcell hb)
    go_ret2
    exact ⟨by simp [ikt, h1, str], Below.trans (by (repeat (first | exact Below.refl _ _ | exact hb | apply Below.drew | (refine Below.alloc ?_ (by first | (simp; done) | (simp; omega) | (have := hb.size; simp at this ⊢; omega)) _) | (refine Below.setCell ?_ (by simp) _)))) (hb.mono (by simp))⟩
  obtain ⟨g1, g2, g3, g4⟩ := ikB_true h1
  have hcf := fun w => inkedText_any t i w ht g3 g1 g4
  have HC := Lib.hid hcf
  clear hcf g1 g2 g3 g4
  go_enter Try.func29, Try.ntmps29
  go_wp2_with (first | (go_at_call 16; refine (isInked_any _ _ _ ht).mono ?_; rintro e1 w1 ⟨rfl, hn⟩; replace hb := hb.trans (hn.mono hb.size); clear hc hf hn; obtain ⟨hc, hf⟩ := bcell hb) | (go_at_call 56; refine (HC.out _).mono ?_; rintro e1 w1 ⟨rfl, hn⟩; replace hb := hb.trans (hn.mono hb.size); clear hc hf hn; obtain ⟨hc, hf⟩ := bcell hb))
  go_ret2
  exact ⟨by simp [ikt, h1], Below.trans (by (repeat (first | exact Below.refl _ _ | exact hb | apply Below.drew | (refine Below.alloc ?_ (by first | (simp; done) | (simp; omega) | (have := hb.size; simp at this ⊢; omega)) _) | (refine Below.setCell ?_ (by simp) _)))) (hb.mono (by simp))⟩
theorem inkedTextLaw (W : World) (t i : ByteArray) (ht : t.size ≤ maxLen) (hi : i.size ≤ maxLen) : Calls Try.prog 8 #[.agg #[.string t, .string i]] W fun e W' => e = .returned (.bool true) ∧ Below W.heap.size W W' := by
  have hc : True := trivial; have hf : True := trivial; have hb := Below.refl (W.alloc (.cells #[.string t, .string i] 23)).heap.size (W.alloc (.cells #[.string t, .string i] 23))
  have hz : 0 ≤ szI t i 1048576 ∨ szI t i 1048576 < 0 := by omega
  rcases hz with hz | hz
  · have hk := szI_ok hz (by omega)
    have HK := Lib.hid hk; clear hk
    go_enter Try.func8, Try.ntmps8
    go_wp2_with (first | (go_at_call 13; refine (szInked_any _ _ _ _ ht hi (by omega)).mono ?_; rintro e1 w1 ⟨rfl, hn⟩; replace hb := hb.trans (hn.mono hb.size); clear hc hf hn; obtain ⟨hc, hf⟩ := bcell hb) | (go_at_call 15; refine (toInked_any _ _ _).mono ?_; rintro e1 w1 ⟨rfl, hn⟩; replace hb := hb.trans (hn.mono hb.size); clear hc hf hn; obtain ⟨hc, hf⟩ := bcell hb) | (go_at_call 28; refine (ikt_spec _ _ _ HK.out.1).mono ?_; rintro e1 w1 ⟨rfl, hn⟩; replace hb := hb.trans (hn.mono hb.size); clear hc hf hn; obtain ⟨hc, hf⟩ := bcell hb) | (go_at_call 29; refine (ikt_impl _ _ _ HK.out.1).mono ?_; rintro e1 w1 ⟨rfl, hn⟩; replace hb := hb.trans (hn.mono hb.size); clear hc hf hn; obtain ⟨hc, hf⟩ := bcell hb))
    go_ret; exact ⟨rfl, Below.trans (by (repeat (first | exact Below.refl _ _ | exact hb | apply Below.drew | (refine Below.alloc ?_ (by first | (simp; done) | (simp; omega) | (have := hb.size; simp at this ⊢; omega)) _) | (refine Below.setCell ?_ (by simp) _)))) (hb.mono (by simp))⟩
  · go_enter Try.func8, Try.ntmps8
    go_wp2_with (go_at_call 13; refine (szInked_any _ _ _ _ ht hi (by omega)).mono ?_; rintro e1 w1 ⟨rfl, hn⟩; replace hb := hb.trans (hn.mono hb.size); clear hc hf hn; obtain ⟨hc, hf⟩ := bcell hb)
    go_ret; exact ⟨rfl, Below.trans (by (repeat (first | exact Below.refl _ _ | exact hb | apply Below.drew | (refine Below.alloc ?_ (by first | (simp; done) | (simp; omega) | (have := hb.size; simp at this ⊢; omega)) _) | (refine Below.setCell ?_ (by simp) _)))) (hb.mono (by simp))⟩
end Go.Proofs.Ytanpiipmoedfnaa
