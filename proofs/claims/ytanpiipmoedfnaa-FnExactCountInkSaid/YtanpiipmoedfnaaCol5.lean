/-
  Contracts of CountInk and its law.
-/
import Derived.Test.YtanpiipmoedfnaaCol3
import Derived.Test.YtanpiipmoedfnaaColS
namespace Go.Proofs.Ytanpiipmoedfnaa
open Go.RowKit
def cntL (c : UInt8) : List UInt8 → List UInt8 → Nat
  | a :: r, d :: s => (if (a.toNat : Int) ≠ 32 ∧ d = c then 1 else 0) + cntL c r s
  | _, _ => 0
theorem cntL_le (c : UInt8) : ∀ t i : List UInt8, cntL c t i ≤ t.length
  | [], _ => by simp [cntL]
  | _ :: _, [] => by simp [cntL]
  | a :: r, d :: s => by
    have := cntL_le c r s
    simp only [cntL, List.length_cons]
    split <;> omega
theorem forme_count (c : UInt8) : ∀ t i : List UInt8, (formeL c t i).length = cntL c t i + Lib.countByte (formeL c t i) 32
  | [], _ => by simp [cntL, formeL, Lib.countByte]
  | _ :: _, [] => by simp [cntL, formeL, Lib.countByte]
  | a :: r, d :: s => by
    have h := forme_count c r s
    unfold Lib.countByte at h ⊢
    by_cases hd : d = c
    · by_cases ha : a = 32
      · simp only [formeL, cntL, hd, ha, if_true]
        rw [if_neg (by simp), List.length_cons, List.count_cons_self]
        omega
      · have ha' : (a.toNat : Int) ≠ 32 := fun e => ha (UInt8.toNat_inj.1 (by simp; omega))
        simp only [formeL, cntL, hd, if_true]
        rw [if_pos ⟨ha', trivial⟩, List.length_cons, List.count_cons_of_ne ha]
        omega
    · simp only [formeL, cntL, hd, if_false, and_false]
      rw [List.length_cons, List.count_cons_self]
      omega
def ci (t i s : ByteArray) : Int × Bool := if ikB t i && ikC s then ((cntL ((bytes s).headD 0) (bytes t) (bytes i) : Nat), true) else (0, false)
theorem fo_ci (t i s : ByteArray) : ((fo t i s).1.size : Int) - (Lib.countByte (fo t i s).1.data.toList 32 : Nat) = (ci t i s).1 ∧ (fo t i s).2 = (ci t i s).2 := by
  unfold fo ci
  split
  · have h := forme_count ((bytes s).headD 0) (bytes t) (bytes i)
    refine ⟨?_, rfl⟩
    simp only []
    rw [str_size]
    show _ - ((Lib.countByte (formeL _ _ _).toArray.toList 32 : Nat) : Int) = _
    simp only []
    omega
  · exact ⟨by simp [str, Lib.countByte, ByteArray.size], rfl⟩
theorem fo_size (t i s : ByteArray) (ht : t.size ≤ 1048576) : (fo t i s).1.size ≤ 1048576 := by
  have h : ∀ (c : UInt8) (t i : List UInt8), (formeL c t i).length ≤ t.length := by
    intro c t
    induction t with
    | nil => intro i; simp [formeL]
    | cons a r ih =>
      intro i
      cases i with
      | nil => simp [formeL]
      | cons d s => simp only [formeL, List.length_cons]; have := ih s; omega
  unfold fo
  split
  · simp only []
    rw [str_size]
    have := h ((bytes s).headD 0) (bytes t) (bytes i)
    rw [bytes_len] at this
    omega
  · simp [str_size]
theorem ci_impl (t i s : ByteArray) (w : World) (ht : t.size ≤ 1048576) : Calls Try.prog 42 #[.agg #[.string t, .string i], .string s] w fun e w' => e = .returned (.tuple #[.int .i64 (ci t i s).1, .bool (ci t i s).2]) ∧ Below w.heap.size w w' := by
  have hc : True := trivial; have hf : True := trivial; have hb := Below.refl (w.alloc (.cells #[.string t, .string i] 26)).heap.size (w.alloc (.cells #[.string t, .string i] 26))
  have hcount := fo_ci t i s
  have hsz := fo_size t i s ht
  have hct : Lib.countByte (fo t i s).1.data.toList 32 ≤ (fo t i s).1.size := by
    unfold Lib.countByte
    exact List.count_le_length
  have HC := Lib.hid hcount; clear hcount
  have HO : ∀ w, Calls Try.prog 27 #[.agg #[.string t, .string i], .string s] w fun e w' => e = .returned (.tuple #[.string (fo t i s).1, .bool (fo t i s).2]) ∧ Below w.heap.size w w' := fun w => fo_impl t i s w ht
  rw [← HC.out.1, ← HC.out.2]
  obtain ⟨F, hF⟩ : ∃ F, F = (fo t i s).1 := ⟨_, rfl⟩
  obtain ⟨G, hG⟩ : ∃ G, G = (fo t i s).2 := ⟨_, rfl⟩
  rw [← hF, ← hG] at HO ⊢
  rw [← hF] at hsz hct
  clear HC hF hG
  go_enter Try.func42, Try.ntmps42
  go_wp2_with (first | (go_at_call 27; refine (HO _).mono ?_; rintro e1 w1 ⟨rfl, hn⟩; replace hb := hb.trans (hn.mono hb.size); clear hc hf hn; obtain ⟨hc, hf⟩ := bcell hb) | (refine (Try.strings_Count_one _ _ _).mono ?_; rintro e2 w2 ⟨rfl, rfl⟩))
  go_ret2
  exact ⟨rfl, Below.trans (by (repeat (first | exact Below.refl _ _ | exact hb | apply Below.drew | (refine Below.alloc ?_ (by first | (simp; done) | (simp; omega) | (have := hb.size; simp at this ⊢; omega)) _) | (refine Below.setCell ?_ (by simp) _)))) (hb.mono (by simp))⟩
theorem ci_spec (t i s : ByteArray) (w : World) (ht : t.size ≤ 1048576) : Calls Try.prog 41 #[.agg #[.string t, .string i], .string s] w fun e w' => e = .returned (.tuple #[.int .i64 (ci t i s).1, .bool (ci t i s).2]) ∧ Below w.heap.size w w' := by
  have hc : True := trivial; have hf : True := trivial; have hb := Below.refl (w.alloc (.cells #[.string t, .string i] 26)).heap.size (w.alloc (.cells #[.string t, .string i] 26))
  cases h1 : ikB t i
  · (go_enter Try.func41, Try.ntmps41; go_wp2_with (first | (go_at_call 43; refine (coGood_any _ _ _ ht).mono ?_; rintro e1 w1 ⟨rfl, hn⟩; replace hb := hb.trans (hn.mono hb.size); clear hc hf hn; obtain ⟨hc, hf⟩ := bcell hb) | (go_at_call 52; refine (coInk_any _ _).mono ?_; rintro e1 w1 ⟨rfl, rfl⟩)))
    go_ret2
    exact ⟨by simp [ci, h1], Below.trans (by (repeat (first | exact Below.refl _ _ | exact hb | apply Below.drew | (refine Below.alloc ?_ (by first | (simp; done) | (simp; omega) | (have := hb.size; simp at this ⊢; omega)) _) | (refine Below.setCell ?_ (by simp) _)))) (hb.mono (by simp))⟩
  cases h2 : ikC s
  · (go_enter Try.func41, Try.ntmps41; go_wp2_with (first | (go_at_call 43; refine (coGood_any _ _ _ ht).mono ?_; rintro e1 w1 ⟨rfl, hn⟩; replace hb := hb.trans (hn.mono hb.size); clear hc hf hn; obtain ⟨hc, hf⟩ := bcell hb) | (go_at_call 52; refine (coInk_any _ _).mono ?_; rintro e1 w1 ⟨rfl, rfl⟩)))
    go_ret2
    exact ⟨by simp [ci, h1, h2], Below.trans (by (repeat (first | exact Below.refl _ _ | exact hb | apply Below.drew | (refine Below.alloc ?_ (by first | (simp; done) | (simp; omega) | (have := hb.size; simp at this ⊢; omega)) _) | (refine Below.setCell ?_ (by simp) _)))) (hb.mono (by simp))⟩
  obtain ⟨g1, g2, g3, g4⟩ := ikB_true h1
  obtain ⟨c, rfl⟩ : ∃ c, s = str [c] := by rcases ikC_true h2 with h | h <;> exact ⟨_, h⟩
  have hR : ci t i (str [c]) = (((cntL c (bytes t) (bytes i) : Nat) : Int), true) := by simp [ci, h1, h2, bytes_str]
  rw [hR]
  have HT := Lib.hid g3
  have HP := Lib.hid g1
  clear g1 g2 g3 g4 hR
  (go_enter Try.func41, Try.ntmps41; go_wp2_with (first | (go_at_call 43; refine (coGood_any _ _ _ ht).mono ?_; rintro e1 w1 ⟨rfl, hn⟩; replace hb := hb.trans (hn.mono hb.size); clear hc hf hn; obtain ⟨hc, hf⟩ := bcell hb) | (go_at_call 52; refine (coInk_any _ _).mono ?_; rintro e1 w1 ⟨rfl, rfl⟩)))
  have hlw : w.heap.size < w1.heap.size := by have := hb.size; simp at this; omega
  go_loopw [6] (fun u wr => ∃ k m : Nat, k ≤ t.size ∧ u = .int .i64 m ∧ m ≤ k ∧ m + cntL c ((bytes t).drop k) ((bytes i).drop k) = cntL c (bytes t) (bytes i) ∧ wr.heap[w1.heap.size]? = some (.stringIter t k) ∧ Below (w.alloc (.cells #[.string t, .string i] 26)).heap.size (w.alloc (.cells #[.string t, .string i] 26)) wr) (fun _ wr => t.size - wr.iterPos w1.heap.size)
  case atStart => exact ⟨0, 0, Nat.zero_le _, rfl, Nat.zero_le _, by simp, World.iter_heap w1 t 0, hb.alloc hb.size _⟩
  case round =>
    clear hb hc hf
    obtain ⟨k, m, hk, rfl, hm, hR, hit, hb⟩ := hrel
    have HR := Lib.hid hR; clear hR
    by_cases hlt : k < t.size
    · have hasc : t[k].toNat < 128 := plB_ascii HP.out (bytes_get t k hlt)
      have hlt2 : k < i.size := by have := HT.out; omega
      have hnx := Lib.run_next_ascii_at (P := Try.prog) wr w1.heap.size t k 0 hit hlt hasc
      have hb2 := Lib.below_iterAt hb (by simp; omega) t (k + 1) (k := w1.heap.size)
      have hc0 : _ = some (Value.string t) := box_at hb2 0
      have hc1 : _ = some (Value.string i) := box_at hb2 1
      have HD := Lib.hid (bytes_drop t k hlt)
      have HE := Lib.hid (bytes_drop i k hlt2)
      have hgo : ∀ (z : Nat), z ≤ 1 → (z = if (t[k].toNat : Int) ≠ 32 ∧ i[k] = c then 1 else 0) → ∃ k' m' : Nat, k' ≤ t.size ∧ Value.int .i64 ((m : Int) + z) = .int .i64 m' ∧ m' ≤ k' ∧ m' + cntL c ((bytes t).drop k') ((bytes i).drop k') = cntL c (bytes t) (bytes i) ∧ (wr.iterAt w1.heap.size t (k + 1)).heap[w1.heap.size]? = some (.stringIter t k') ∧ Below (w.alloc (.cells #[.string t, .string i] 26)).heap.size (w.alloc (.cells #[.string t, .string i] 26)) (wr.iterAt w1.heap.size t (k + 1)) := by
        intro z hz1 hz
        exact ⟨k + 1, m + z, by omega, by simp, by omega, by rw [← HR.out, HD.out, HE.out, cntL, ← hz]; omega, Lib.iterAt_heap wr _ t k (k + 1) hit, hb2⟩
      have HG := Lib.hid hgo; clear hgo hb2
      have hms : t.size - (wr.iterAt w1.heap.size t (k + 1)).iterPos w1.heap.size < t.size - wr.iterPos w1.heap.size := by
        rw [iterPos_of hit, iterPos_of (Lib.iterAt_heap wr _ t k (k + 1) hit)]
        omega
      have HM := Lib.hid hms; clear hms
      by_cases q1 : (t[k].toNat : Int) = 32
      · obtain ⟨f1, f2⟩ := ne_f q1
        have HQ := Lib.hid q1; clear q1
        go_wp2_with fail
        go_roundw
        case rel => have := HG.out 0 (by omega) (by rw [if_neg (fun h => h.1 HQ.out)]); simpa using this
        case measure => exact HM.out
      · obtain ⟨f1, f2⟩ := ne_t q1
        have HQ := Lib.hid q1; clear q1
        by_cases q2 : i[k] = c
        · have htest : ((i.extract k (k + 1)).toList == (str [c]).toList) = true := by rw [str_extract i k hlt2, str_toList, str_toList, q2]; simp
          have HQ2 := Lib.hid q2; clear q2
          go_wp2_with fail
          go_roundw
          case rel => exact HG.out 1 (by omega) (by rw [if_pos ⟨HQ.out, HQ2.out⟩])
          case measure => exact HM.out
        · have htest : ((i.extract k (k + 1)).toList == (str [c]).toList) = false := by rw [str_extract i k hlt2, str_toList, str_toList]; simp [q2]
          have HQ2 := Lib.hid q2; clear q2
          go_wp2_with fail
          go_roundw
          case rel => have := HG.out 0 (by omega) (by rw [if_neg (fun h => HQ2.out h.2)]); simpa using this
          case measure => exact HM.out
    · have hnx := Lib.run_next_end_at (P := Try.prog) wr w1.heap.size t k 0 hit hlt
      have : m = cntL c (bytes t) (bytes i) := by
        rw [← HR.out, List.drop_of_length_le (l := bytes t) (by rw [bytes_len]; omega)]
        simp [cntL]
      have HF := Lib.hid this; clear this
      go_wp2_with fail
      go_ret2
      refine ⟨?_, Below.trans (by (repeat (first | exact Below.refl _ _ | exact hb | apply Below.drew | (refine Below.alloc ?_ (by first | (simp; done) | (simp; omega) | (have := hb.size; simp at this ⊢; omega)) _) | (refine Below.setCell ?_ (by simp) _)))) (hb.mono (by simp))⟩
      rw [← HF.out]
      rfl
theorem countInkLaw (W : World) (t i : ByteArray) (ht : t.size ≤ maxLen) (hi : i.size ≤ maxLen) (s : ByteArray) (hs : s.size ≤ maxLen) : Calls Try.prog 12 #[.agg #[.string t, .string i], .string s] W fun e W' => e = .returned (.bool true) ∧ Below W.heap.size W W' := by
  have hs' := hs
  unfold maxLen at hs'
  have hc : True := trivial; have hf : True := trivial; have hb := Below.refl (W.alloc (.cells #[.string t, .string i] 23)).heap.size (W.alloc (.cells #[.string t, .string i] 23))
  by_cases hbig : 1048576 < s.size
  · go_enter Try.func12, Try.ntmps12
    go_wp2_with fail
    go_ret; exact ⟨rfl, Below.trans (by (repeat (first | exact Below.refl _ _ | exact hb | apply Below.drew | (refine Below.alloc ?_ (by first | (simp; done) | (simp; omega) | (have := hb.size; simp at this ⊢; omega)) _) | (refine Below.setCell ?_ (by simp) _)))) (hb.mono (by simp))⟩
  have hz : 0 ≤ szI t i 1048576 ∨ szI t i 1048576 < 0 := by omega
  rcases hz with hz | hz
  · have hk := szI_ok hz (by omega)
    have HK := Lib.hid hk; clear hk
    go_enter Try.func12, Try.ntmps12
    go_wp2_with (first | (go_at_call 13; refine (szInked_any _ _ _ _ ht hi (by omega)).mono ?_; rintro e1 w1 ⟨rfl, hn⟩; replace hb := hb.trans (hn.mono hb.size); clear hc hf hn; obtain ⟨hc, hf⟩ := bcell hb) | (go_at_call 15; refine (toInked_any _ _ _).mono ?_; rintro e1 w1 ⟨rfl, hn⟩; replace hb := hb.trans (hn.mono hb.size); clear hc hf hn; obtain ⟨hc, hf⟩ := bcell hb) | (go_at_call 41; refine (ci_spec _ _ _ _ HK.out.1).mono ?_; rintro e1 w1 ⟨rfl, hn⟩; replace hb := hb.trans (hn.mono hb.size); clear hc hf hn; obtain ⟨hc, hf⟩ := bcell hb) | (go_at_call 42; refine (ci_impl _ _ _ _ HK.out.1).mono ?_; rintro e1 w1 ⟨rfl, hn⟩; replace hb := hb.trans (hn.mono hb.size); clear hc hf hn; obtain ⟨hc, hf⟩ := bcell hb))
    go_ret; exact ⟨rfl, Below.trans (by (repeat (first | exact Below.refl _ _ | exact hb | apply Below.drew | (refine Below.alloc ?_ (by first | (simp; done) | (simp; omega) | (have := hb.size; simp at this ⊢; omega)) _) | (refine Below.setCell ?_ (by simp) _)))) (hb.mono (by simp))⟩
  · go_enter Try.func12, Try.ntmps12
    go_wp2_with (go_at_call 13; refine (szInked_any _ _ _ _ ht hi (by omega)).mono ?_; rintro e1 w1 ⟨rfl, hn⟩; replace hb := hb.trans (hn.mono hb.size); clear hc hf hn; obtain ⟨hc, hf⟩ := bcell hb)
    go_ret; exact ⟨rfl, Below.trans (by (repeat (first | exact Below.refl _ _ | exact hb | apply Below.drew | (refine Below.alloc ?_ (by first | (simp; done) | (simp; omega) | (have := hb.size; simp at this ⊢; omega)) _) | (refine Below.setCell ?_ (by simp) _)))) (hb.mono (by simp))⟩
end Go.Proofs.Ytanpiipmoedfnaa
