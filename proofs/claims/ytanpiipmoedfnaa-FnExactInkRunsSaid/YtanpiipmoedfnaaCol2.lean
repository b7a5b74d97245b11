/-
  Contracts of FormeOf and its like.
-/
import Derived.Test.YtanpiipmoedfnaaCol
import Derived.Lib.OthersKept
import Derived.Lib.Strings
import Derived.Deep.QuietTactic
import Derived.BigQuiet
namespace Go.Proofs.Ytanpiipmoedfnaa
open Go.RowKit
def str (l : List UInt8) : ByteArray := ⟨l.toArray⟩
theorem bytes_str (l : List UInt8) : bytes (str l) = l := by simp [bytes, str]
theorem str_bytes (s : ByteArray) : str (bytes s) = s := bytes_ext (bytes_str _)
theorem str_size (l : List UInt8) : (str l).size = l.length := by simp [str, ByteArray.size]
theorem str_append (l m : List UInt8) : str l ++ str m = str (l ++ m) := bytes_ext (by simp [bytes, str])
theorem str_extract (s : ByteArray) (k : Nat) (h : k < s.size) : s.extract k (k + 1) = str [s[k]] := by
  refine bytes_ext ?_
  rw [bytes_str]
  show (s.extract k (k + 1)).data.toList = _
  rw [Lib.extract_data, show s.data.toList.drop k = s[k] :: s.data.toList.drop (k + 1) from bytes_drop s k h]
  simp
theorem str_toList (l : List UInt8) : (str l).toList = l := by rw [ByteArray.toList_eq]; simp [str]
theorem str_size1 (s : ByteArray) (k : Nat) (h : k < s.size) : (s.extract k (k + 1)).size = 1 := by rw [str_extract s k h, str_size]; rfl
theorem plB_ascii : ∀ {l : List UInt8} {k : Nat} {c : UInt8}, plB l = true → l[k]? = some c → c.toNat < 128
  | [], _, _, _, h => by simp at h
  | d :: r, 0, c, hp, h => by
    simp at h
    subst h
    simp only [plB, Bool.and_eq_true, plC, Bool.or_eq_true, decide_eq_true_eq] at hp
    omega
  | d :: r, k + 1, c, hp, h => by
    simp only [plB, Bool.and_eq_true] at hp
    exact plB_ascii hp.2 (by simpa using h)
def ikC (s : ByteArray) : Bool := s.toList == [98] || s.toList == [114]
theorem ikC_true {s : ByteArray} (h : ikC s = true) : s = str [98] ∨ s = str [114] := by
  simp only [ikC, Bool.or_eq_true, beq_iff_eq, ByteArray.toList_eq] at h
  rcases h with h | h
  · left; exact bytes_ext (by rw [bytes_str]; exact h)
  · right; exact bytes_ext (by rw [bytes_str]; exact h)
def formeL (c : UInt8) : List UInt8 → List UInt8 → List UInt8
  | a :: r, d :: s => (if d = c then a else 32) :: formeL c r s
  | _, _ => []
theorem coForme_any (t i : ByteArray) (c : UInt8) (w : World) (ht : t.size ≤ 1048576) (hti : t.size = i.size) (hp : plB (bytes t) = true) : Calls Try.prog 53 #[.agg #[.string t, .string i], .string (str [c])] w fun e w' => e = .returned (.string (str (formeL c (bytes t) (bytes i)))) ∧ Below w.heap.size w w' := by
  have hx := (Blk.new' w 26 #[.string t, .string i])
  have HT := Lib.hid hti
  have HP := Lib.hid hp
  clear hti hp
  go_enter Try.func53, Try.ntmps53
  go_wp2_with fail
  go_loopw [5] (fun u wr => ∃ (k : Nat) (l : List UInt8), k ≤ t.size ∧ u = .string (str l) ∧ l.length = k ∧ l ++ formeL c ((bytes t).drop k) ((bytes i).drop k) = formeL c (bytes t) (bytes i) ∧ wr = (w.alloc (.cells #[.string t, .string i] 26)).iter t k) (fun _ wr => t.size - wr.iterPos (w.heap.size + 1))
  case atStart => 
    refine ⟨0, [], Nat.zero_le _, rfl, rfl, rfl, ?_⟩
    rfl
  case round =>
    obtain ⟨k, l, hk, rfl, hl, hR, rfl⟩ := hrel
    have HR := Lib.hid hR; clear hR
    have HL := Lib.hid hl; clear hl
    have hls : (str l).size ≤ 1048576 := by rw [str_size, HL.out]; omega
    by_cases hlt : k < t.size
    · have hasc : t[k].toNat < 128 := plB_ascii HP.out (bytes_get t k hlt)
      have hlt2 : k < i.size := by have := HT.out; omega
      have hnx := run_next_ascii (P := Try.prog) (w.alloc (.cells #[.string t, .string i] 26)) t k 0 hlt hasc
      rw [World.size_alloc] at hnx
      have hcell : ∀ j, ((w.alloc (.cells #[.string t, .string i] 26)).iter t (k + 1)).cell? ⟨w.heap.size, j, none⟩ = [Value.string t, .string i][j]? := fun j => (hx.alloc _).cell j
      have hc0 : _ = some (Value.string t) := hcell 0
      have hc1 : _ = some (Value.string i) := hcell 1
      clear hcell
      have HD := Lib.hid (bytes_drop t k hlt)
      have HE := Lib.hid (bytes_drop i k hlt2)
      by_cases hq : i[k] = c
      · have htest : ((i.extract k (k + 1)).toList == (str [c]).toList) = true := by rw [str_extract i k hlt2, str_toList, str_toList, hq]; simp
        have HQ := Lib.hid hq; clear hq
        go_wp2_with fail
        go_roundw
        case rel => exact ⟨k + 1, l ++ [t[k]], by omega, by rw [str_extract t k hlt, str_append], by rw [List.length_append, HL.out]; rfl, by rw [← HR.out, HD.out, HE.out, formeL, if_pos HQ.out, List.append_assoc]; rfl, rfl⟩
        case measure => 
          have e := World.iterPos_iter (w.alloc (.cells #[.string t, .string i] 26)) t
          rw [World.size_alloc] at e
          rw [e, e]; omega
      · have htest : ((i.extract k (k + 1)).toList == (str [c]).toList) = false := by rw [str_extract i k hlt2, str_toList, str_toList]; simp [hq]
        have HQ := Lib.hid hq; clear hq
        go_wp2_with fail
        go_roundw
        case rel => exact ⟨k + 1, l ++ [32], by omega, by rw [← str_append]; rfl, by rw [List.length_append, HL.out]; rfl, by rw [← HR.out, HD.out, HE.out, formeL, if_neg HQ.out, List.append_assoc]; rfl, rfl⟩
        case measure => 
          have e := World.iterPos_iter (w.alloc (.cells #[.string t, .string i] 26)) t
          rw [World.size_alloc] at e
          rw [e, e]; omega
    · have hnx := run_next_end (P := Try.prog) (w.alloc (.cells #[.string t, .string i] 26)) t k 0 hlt
      rw [World.size_alloc] at hnx
      go_wp2_with fail
      go_ret
      refine ⟨?_, ((Below.refl _ _).alloc (Nat.le_refl _) _).alloc (by simp) _⟩
      have : l = formeL c (bytes t) (bytes i) := by
        rw [← HR.out, List.drop_of_length_le (l := bytes t) (by rw [bytes_len]; omega)]
        simp [formeL]
      rw [← this]
      rfl
/-- Block g holds the bytes l (and maybe more behind them), none of these frozen. -/
def BBlk (w : World) (g : Nat) (l : List UInt8) : Prop :=
  ∃ cs fr, w.heap[g]? = some (.cells cs 5 fr) ∧ (∀ (j : Nat) (c : UInt8), l[j]? = some c → cs[j]? = some (Value.int .u8 (c.toNat : Int))) ∧ ∀ j : Nat, j < l.length → ¬ (fr.1 ≤ j ∧ j < fr.2)
section
variable {w w' : World} {g : Nat} {l : List UInt8}
theorem BBlk.lt (h : BBlk w g l) : g < w.heap.size := by
  obtain ⟨cs, fr, h, _⟩ := h
  exact (Array.getElem?_eq_some_iff.1 h).1
theorem BBlk.cell (h : BBlk w g l) {j : Nat} {c : UInt8} (hj : l[j]? = some c) : w.cell? ⟨g, j, none⟩ = some (.int .u8 (c.toNat : Int)) := by
  obtain ⟨cs, fr, h, hc, _⟩ := h
  rw [cell_of_row w g j cs _ fr h]
  exact hc j c hj
theorem BBlk.frozen (h : BBlk w g l) {j : Nat} (hj : j < l.length) : w.frozen? ⟨g, j, none⟩ = false := by
  obtain ⟨cs, fr, h, _, hf⟩ := h
  have := hf j hj
  simp only [World.frozen?, h]
  simp only [Bool.and_eq_false_iff, decide_eq_false_iff_not]
  omega
theorem BBlk.drewN (h : BBlk w g l) (n : Nat) : BBlk (w.drewN n) g l := h
theorem BBlk.alloc (h : BBlk w g l) (o : Obj) : BBlk (w.alloc o) g l := by
  have hl := h.lt
  obtain ⟨cs, fr, h, hr⟩ := h
  exact ⟨cs, fr, (Below.heap_alloc w o g hl).trans h, hr⟩
theorem BBlk.below {B : Nat} (h : BBlk w g l) (hb : Below B w w') (hg : g < B) : BBlk w' g l := by
  obtain ⟨cs, fr, h, hr⟩ := h
  exact ⟨cs, fr, (hb.block g hg).trans h, hr⟩
theorem BBlk.far (h : BBlk w g l) {p : Addr} (hp : g ≠ p.block) (u : Value) : BBlk (w.setCell p u) g l := by
  obtain ⟨cs, fr, h, hr⟩ := h
  exact ⟨cs, fr, (Below.heap_setCell w p u g hp).trans h, hr⟩
theorem BBlk.set_ (h : BBlk w g l) (k : Nat) (c : UInt8) (hk : k < l.length) : BBlk (w.setCell ⟨g, k, none⟩ (.int .u8 (c.toNat : Int))) g (l.set k c) := by
  obtain ⟨cs, fr, h, hc, hf⟩ := h
  have hkc : k < cs.size := (Array.getElem?_eq_some_iff.1 (hc k _ (List.getElem?_eq_getElem hk))).1
  refine ⟨cs.setIfInBounds k (.int .u8 (c.toNat : Int)), fr, by simp [World.setCell, Array.getElem?_modify, h], fun j d hj => ?_, fun j hj => hf j (by simpa using hj)⟩
  by_cases e : k = j
  · subst e
    rw [List.getElem?_set_self hk] at hj
    injection hj with hj
    subst hj
    simp [hkc]
  · rw [List.getElem?_set_ne e] at hj
    simp only [Array.getElem?_setIfInBounds, e, if_false]
    exact hc j d hj
end
theorem BBlk.new (w : World) (s : ByteArray) (n : Nat) : BBlk (w.alloc (.cells (bytesRow s n) 5 ((bytesRow s n).size, (bytesRow s n).size + 1))) w.heap.size (bytes s) := by
  have hsz : (bytes s).length ≤ (bytesRow s n).size := by rw [bytes_len]; simp [bytesRow]
  refine ⟨_, _, heap_alloc_new w _, fun j c hj => ?_, fun j hj => by simp only []; omega⟩
  have hl : j < s.data.size := by have := (List.getElem?_eq_some_iff.1 hj).1; simpa [bytes] using this
  simp only [bytes, Array.getElem?_toList] at hj
  rw [bytesRow, Array.getElem?_append_left (by simpa using hl), Array.getElem?_map, hj]
  rfl
/-- A string made of the bytes of a block. -/
theorem bytes_back {w : World} {g cap n : Nat} {l : List UInt8} (h : BBlk w g l) (hn : l.length = n) : (convert 58 9 (.slice (some ⟨g, 0, none⟩) n cap)).run Try.prog w = .ok (.string (str l)) w := by
  subst hn
  refine run_convert_bytes_back w _ _ 5 _ cap l Try.underlying58 Try.underlying5 Try.underlying9 (fun j hj => ?_)
  have e := h.cell (List.getElem?_eq_getElem hj)
  rw [Addr.add_lit, Nat.zero_add, e]
theorem drop_facts {α : Type _} {l r : List α} {k : Nat} {x : α} (h : l.drop k = x :: r) : l[k]? = some x ∧ l.drop (k + 1) = r ∧ l.take (k + 1) = l.take k ++ [x] := by
  have h1 : l[k]? = some x := by
    have := List.getElem?_drop (xs := l) (i := k) (j := 0)
    rw [h] at this
    simpa using this.symm
  refine ⟨h1, ?_, ?_⟩
  · rw [← List.drop_drop, h]; rfl
  · rw [List.take_add_one, h1]; rfl
theorem set_facts {α : Type _} {l r : List α} {k : Nat} {x : α} (y : α) (h : l.drop k = x :: r) : (l.set k y).drop (k + 1) = r ∧ (l.set k y).take (k + 1) = l.take k ++ [y] := by
  obtain ⟨h1, h2, _⟩ := drop_facts h
  have hk := (List.getElem?_eq_some_iff.1 h1).1
  refine ⟨?_, ?_⟩
  · rw [List.drop_set_of_lt (by omega), h2]
  · rw [List.take_add_one, List.take_set_of_le (Nat.le_refl k), List.getElem?_set_self hk]; rfl
theorem coInk_any (s : ByteArray) (w : World) : Calls Try.prog 52 #[.string s] w fun e w' => e = .returned (.bool (ikC s)) ∧ w = w' := by
  go_enter Try.func52, Try.ntmps52
  go_wp2
  all_goals go_ret
  all_goals exact ⟨ret_bool (by simp [ikC, *]), rfl⟩
theorem isInk_any (s : ByteArray) (w : World) : Calls Try.prog 54 #[.string s] w fun e w' => e = .returned (.bool (ikC s)) ∧ w = w' := by
  go_enter Try.func54, Try.ntmps54
  go_wp2
  all_goals go_ret
  all_goals exact ⟨ret_bool (by simp [ikC, *]), rfl⟩
/-- FormeOf. -/
def fo (t i s : ByteArray) : ByteArray × Bool := if ikB t i && ikC s then (str (formeL ((bytes s).headD 0) (bytes t) (bytes i)), true) else (str [], false)
theorem ikB_true {t i : ByteArray} (h : ikB t i = true) : plB (bytes t) = true ∧ t.size ≤ 30 ∧ t.size = i.size ∧ inkB (bytes t) (bytes i) = true := by
  simp only [ikB, txB, Bool.and_eq_true, decide_eq_true_eq] at h
  exact ⟨h.1.1, h.1.2, h.2.1, h.2.2⟩
theorem fo_spec (t i s : ByteArray) (w : World) (ht : t.size ≤ 1048576) : Calls Try.prog 26 #[.agg #[.string t, .string i], .string s] w fun e w' => e = .returned (.tuple #[.string (fo t i s).1, .bool (fo t i s).2]) ∧ Below w.heap.size w w' := by
  have hc : True := trivial; have hf : True := trivial; have hb := Below.refl (w.alloc (.cells #[.string t, .string i] 26)).heap.size (w.alloc (.cells #[.string t, .string i] 26))
  cases h1 : ikB t i
  · (go_enter Try.func26, Try.ntmps26; go_wp2_with (first | (go_at_call 43; refine (coGood_any _ _ _ ht).mono ?_; rintro e1 w1 ⟨rfl, hn⟩; replace hb := hb.trans (hn.mono hb.size); clear hc hf hn; obtain ⟨hc, hf⟩ := bcell hb) | (go_at_call 52; refine (coInk_any _ _).mono ?_; rintro e1 w1 ⟨rfl, rfl⟩)))
    go_ret2
    exact ⟨by simp [fo, h1, str], Below.trans (by (repeat (first | exact Below.refl _ _ | exact hb | apply Below.drew | (refine Below.alloc ?_ (by first | (simp; done) | (simp; omega) | (have := hb.size; simp at this ⊢; omega)) _) | (refine Below.setCell ?_ (by simp) _)))) (hb.mono (by simp))⟩
  cases h2 : ikC s
  · (go_enter Try.func26, Try.ntmps26; go_wp2_with (first | (go_at_call 43; refine (coGood_any _ _ _ ht).mono ?_; rintro e1 w1 ⟨rfl, hn⟩; replace hb := hb.trans (hn.mono hb.size); clear hc hf hn; obtain ⟨hc, hf⟩ := bcell hb) | (go_at_call 52; refine (coInk_any _ _).mono ?_; rintro e1 w1 ⟨rfl, rfl⟩)))
    go_ret2
    exact ⟨by simp [fo, h1, h2, str], Below.trans (by (repeat (first | exact Below.refl _ _ | exact hb | apply Below.drew | (refine Below.alloc ?_ (by first | (simp; done) | (simp; omega) | (have := hb.size; simp at this ⊢; omega)) _) | (refine Below.setCell ?_ (by simp) _)))) (hb.mono (by simp))⟩
  obtain ⟨g1, g2, g3, g4⟩ := ikB_true h1
  obtain ⟨c, rfl⟩ : ∃ c, s = str [c] := by rcases ikC_true h2 with h | h <;> exact ⟨_, h⟩
  have hcf := fun w => coForme_any t i c w ht g3 g1
  have HC := Lib.hid hcf
  clear hcf g1 g3 g4
  go_enter Try.func26, Try.ntmps26
  go_wp2_with (first | (go_at_call 43; refine (coGood_any _ _ _ ht).mono ?_; rintro e1 w1 ⟨rfl, hn⟩; replace hb := hb.trans (hn.mono hb.size); clear hc hf hn; obtain ⟨hc, hf⟩ := bcell hb) | (go_at_call 52; refine (coInk_any _ _).mono ?_; rintro e1 w1 ⟨rfl, rfl⟩) | (go_at_call 53; refine (HC.out _).mono ?_; rintro e1 w1 ⟨rfl, hn⟩; replace hb := hb.trans (hn.mono hb.size); clear hc hf hn; obtain ⟨hc, hf⟩ := bcell hb))
  go_ret2
  exact ⟨by simp [fo, h1, h2, bytes_str], Below.trans (by (repeat (first | exact Below.refl _ _ | exact hb | apply Below.drew | (refine Below.alloc ?_ (by first | (simp; done) | (simp; omega) | (have := hb.size; simp at this ⊢; omega)) _) | (refine Below.setCell ?_ (by simp) _)))) (hb.mono (by simp))⟩
theorem fo_impl (t i s : ByteArray) (w : World) (ht : t.size ≤ 1048576) : Calls Try.prog 27 #[.agg #[.string t, .string i], .string s] w fun e w' => e = .returned (.tuple #[.string (fo t i s).1, .bool (fo t i s).2]) ∧ Below w.heap.size w w' := by
  have hc : True := trivial; have hf : True := trivial; have hb := Below.refl (w.alloc (.cells #[.string t, .string i] 26)).heap.size (w.alloc (.cells #[.string t, .string i] 26))
  cases h1 : ikB t i
  · (go_enter Try.func27, Try.ntmps27; go_wp2_with (first | (go_at_call 16; refine (isInked_any _ _ _ ht).mono ?_; rintro e1 w1 ⟨rfl, hn⟩; replace hb := hb.trans (hn.mono hb.size); clear hc hf hn; obtain ⟨hc, hf⟩ := bcell hb) | (go_at_call 54; refine (isInk_any _ _).mono ?_; rintro e1 w1 ⟨rfl, rfl⟩)))
    go_ret2
    exact ⟨by simp [fo, h1, str], Below.trans (by (repeat (first | exact Below.refl _ _ | exact hb | apply Below.drew | (refine Below.alloc ?_ (by first | (simp; done) | (simp; omega) | (have := hb.size; simp at this ⊢; omega)) _) | (refine Below.setCell ?_ (by simp) _)))) (hb.mono (by simp))⟩
  cases h2 : ikC s
  · (go_enter Try.func27, Try.ntmps27; go_wp2_with (first | (go_at_call 16; refine (isInked_any _ _ _ ht).mono ?_; rintro e1 w1 ⟨rfl, hn⟩; replace hb := hb.trans (hn.mono hb.size); clear hc hf hn; obtain ⟨hc, hf⟩ := bcell hb) | (go_at_call 54; refine (isInk_any _ _).mono ?_; rintro e1 w1 ⟨rfl, rfl⟩)))
    go_ret2
    exact ⟨by simp [fo, h1, h2, str], Below.trans (by (repeat (first | exact Below.refl _ _ | exact hb | apply Below.drew | (refine Below.alloc ?_ (by first | (simp; done) | (simp; omega) | (have := hb.size; simp at this ⊢; omega)) _) | (refine Below.setCell ?_ (by simp) _)))) (hb.mono (by simp))⟩
  obtain ⟨g1, g2, g3, g4⟩ := ikB_true h1
  have hs0 : 0 < s.size := by rcases ikC_true h2 with h | h <;> (rw [h, str_size]; decide)
  have hc0 : (bytes s).headD 0 = s[0] := by rw [← List.drop_zero (l := bytes s), bytes_drop s 0 hs0]; rfl
  have HC0 := Lib.hid hc0; clear hc0
  have hcv := fun w => run_bytes_of_string (P := Try.prog) w 9 58 5 t Try.underlying9 Try.underlying58 Try.underlying5
  have G3 := Lib.hid g3
  clear g1 g3 g4
  (go_enter Try.func27, Try.ntmps27; go_wp2_with (first | (go_at_call 16; refine (isInked_any _ _ _ ht).mono ?_; rintro e1 w1 ⟨rfl, hn⟩; replace hb := hb.trans (hn.mono hb.size); clear hc hf hn; obtain ⟨hc, hf⟩ := bcell hb) | (go_at_call 54; refine (isInk_any _ _).mono ?_; rintro e1 w1 ⟨rfl, rfl⟩)))
  have hgb2 : w.heap.size < w1.heap.size := by have := hb.size; simp at this; omega
  replace hb := (below_drewN hb 1).alloc hb.size (.cells (bytesRow t (grownCap w1 t.size 0 5)) 5 ((bytesRow t (grownCap w1 t.size 0 5)).size, (bytesRow t (grownCap w1 t.size 0 5)).size + 1))
  have hblk := BBlk.new w1.drew t (grownCap w1 t.size 0 5)
  go_loopw [21] (fun u wr => ∃ (k : Nat) (l : List UInt8), k ≤ t.size ∧ u = .int .i64 k ∧ l.length = t.size ∧ l.drop k = (bytes t).drop k ∧ l.take k ++ formeL s[0] ((bytes t).drop k) ((bytes i).drop k) = formeL s[0] (bytes t) (bytes i) ∧ BBlk wr w1.heap.size l ∧ Below (w.alloc (.cells #[.string t, .string i] 26)).heap.size (w.alloc (.cells #[.string t, .string i] 26)) wr) (fun u _ => t.size - (intOf u).toNat)
  case atStart => exact ⟨0, bytes t, Nat.zero_le _, rfl, bytes_len t, rfl, rfl, hblk, hb⟩
  case round =>
    clear hblk hb hc hf
    obtain ⟨k, l, hk, rfl, hl, hd, hR, hblk, hb⟩ := hrel
    have HR := Lib.hid hR; clear hR
    have HL := Lib.hid hl; clear hl
    have HD := Lib.hid hd; clear hd
    have hb4 := box_at hb 1
    have hc1 : _ = some (Value.string i) := hb4
    clear hb4
    by_cases hlt : k < t.size
    · have hlt2 : k < i.size := by have := G3.out; omega
      have l0 : (0 : Int) ≤ (k : Int) := by omega
      have l1 : (k : Int) < (i.size : Int) := by omega
      have HT := Lib.hid (bytes_drop t k hlt)
      have HE := Lib.hid (bytes_drop i k hlt2)
      by_cases hq : i[k] = s[0]
      · have ht0 : ((i[k].toNat : Int) != (s[0].toNat : Int)) = false := by simp [hq]
        have HQ := Lib.hid hq; clear hq
        go_wp2_with fail
        go_quiet (fail)
        go_wp2_with fail
        go_roundw
        case rel =>
          obtain ⟨_, e2, e3⟩ := drop_facts (HD.out.trans HT.out)
          exact ⟨k + 1, l, by omega, by go_num, HL.out, e2, by rw [← HR.out, HT.out, HE.out, formeL, if_pos HQ.out, e3, List.append_assoc]; rfl, hblk, below_drewN hb _⟩
        case measure => simp [intOf]; omega
      · have ht0 : ((i[k].toNat : Int) != (s[0].toNat : Int)) = true := by
          rw [bne_iff_ne]
          intro e
          exact hq (UInt8.toNat_inj.1 (by omega))
        have HQ := Lib.hid hq; clear hq
        have hlk : k < l.length := by rw [HL.out]; exact hlt
        have hd := hblk.cell (List.getElem?_eq_getElem hlk)
        obtain ⟨z, hz⟩ : ∃ z, wr.cell? ⟨w1.heap.size, k, none⟩ = some z := ⟨_, hd⟩
        have hfz := hblk.frozen hlk
        clear hd
        go_wp2_with fail
        go_quiet (fail)
        go_wp2_with fail
        go_roundw
        case rel =>
          obtain ⟨e2, e3⟩ := set_facts 32 (HD.out.trans HT.out)
          exact ⟨k + 1, l.set k 32, by omega, by go_num, by rw [List.length_set]; exact HL.out, e2, by rw [← HR.out, HT.out, HE.out, formeL, if_neg HQ.out, e3, List.append_assoc]; rfl, (hblk.drewN _).set_ k 32 hlk, (below_drewN hb _).setCell (by simp; omega) _⟩
        case measure => simp [intOf]; omega
    · have hfin : l = formeL s[0] (bytes t) (bytes i) := by
        have e := HR.out
        have hk2 : k = t.size := by omega
        rw [List.drop_of_length_le (l := bytes t) (by rw [bytes_len]; omega), List.take_of_length_le (by rw [HL.out]; omega)] at e
        simpa [formeL] using e
      have hfo : fo t i s = (str l, true) := by rw [fo, h1, h2, HC0.out, ← hfin]; rfl
      have HF := Lib.hid hfo
      have hcv2 := fun cap => bytes_back (cap := cap) hblk HL.out
      clear hfin hcv hfo
      go_wp2_with fail
      go_ret2
      exact ⟨by simp [HF.out], Below.trans (by (repeat (first | exact Below.refl _ _ | exact hb | apply Below.drew | (refine Below.alloc ?_ (by first | (simp; done) | (simp; omega) | (have := hb.size; simp at this ⊢; omega)) _) | (refine Below.setCell ?_ (by simp) _)))) (hb.mono (by simp))⟩
theorem formeLaw (W : World) (t i : ByteArray) (ht : t.size ≤ maxLen) (hi : i.size ≤ maxLen) (s : ByteArray) (hs : s.size ≤ maxLen) : Calls Try.prog 7 #[.agg #[.string t, .string i], .string s] W fun e W' => e = .returned (.bool true) ∧ Below W.heap.size W W' := by
  have hs' := hs
  unfold maxLen at hs'
  have hc : True := trivial; have hf : True := trivial; have hb := Below.refl (W.alloc (.cells #[.string t, .string i] 23)).heap.size (W.alloc (.cells #[.string t, .string i] 23))
  by_cases hbig : 1048576 < s.size
  · go_enter Try.func7, Try.ntmps7
    go_wp2_with fail
    go_ret; exact ⟨rfl, Below.trans (by (repeat (first | exact Below.refl _ _ | exact hb | apply Below.drew | (refine Below.alloc ?_ (by first | (simp; done) | (simp; omega) | (have := hb.size; simp at this ⊢; omega)) _) | (refine Below.setCell ?_ (by simp) _)))) (hb.mono (by simp))⟩
  have hz : 0 ≤ szI t i 1048576 ∨ szI t i 1048576 < 0 := by omega
  rcases hz with hz | hz
  · have hk := szI_ok hz (by omega)
    have HK := Lib.hid hk; clear hk
    go_enter Try.func7, Try.ntmps7
    go_wp2_with (first | (go_at_call 13; refine (szInked_any _ _ _ _ ht hi (by omega)).mono ?_; rintro e1 w1 ⟨rfl, hn⟩; replace hb := hb.trans (hn.mono hb.size); clear hc hf hn; obtain ⟨hc, hf⟩ := bcell hb) | (go_at_call 15; refine (toInked_any _ _ _).mono ?_; rintro e1 w1 ⟨rfl, hn⟩; replace hb := hb.trans (hn.mono hb.size); clear hc hf hn; obtain ⟨hc, hf⟩ := bcell hb) | (go_at_call 26; refine (fo_spec _ _ _ _ HK.out.1).mono ?_; rintro e1 w1 ⟨rfl, hn⟩; replace hb := hb.trans (hn.mono hb.size); clear hc hf hn; obtain ⟨hc, hf⟩ := bcell hb) | (go_at_call 27; refine (fo_impl _ _ _ _ HK.out.1).mono ?_; rintro e1 w1 ⟨rfl, hn⟩; replace hb := hb.trans (hn.mono hb.size); clear hc hf hn; obtain ⟨hc, hf⟩ := bcell hb))
    go_ret; exact ⟨rfl, Below.trans (by (repeat (first | exact Below.refl _ _ | exact hb | apply Below.drew | (refine Below.alloc ?_ (by first | (simp; done) | (simp; omega) | (have := hb.size; simp at this ⊢; omega)) _) | (refine Below.setCell ?_ (by simp) _)))) (hb.mono (by simp))⟩
  · go_enter Try.func7, Try.ntmps7
    go_wp2_with (go_at_call 13; refine (szInked_any _ _ _ _ ht hi (by omega)).mono ?_; rintro e1 w1 ⟨rfl, hn⟩; replace hb := hb.trans (hn.mono hb.size); clear hc hf hn; obtain ⟨hc, hf⟩ := bcell hb)
    go_ret; exact ⟨rfl, Below.trans (by (repeat (first | exact Below.refl _ _ | exact hb | apply Below.drew | (refine Below.alloc ?_ (by first | (simp; done) | (simp; omega) | (have := hb.size; simp at this ⊢; omega)) _) | (refine Below.setCell ?_ (by simp) _)))) (hb.mono (by simp))⟩
end Go.Proofs.Ytanpiipmoedfnaa
