/-
  Contracts: words; the sorts with which a word is set.
-/
import Derived.Test.YtfdmenhnejfhjaaSwP
import Derived.Test.YtfdmenhnejfhjaaStrs
import Derived.Lib.OthersKept
namespace Go.Proofs.Ytfdmenhnejfhjaa
open Go.RowKit
theorem str_extractN (s : ByteArray) (k m : Nat) : s.extract k (k + m) = str (((bytes s).drop k).take m) := by
  refine bytes_ext ?_
  rw [bytes_str]
  show (s.extract k (k + m)).data.toList = _
  rw [Lib.extract_data, show k + m - k = m by omega]
  rfl
theorem str_extractE (s : ByteArray) (k : Nat) : s.extract k s.size = str ((bytes s).drop k) := by
  refine bytes_ext ?_
  rw [bytes_str]
  show (s.extract k s.size).data.toList = _
  rw [Lib.extract_data]
  refine List.take_of_length_le ?_
  rw [List.length_drop]
  show (bytes s).length - k ≤ _
  rw [bytes_len]; omega
theorem tyWord_any (s : ByteArray) (w : World) (hs : s.size ≤ 1048576) : Calls Try.prog 20 #[.string s] w fun e w' => e = .returned (.bool (letB s 1 16)) ∧ w = w' := by
  go_enter Try.func20, Try.ntmps20
  go_wp2_with (go_at_call 41; refine (tyLetters_any _ _ _ hs).mono ?_; rintro e1 w1 ⟨rfl, rfl⟩)
  go_ret
  exact ⟨rfl, rfl⟩
theorem isWord_any (s : ByteArray) (w : World) (hs : s.size ≤ 1048576) : Calls Try.prog 27 #[.string s] w fun e w' => e = .returned (.bool (letB s 1 16)) ∧ w = w' := by
  go_enter Try.func27, Try.ntmps27
  go_wp2_with (go_at_call 49; refine (areLetters_any _ _ _ _ hs).mono ?_; rintro e1 w1 ⟨rfl, rfl⟩)
  go_ret
  exact ⟨rfl, rfl⟩
def wordsL : List ByteArray → Bool
  | [] => true
  | s :: r => letB s 1 16 && wordsL r
def wordsB (l : List ByteArray) : Bool := wordsL l && decide (l.length ≤ 40)
theorem slHasPrefix_any (s p : ByteArray) (w : World) : Calls Try.prog 65 #[.string s, .string p] w fun e w' => e = .returned (.bool (p.toList.isPrefixOf s.toList)) ∧ w = w' := by
  have hpl : p.toList.length = p.size := by rw [toList_bytes, bytes_len]
  have hsl : s.toList.length = s.size := by rw [toList_bytes, bytes_len]
  by_cases h : p.size ≤ s.size
  · have he : (s.extract 0 p.size).toList = s.toList.take p.size := by
      have := str_extractN s 0 p.size
      rw [Nat.zero_add] at this
      rw [this, str_toList, toList_bytes]; rfl
    have HE := Lib.hid (show ((s.extract 0 p.size).toList == p.toList) = p.toList.isPrefixOf s.toList by
      rw [he, Bool.eq_iff_iff, beq_iff_eq, List.isPrefixOf_iff_prefix, List.prefix_iff_eq_take, hpl]
      exact eq_comm)
    have h2 : (p.size : Int) ≤ (s.size : Int) := by omega
    clear he hpl hsl
    go_enter Try.func65, Try.ntmps65
    go_wp2
    go_ret
    exact ⟨ret_bool HE.out, rfl⟩
  · have HE := Lib.hid (show p.toList.isPrefixOf s.toList = false by
      rw [Bool.eq_false_iff]
      intro e
      have := (List.isPrefixOf_iff_prefix.1 e).length_le
      omega)
    have h2 : ¬ (p.size : Int) ≤ (s.size : Int) := by omega
    clear hpl hsl
    go_enter Try.func65, Try.ntmps65
    go_wp2
    go_ret
    exact ⟨ret_bool (by rw [HE.out]), rfl⟩
theorem hasPrefix_is (s p : ByteArray) {v : Bool} (hv : p.toList.isPrefixOf s.toList = v) (w : World) : Calls Try.prog 60 #[.string s, .string p] w fun e w' => e = .returned (.bool v) ∧ w = w' := by
  subst hv
  go_enter Try.func60, Try.ntmps60
  go_wp2_with (go_at_call 65; refine (slHasPrefix_any _ _ _).mono ?_; rintro e1 w1 ⟨rfl, rfl⟩)
  go_ret
  exact ⟨rfl, rfl⟩
def strOf : Value → Nat | .string t => t.size | _ => 0
def mnW (a b : Int) : Int := if a < b then a else b
theorem leastW_any (a b : Int) (w : World) : Calls Try.prog 55 #[.int .i64 a, .int .i64 b] w fun x w' => x = .returned (.int .i64 (mnW a b)) ∧ w = w' := by
  by_cases h : a < b
  · go_enter Try.func55, Try.ntmps55
    go_wp2
    go_ret
    exact ⟨ret_int (by unfold mnW; split <;> omega), rfl⟩
  · go_enter Try.func55, Try.ntmps55
    go_wp2
    go_ret
    exact ⟨ret_int (by unfold mnW; split <;> omega), rfl⟩
def setV (ms : List Srt) (s : ByteArray) : List Int := (setR ms s).getD []
def setG (ms : List Srt) (s : ByteArray) : Bool := (setR ms s).isSome
theorem set_none {ms : List Srt} {s : ByteArray} (h : setR ms s = none) : setV ms s = [] ∧ setG ms s = false := by rw [setV, setG, h]; exact ⟨rfl, rfl⟩
theorem set_some {ms : List Srt} {s : ByteArray} {l : List Int} (h : setR ms s = some l) : setV ms s = l ∧ setG ms s = true := by rw [setV, setG, h]; exact ⟨rfl, rfl⟩
theorem bestN_step {ms : List Srt} {m : Nat} {w : List UInt8} : bestN ms (m + 1) w = if 0 ≤ findT (str (w.take (m + 1))) ms 0 then findT (str (w.take (m + 1))) ms 0 else bestN ms m w := rfl
set_option maxRecDepth 100000 in
set_option maxHeartbeats 2000000 in
theorem tySet_any {A : Option Addr} {n cp : Nat} {ms : List Srt} {s : ByteArray} {w : World} (hr : RSrts w w.heap.size A n ms) (hn0 : n ≤ 1048576) (hf : fontB ms = true) (hs16 : s.size ≤ 1048576) : Calls Try.prog 42 #[.slice A n cp, .string s] w fun e w' => ∃ V N C, e = .returned (.tuple #[.slice V N C, .bool (setG ms s)]) ∧ Own w' w.heap.size (.slice V N C) N (setV ms s) ∧ N ≤ s.size ∧ Below w.heap.size w w' := by
  obtain ⟨i0, hi, hz0, hz1, hz2⟩ := info_parts info3
  have HF := Lib.hid hf
  have HR := Lib.hid hr
  have HL := Lib.hid hr.len
  clear hf hr
  go_enter Try.func42, Try.ntmps42
  go_wp2_with fail
  go_loopw [6, 7] (fun v u wr => ∃ (k N f : Nat) (out : List Int), k ≤ s.size ∧ u = .int .i64 k ∧ Own wr w.heap.size v N out ∧ N ≤ k ∧ setA ms f ((bytes s).drop k) out = setR ms s ∧ s.size - k ≤ f ∧ Below w.heap.size w wr) (fun _ u _ => s.size - (intOf u).toNat)
  case atStart => exact ⟨0, 0, s.size, [], Nat.zero_le _, rfl, own_nil _ _, Nat.zero_le _, rfl, by omega, Below.refl _ _⟩
  case round =>
    obtain ⟨k, N, f, out, hk, rfl, hown, hNk, hR, hf, hb⟩ := hrel
    obtain ⟨VO, CO, rfl⟩ := own_slice hown
    have HO := Lib.hid hown
    clear hown
    by_cases hlt : k < s.size
    · obtain ⟨W, hW⟩ : ∃ W, W = (bytes s).drop k := ⟨_, rfl⟩
      have hWl : W.length = s.size - k := by rw [hW, List.length_drop, bytes_len]
      obtain ⟨f', rfl⟩ : ∃ f', f = f' + 1 := ⟨f - 1, by omega⟩
      have hW0 : W ≠ [] := by intro e; rw [e] at hWl; simp at hWl; omega
      have HWL := Lib.hid hWl
      have HST := Lib.hid (show (if bestW ms W < 0 then none else setA ms f' (W.drop (codeLen ms (bestW ms W))) (out ++ [bestW ms W])) = setR ms s by rw [← hR, ← hW, setA_step hW0])
      have HW := Lib.hid hW
      have HMN := Lib.hid (show mnW 3 ((s.size : Int) - (k : Int)) = ((min 3 W.length : Nat) : Int) by unfold mnW; rw [hWl]; split <;> omega)
      have hmw : min 3 W.length ≤ s.size - k := by omega
      clear hR hWl hW0 hW
      go_wp2_with fail
      refine (leastW_any _ _ _).mono ?_
      rw [HMN.out]
      rintro e1 w1 ⟨rfl, hw1⟩
      subst hw1
      go_wp2_with fail
      go_loopw [8, 9] (fun x y w2 => ∃ (m : Nat) (b : Int), m ≤ min 3 W.length ∧ y = .int .i64 m ∧ x = .int .i64 b ∧ ((b = -1 ∧ bestN ms m W = bestW ms W) ∨ (0 ≤ b ∧ bestW ms W = b)) ∧ Below wr.heap.size wr w2) (fun _ y _ => (intOf y).toNat)
      case atStart => exact ⟨min 3 W.length, -1, Nat.le_refl _, rfl, rfl, .inl ⟨rfl, rfl⟩, Below.refl _ _⟩
      case round =>
        obtain ⟨m, b, hm, rfl, rfl, hbb, hb2⟩ := hrel
        by_cases hb0 : b = -1
        · subst hb0
          have hbn : bestN ms m W = bestW ms W := by
            rcases hbb with ⟨_, h⟩ | ⟨h, _⟩
            · exact h
            · omega
          clear hbb
          by_cases hm0 : 0 < m
          · obtain ⟨q, rfl⟩ : ∃ q, m = q + 1 := ⟨m - 1, by omega⟩
            rw [bestN_step] at hbn
            have HBN := Lib.hid hbn
            have HEX := Lib.hid (show s.extract k (k + (q + 1)) = str (W.take (q + 1)) by rw [str_extractN, HW.out])
            obtain ⟨b', hb'⟩ : ∃ b', findT (str (W.take (q + 1))) ms 0 = b' := ⟨_, rfl⟩
            have hbd := findT_bd (c := str (W.take (q + 1))) (ms := ms) (i := 0) (by omega)
            rw [hb'] at hbd
            have HB' := Lib.hid hb'
            have l0 : (0 : Int) < ((q + 1 : Nat) : Int) := by omega
            have l1 : (k : Int) + ((q + 1 : Nat) : Int) ≤ (s.size : Int) := by omega
            have ew : IntKind.i64.wrap ((k : Int) + ((q + 1 : Nat) : Int)) = ((k + (q + 1) : Nat) : Int) := by rw [wrapI (by omega) (by omega)]; omega
            have l2 : (k : Int) ≤ ((k + (q + 1) : Nat) : Int) := by omega
            have l3 : ((k + (q + 1) : Nat) : Int) ≤ (s.size : Int) := by omega
            have hbz := hb.trans (hb2.mono hb.size)
            clear hbn hb'
            go_wp2_with fail
            refine (tyFind_any ((RSrts.below HR.out hbz).more hbz.size) hn0).mono ?_
            rw [HEX.out, HB'.out]
            rintro e1 w3 ⟨rfl, hn⟩
            go_wp2_with fail
            go_roundw
            case rel =>
              refine ⟨q, b', by omega, by go_num, rfl, ?_, hb2.trans (hn.mono hb2.size)⟩
              have h9 := HBN.out
              rw [HB'.out] at h9
              rcases hbd with hbd | hbd
              · rw [if_neg (by omega)] at h9
                exact .inl ⟨hbd, h9⟩
              · rw [if_pos (by omega)] at h9
                exact .inr ⟨by omega, h9.symm⟩
            case measure => simp [intOf]
          · have hm1 : m = 0 := by omega
            have HBW := Lib.hid (show bestW ms W = -1 by rw [← hbn, hm1]; rfl)
            have HN := Lib.hid (set_none (ms := ms) (s := s) (by rw [← HST.out, HBW.out]; rfl))
            have hbz := hb.trans (hb2.mono hb.size)
            clear hbn hm1
            go_wp2_with fail
            go_ret2
            exact ⟨none, 0, 0, by rw [HN.out.2]; rfl, by rw [HN.out.1]; exact own_nil _ _, Nat.zero_le _, hbz⟩
        · have hbw : 0 ≤ b ∧ bestW ms W = b := by
            rcases hbb with ⟨h, _⟩ | h
            · exact absurd h hb0
            · exact h
          obtain ⟨i, y, hiy, hyi, hy1, hyl⟩ : ∃ (i : Nat) (y : Srt), b = (i : Int) ∧ ms[i]? = some y ∧ 1 ≤ y.code.size ∧ y.code.size ≤ W.length := by
            rcases bestW_bd (ms := ms) (w := W) with h | ⟨i, y, h1, h2, h3, h4⟩
            · omega
            · exact ⟨i, y, by omega, h2, h3, h4⟩
          subst hiy
          have HST2 := Lib.hid (show setA ms f' ((bytes s).drop (k + y.code.size)) (out ++ [(i : Int)]) = setR ms s by
            rw [← HST.out, hbw.2, if_neg (by omega), codeLen_at hyi, HW.out, List.drop_drop])
          have hWl := HWL.out
          have hin : i < n := by have := (List.getElem?_eq_some_iff.1 hyi).1; have := HL.out; omega
          have hbz := hb.trans (hb2.mono hb.size)
          have HO2 := Lib.hid (row_step HO.out hb2)
          have l0 : (0 : Int) ≤ (i : Int) := by omega
          have l1 : (i : Int) < (n : Int) := by omega
          have HYI := Lib.hid hyi
          have ew : IntKind.i64.wrap ((k : Int) + (y.code.size : Int)) = ((k + y.code.size : Nat) : Int) := by rw [wrapI (by omega) (by omega)]; omega
          clear hbb hbw hyi hb0
          rcases (by omega : 0 < m ∨ ¬ 0 < m) with hm0 | hm0
          all_goals
            go_wp2_with (at_builtin; refine wpList_append_own _ rfl (.tmp 37) (.tmp 39) 66 rfl w.heap.size 3 i0 (.int .i64 0) 1 8 Try.underlying66 hi hz0 hz1 hz2 rfl (by decide) _ N _ rfl (row_alloc HO2.out _) _ 1 1 [.int .i64 (i : Int)] rfl rfl (new_one _ _ rfl _ _) (by intro u hu; simp at hu; subst hu; rfl) (by unfold maxLen; omega) (by omega) (by have := hbz.size; simp; omega) ?_)
            intro v9 w9 hO9 hgr9 _
            have HN9 := Lib.hid (own_app hO9)
            have hb9 := (hbz.alloc hbz.size _).trans (below_grown (row_alloc HO2.out _) (by have := hbz.size; simp; omega) hgr9)
            obtain ⟨bb, off, b2, eA, _, _, hx2, c0, _⟩ := RSrts.at_ (RSrts.below HR.out hb9) hin
            rw [HYI.out] at hx2
            injection hx2 with hx2
            subst hx2
            have HA := Lib.hid eA
            rw [eA]
            clear eA hO9 hgr9
            go_wp2_with fail
            (try rw [← HA.out])
            go_roundw
            case rel => exact ⟨k + y.code.size, N + 1, f', out ++ [(i : Int)], by omega, by go_num, HN9.out, by omega, HST2.out, by omega, hb9⟩
            case measure => simp [intOf]; omega
    · have HS := Lib.hid (set_some (ms := ms) (s := s) (l := out) (by rw [← hR, List.drop_of_length_le (by rw [bytes_len]; omega), setA_nil]))
      clear hR
      go_wp2_with fail
      go_ret2
      exact ⟨VO, N, CO, by rw [HS.out.2]; rfl, by rw [HS.out.1]; exact HO.out, by omega, hb⟩
set_option maxRecDepth 100000 in
set_option maxHeartbeats 4000000 in
theorem sortsOf_any {A : Option Addr} {n cp : Nat} {ms : List Srt} {s : ByteArray} {w : World} (hr : RSrts w w.heap.size A n ms) (hn0 : n ≤ 1048576) (hf : fontB ms = true) (hs16 : s.size ≤ 1048576) : Calls Try.prog 50 #[.slice A n cp, .string s] w fun e w' => ∃ V N C, e = .returned (.tuple #[.slice V N C, .bool (setG ms s)]) ∧ Own w' w.heap.size (.slice V N C) N (setV ms s) ∧ N ≤ s.size ∧ Below w.heap.size w w' := by
  obtain ⟨i0, hi, hz0, hz1, hz2⟩ := info_parts info3
  have HF := Lib.hid hf
  have HR := Lib.hid hr
  have HL := Lib.hid hr.len
  have hO0 := own_empty w w.heap.size (Nat.le_refl _)
  clear hf hr
  go_enter Try.func50, Try.ntmps50
  go_wp2_with fail
  go_loopw [1, 6] (fun u v wr => ∃ (N f : Nat) (t : ByteArray) (out : List Int), u = .string t ∧ t.size + N ≤ s.size ∧ Own wr w.heap.size v N out ∧ setA ms f (bytes t) out = setR ms s ∧ t.size ≤ f ∧ Below w.heap.size w wr) (fun u _ _ => strOf u)
  case atStart => exact ⟨0, s.size, s, [], rfl, by omega, hO0, rfl, Nat.le_refl _, (Below.refl _ _).alloc (Nat.le_refl _) _⟩
  case round =>
    clear hO0
    obtain ⟨N, f, t, out, rfl, hts, hown, hR, hf, hb⟩ := hrel
    obtain ⟨VO, CO, rfl⟩ := own_slice hown
    have HO := Lib.hid hown
    clear hown
    by_cases hlt : 0 < t.size
    · obtain ⟨W, hW⟩ : ∃ W, W = bytes t := ⟨_, rfl⟩
      have hWl : W.length = t.size := by rw [hW, bytes_len]
      obtain ⟨f', rfl⟩ : ∃ f', f = f' + 1 := ⟨f - 1, by omega⟩
      have hW0 : W ≠ [] := by intro e; rw [e] at hWl; simp at hWl; omega
      have HWL := Lib.hid hWl
      have HST := Lib.hid (show (if bestW ms W < 0 then none else setA ms f' (W.drop (codeLen ms (bestW ms W))) (out ++ [bestW ms W])) = setR ms s by rw [← hR, ← hW, setA_step hW0])
      have HW := Lib.hid hW
      have HTL := Lib.hid (show t.toList = W by rw [toList_bytes, hW])
      have l9 : (0 : Int) < (t.size : Int) := by omega
      clear hR hWl hW0 hW
      go_wp2_with fail
      go_loopw [7, 16] (fun x y w2 => ∃ (k : Nat) (b : Int), k ≤ n ∧ y = .int .i64 k ∧ x = .int .i64 b ∧ IsB ms W k b ∧ Below wr.heap.size wr w2) (fun _ y _ => n - (intOf y).toNat)
      case atStart => exact ⟨0, -1, Nat.zero_le _, rfl, rfl, isB_zero _ _, Below.refl _ _⟩
      case round =>
        obtain ⟨wo, rfl⟩ : ∃ wo, wo = wr := ⟨_, rfl⟩
        obtain ⟨k, b, hk, rfl, rfl, hB, hb2⟩ := hrel
        by_cases hkn : k < n
        · have hbz := hb.trans (hb2.mono hb.size)
          obtain ⟨bb, off, x, eA, hbbl, _, hx, c0, c1⟩ := RSrts.at_ (RSrts.below HR.out hbz) hkn
          have HX := Lib.hid hx
          have HB := Lib.hid hB
          have hbX := Blk.new' wo 50 #[.string x.code, .int .i64 x.set_]
          have q0 : ∀ z : Later (wo.heap.size + 1) (wo.alloc (.cells #[.string x.code, .int .i64 x.set_] 50)), z.wx.cell? ⟨wo.heap.size, 0, none⟩ = some (.string x.code) := fun z => z.cell (by omega) (hbX.cell 0)
          have HA := Lib.hid eA
          have hbzs := hbz.size
          rw [eA]
          clear hx hB eA hbX
          have l0 : (0 : Int) ≤ (k : Int) := by omega
          have l1 : (k : Int) < (n : Int) := by omega
          cases hp : preB W x
          · have HP := Lib.hid (show x.code.toList.isPrefixOf t.toList = false by rw [HTL.out]; exact hp)
            have HN := Lib.hid (isB_skip HB.out HX.out hp)
            clear hp
            go_wp2_with fail; clear c0 c1; refine quiet_start (wo.heap.size + 1) (by kernel_rfl) (by kernel_rfl) ?_; (repeat (go_big_quiet_step ((go_at_call 60; exact later_same (hasPrefix_is _ _ HP.out _))))); refine wpQuiet_nil ?_; rintro wx ⟨⟨wy, hn⟩, rfl⟩; (try dsimp only); (have hb3 := (hb2.alloc hb2.size (.cells #[.string x.code, .int .i64 x.set_] 50)).trans (hn.mono (by have := hb2.size; omega))); clear q0 hn; (try clear q1); go_wp2_with fail; (try rw [← HA.out]); go_roundw
            case rel => exact ⟨k + 1, b, by omega, by go_num, rfl, HN.out, hb3⟩
            case measure => simp [intOf]; omega
          · have HP := Lib.hid (show x.code.toList.isPrefixOf t.toList = true by rw [HTL.out]; exact hp)
            by_cases hb0 : b < 0
            · have HN := Lib.hid (isB_take HB.out HX.out hp (.inl hb0))
              clear hp
              go_wp2_with fail; clear c0 c1; refine quiet_start (wo.heap.size + 1) (by kernel_rfl) (by kernel_rfl) ?_; (repeat (go_big_quiet_step ((go_at_call 60; exact later_same (hasPrefix_is _ _ HP.out _))))); refine wpQuiet_nil ?_; rintro wx ⟨⟨wy, hn⟩, rfl⟩; (try dsimp only); (have hb3 := (hb2.alloc hb2.size (.cells #[.string x.code, .int .i64 x.set_] 50)).trans (hn.mono (by have := hb2.size; omega))); clear q0 hn; (try clear q1); go_wp2_with fail; (try rw [← HA.out]); go_roundw
              case rel => exact ⟨k + 1, (k : Int), by omega, by go_num, rfl, HN.out, hb3⟩
              case measure => simp [intOf]; omega
            · obtain ⟨i, hbi⟩ : ∃ i : Nat, b = (i : Int) := ⟨b.toNat, by omega⟩
              subst hbi
              obtain ⟨y, hyi, hik⟩ : ∃ y, ms[i]? = some y ∧ i < k := by
                rcases HB.out with ⟨h, _⟩ | ⟨i', y, h1, h2, h3, _⟩
                · omega
                · obtain rfl : i = i' := by omega
                  exact ⟨y, h3, h2⟩
              obtain ⟨b2, o2, y2, eB, _, _, hy2, d0, _⟩ := RSrts.at_ (RSrts.below HR.out hbz) (show i < n by omega)
              rw [hyi] at hy2
              injection hy2 with hy2
              subst hy2
              rw [HA.out] at eB
              injection eB with eB
              injection eB with eb1 eb2
              subst eb1 eb2
              have q1 : ∀ z : Later (wo.heap.size + 1) (wo.alloc (.cells #[.string x.code, .int .i64 x.set_] 50)), z.wx.cell? ⟨bb, off + i * 2, none⟩ = some (.string y.code) := fun z => z.cell (by omega) ((World.cell?_alloc_lt wo _ _ (by simp only []; omega)).trans d0)
              have l2 : (0 : Int) ≤ (i : Int) := by omega
              have l3 : (i : Int) < (n : Int) := by omega
              have l4 : ¬ (i : Int) < 0 := by omega
              have l5 : decide ((i : Int) < 0) = false := by simp
              clear d0 hb0
              by_cases hgt : y.code.size < x.code.size
              · have HN := Lib.hid (isB_take HB.out HX.out hp (.inr (fun z hz => by rw [Int.toNat_natCast, hyi] at hz; injection hz with hz; rw [← hz]; exact hgt)))
                have l6 : (y.code.size : Int) < (x.code.size : Int) := by omega
                clear hp hyi
                go_wp2_with fail; clear c0 c1; refine quiet_start (wo.heap.size + 1) (by kernel_rfl) (by kernel_rfl) ?_; (repeat (go_big_quiet_step ((go_at_call 60; exact later_same (hasPrefix_is _ _ HP.out _))))); refine wpQuiet_nil ?_; rintro wx ⟨⟨wy, hn⟩, rfl⟩; (try dsimp only); (have hb3 := (hb2.alloc hb2.size (.cells #[.string x.code, .int .i64 x.set_] 50)).trans (hn.mono (by have := hb2.size; omega))); clear q0 hn; (try clear q1); go_wp2_with fail; (try rw [← HA.out]); go_roundw
                case rel => exact ⟨k + 1, (k : Int), by omega, by go_num, rfl, HN.out, hb3⟩
                case measure => simp [intOf]; omega
              · have HN := Lib.hid (isB_keep HB.out HX.out hyi (by omega))
                have l6 : ¬ (y.code.size : Int) < (x.code.size : Int) := by omega
                have l7 : decide ((y.code.size : Int) < (x.code.size : Int)) = false := by simp; omega
                clear hp hyi
                go_wp2_with fail; clear c0 c1; refine quiet_start (wo.heap.size + 1) (by kernel_rfl) (by kernel_rfl) ?_; (repeat (go_big_quiet_step ((go_at_call 60; exact later_same (hasPrefix_is _ _ HP.out _))))); refine wpQuiet_nil ?_; rintro wx ⟨⟨wy, hn⟩, rfl⟩; (try dsimp only); (have hb3 := (hb2.alloc hb2.size (.cells #[.string x.code, .int .i64 x.set_] 50)).trans (hn.mono (by have := hb2.size; omega))); clear q0 hn; (try clear q1); go_wp2_with fail; (try rw [← HA.out]); go_roundw
                case rel => exact ⟨k + 1, (i : Int), by omega, by go_num, rfl, HN.out, hb3⟩
                case measure => simp [intOf]; omega
        · have hkn2 : k = ms.length := by have := HL.out; omega
          have HBW := Lib.hid (isB_end HF.out (by rw [← hkn2]; exact hB))
          have hbz := hb.trans (hb2.mono hb.size)
          clear hB hkn2
          by_cases hb0 : b < 0
          · have HN := Lib.hid (set_none (ms := ms) (s := s) (by rw [← HST.out, if_pos (by rw [← HBW.out]; exact hb0)]))
            go_wp2_with fail
            go_ret2
            exact ⟨some ⟨wo.heap.size, 0, none⟩, 0, 0, by rw [HN.out.2]; rfl, by rw [HN.out.1]; exact own_empty wo w.heap.size hbz.size, Nat.zero_le _, hbz.alloc hbz.size _⟩
          · obtain ⟨i, y, hiy, hyi, hy1, hyl⟩ : ∃ (i : Nat) (y : Srt), b = (i : Int) ∧ ms[i]? = some y ∧ 1 ≤ y.code.size ∧ y.code.size ≤ W.length := by
              have h0 := HBW.out
              rcases bestW_bd (ms := ms) (w := W) with h | ⟨i, y, h1, h2, h3, h4⟩
              · omega
              · exact ⟨i, y, by omega, h2, h3, h4⟩
            subst hiy
            have HEX := Lib.hid (show bytes (t.extract y.code.size t.size) = W.drop y.code.size by rw [str_extractE, bytes_str, HW.out])
            have HST2 := Lib.hid (show setA ms f' (bytes (t.extract y.code.size t.size)) (out ++ [(i : Int)]) = setR ms s by
              rw [← HST.out, ← HBW.out, if_neg hb0, codeLen_at hyi, HEX.out])
            have hWl := HWL.out
            have hes : (t.extract y.code.size t.size).size = t.size - y.code.size := by rw [← bytes_len, HEX.out, List.length_drop, hWl]
            have hin : i < n := by have := (List.getElem?_eq_some_iff.1 hyi).1; have := HL.out; omega
            have HO2 := Lib.hid (row_step HO.out hb2)
            have l0 : (0 : Int) ≤ (i : Int) := by omega
            have l1 : (i : Int) < (n : Int) := by omega
            have l2 : (y.code.size : Int) ≤ (t.size : Int) := by omega
            have HYI := Lib.hid hyi
            have HES := Lib.hid hes
            clear hyi hes
            go_wp2_with (at_builtin; refine wpList_append_own _ rfl (.tmp 46) (.tmp 48) 66 rfl w.heap.size 3 i0 (.int .i64 0) 1 8 Try.underlying66 hi hz0 hz1 hz2 rfl (by decide) _ N _ rfl (row_alloc HO2.out _) _ 1 1 [.int .i64 (i : Int)] rfl rfl (new_one _ _ rfl _ _) (by intro u hu; simp at hu; subst hu; rfl) (by unfold maxLen; omega) (by omega) (by have := hbz.size; simp; omega) ?_)
            intro v9 w9 hO9 hgr9 _
            have HN9 := Lib.hid (own_app hO9)
            have hb9 := (hbz.alloc hbz.size _).trans (below_grown (row_alloc HO2.out _) (by have := hbz.size; simp; omega) hgr9)
            obtain ⟨bb, off, b2, eA, _, _, hx2, c0, _⟩ := RSrts.at_ (RSrts.below HR.out hb9) hin
            rw [HYI.out] at hx2
            injection hx2 with hx2
            subst hx2
            have HA := Lib.hid eA
            rw [eA]
            clear eA hO9 hgr9
            go_wp2_with fail
            (try rw [← HA.out])
            go_roundw
            case rel => exact ⟨N + 1, f', _, out ++ [(i : Int)], rfl, by have := HES.out; omega, HN9.out, HST2.out, by have := HES.out; omega, hb9⟩
            case measure => have := HES.out; simp [strOf]; omega
    · have HS := Lib.hid (set_some (ms := ms) (s := s) (l := out) (by rw [← hR, show bytes t = [] from List.eq_nil_of_length_eq_zero (by rw [bytes_len]; omega), setA_nil]))
      clear hR
      go_wp2_with fail
      go_ret2
      exact ⟨VO, N, CO, by rw [HS.out.2]; rfl, by rw [HS.out.1]; exact HO.out, by omega, hb⟩
end Go.Proofs.Ytfdmenhnejfhjaa
