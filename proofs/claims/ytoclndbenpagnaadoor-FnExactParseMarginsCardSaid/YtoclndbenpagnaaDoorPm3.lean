/-
  Contracts: the reference's splitting and reading.
-/
import Derived.Test.YtoclndbenpagnaaDoorPm2
namespace Go.Proofs.YtoclndbenpagnaaDoor
open Go.RowKit
theorem extract_str (s : ByteArray) (a b : Nat) : s.extract a b = str (((bytes s).drop a).take (b - a)) := bytes_ext (by rw [extract_bytes, bytes_str])
theorem split_sep {s : ByteArray} {i f : Nat} {outs : List ByteArray} {R : List ByteArray} {rest : List UInt8} (hd : (bytes s).drop i = 47 :: rest) (h : outs ++ (glue (((bytes s).drop f).take (i - f)) (splitB ((bytes s).drop i))).map str = R) (hr : (bytes s).drop (i + 1) = rest) :
    (outs ++ [s.extract f i]) ++ (glue (((bytes s).drop (i + 1)).take (i + 1 - (i + 1))) (splitB ((bytes s).drop (i + 1)))).map str = R := by
  rw [← h, hd, splitB, if_pos rfl, hr, Nat.sub_self, List.take_zero, glue_nil (splitB_ne _), extract_str, glue, List.append_nil, List.append_assoc]
  rfl
theorem split_more {s : ByteArray} {i f : Nat} {outs : List ByteArray} {R : List ByteArray} {c : UInt8} {rest : List UInt8} (hf : f ≤ i) (hd : (bytes s).drop i = c :: rest) (hc : ¬ c = 47) (h : outs ++ (glue (((bytes s).drop f).take (i - f)) (splitB ((bytes s).drop i))).map str = R) (hr : (bytes s).drop (i + 1) = rest) :
    outs ++ (glue (((bytes s).drop f).take (i + 1 - f)) (splitB ((bytes s).drop (i + 1)))).map str = R := by
  have e : ((bytes s).drop f).take (i + 1 - f) = ((bytes s).drop f).take (i - f) ++ [c] := by
    rw [show i + 1 - f = i - f + 1 by omega, List.take_add_one, List.getElem?_drop, show f + (i - f) = i by omega]
    have : (bytes s)[i]? = some c := by
      have h9 := congrArg (fun l : List UInt8 => l[0]?) hd
      simpa using h9
    rw [this]
    rfl
  rw [← h, hd, splitB, if_neg hc, hr, glue_glue, e]
theorem split_end {s : ByteArray} {f : Nat} {outs : List ByteArray} {R : List ByteArray} (h : outs ++ (glue (((bytes s).drop f).take (s.size - f)) (splitB ((bytes s).drop s.size))).map str = R) : outs ++ [s.extract f s.size] = R := by
  have h0 : (bytes s).drop s.size = [] := List.drop_of_length_le (by rw [bytes_len]; exact Nat.le_refl _)
  rw [← h, h0, splitB, glue, List.append_nil, extract_str]
  rfl
set_option maxRecDepth 100000 in
set_option maxHeartbeats 4000000 in
theorem l1Split_any (s : ByteArray) (hs : s.size ≤ 1048576) (w : World) :
    Calls Tryd.prog 11 #[.string s, .int .u8 47] w fun e w' => ∃ V N C, e = .returned (.slice V N C) ∧ OwnW w' w.heap.size (.slice V N C) N ((splitB (bytes s)).map str) ∧ Below w.heap.size w w' := by
  obtain ⟨i9, hi9, hz90, hz91, hz92⟩ := info_parts info9
  go_enter Tryd.func11, Tryd.ntmps11
  go_wp2_with fail
  go_loopw [5, 6, 7] (fun v fv u wr => ∃ (i f k : Nat) (outs : List ByteArray), i ≤ s.size ∧ f ≤ i ∧ k ≤ i ∧ u = .int .i64 i ∧ fv = .int .i64 f ∧ OwnW wr w.heap.size v k outs ∧ outs ++ (glue (((bytes s).drop f).take (i - f)) (splitB ((bytes s).drop i))).map str = (splitB (bytes s)).map str ∧ Below w.heap.size w wr) (fun _ _ u _ => s.size - (intOf u).toNat)
  case atStart => exact ⟨0, 0, 0, [], Nat.zero_le _, Nat.le_refl _, Nat.le_refl _, rfl, rfl, World.ownsRow_nil _ _ _ _, by rw [Nat.sub_self, List.take_zero, List.drop_zero, glue_nil (splitB_ne _), List.nil_append], Below.refl _ _⟩
  case round =>
    obtain ⟨i, f, k, outs, hi, hf, hk, rfl, rfl, ho, hR, hb⟩ := hrel
    obtain ⟨VO, CO, rfl⟩ := own_slice ho
    have HO := Lib.hid ho
    have HR := Lib.hid hR
    have hlo := hb.size
    have l0 : (0 : Int) ≤ (f : Int) := by omega
    have l1 : (f : Int) ≤ (i : Int) := by omega
    have l2 : (i : Int) ≤ (s.size : Int) := by omega
    have l3 : (f : Int) ≤ (s.size : Int) := by omega
    have l4 : (0 : Int) ≤ (i : Int) := by omega
    clear ho hR
    by_cases hlt : i < s.size
    · have l5 : (i : Int) < (s.size : Int) := by omega
      obtain ⟨c, hc⟩ : ∃ c, c = s[i] := ⟨_, rfl⟩
      have HD := Lib.hid (show (bytes s).drop i = c :: (bytes s).drop (i + 1) by rw [hc]; exact bytes_drop s i hlt)
      by_cases h47 : c = 47
      · have HR2 := Lib.hid (split_sep (by rw [HD.out, h47]) HR.out rfl)
        have e1 := ne_f (show (s[i].toNat : Int) = 47 by rw [← hc, h47]; rfl)
        have e2 := e1.1
        have e3 := e1.2
        clear e1 h47 hc
        go_wp2_with (at_builtin; refine wpList_append_own _ rfl _ _ 33 rfl (w.heap.size) 9 i9 (.string ⟨#[]⟩) 1 16 Tryd.underlying33 hi9 hz90 hz91 hz92 rfl (by decide) _ _ _ rfl (World.ownsRow.alloc HO.out _) ⟨wr.heap.size, 0, none⟩ 1 1 [.string (s.extract f i)] rfl rfl (new_one _ _ (by simp) _ _) (by intro u hu; simp at hu; subst hu; rfl) (by unfold maxLen; omega) (by omega) (by simp <;> omega) ?_)
        intro v9 w9 hO9 hgr9 _
        have HO9 := Lib.hid (show OwnW w9 w.heap.size v9 (k + 1) (outs ++ [s.extract f i]) by
          unfold OwnW
          rw [List.map_append]
          exact hO9)
        have HB9 := Lib.hid ((hb.alloc hb.size _).trans (grown_below hgr9 (by simp; omega) (fun z hz => (HO.out.lt z hz).1)))
        clear hO9 hgr9 hb
        go_wp2_with fail
        go_roundw
        case rel => exact ⟨i + 1, i + 1, k + 1, _, by omega, Nat.le_refl _, by omega, by go_num, by go_num, HO9.out, HR2.out, HB9.out⟩
        case measure => simp [intOf]; omega
      · have HR2 := Lib.hid (split_more hf HD.out h47 HR.out rfl)
        have e1 := ne_t (show (s[i].toNat : Int) ≠ 47 by
          rw [← hc]
          intro e
          exact h47 (UInt8.toNat_inj.1 (by have : (47 : UInt8).toNat = 47 := rfl; omega)))
        have e2 := e1.1
        have e3 := e1.2
        clear e1 h47 hc
        go_wp2_with fail
        go_roundw
        case rel => exact ⟨i + 1, f, k, outs, by omega, by omega, by omega, by go_num, rfl, HO.out, HR2.out, hb⟩
        case measure => simp [intOf]; omega
    · have hin : i = s.size := by omega
      subst hin
      have HR2 := Lib.hid (split_end HR.out)
      go_wp2_with (at_builtin; refine wpList_append_own _ rfl _ _ 33 rfl (w.heap.size) 9 i9 (.string ⟨#[]⟩) 1 16 Tryd.underlying33 hi9 hz90 hz91 hz92 rfl (by decide) _ _ _ rfl (World.ownsRow.alloc HO.out _) ⟨wr.heap.size, 0, none⟩ 1 1 [.string (s.extract f s.size)] rfl rfl (new_one _ _ (by simp) _ _) (by intro u hu; simp at hu; subst hu; rfl) (by unfold maxLen; omega) (by omega) (by simp <;> omega) ?_)
      intro v9 w9 hO9 hgr9 _
      have HO9 := Lib.hid (show OwnW w9 w.heap.size v9 (k + 1) ((splitB (bytes s)).map str) by
        rw [← HR2.out]
        unfold OwnW
        rw [List.map_append]
        exact hO9)
      have HB9 := Lib.hid ((hb.alloc hb.size _).trans (grown_below hgr9 (by simp; omega) (fun z hz => (HO.out.lt z hz).1)))
      clear hO9 hgr9 hb
      go_wp2_with fail
      go_ret
      obtain ⟨V9, C9, rfl⟩ := own_slice HO9.out
      exact ⟨V9, k + 1, C9, rfl, HO9.out, HB9.out⟩
theorem valL_lt (l : List UInt8) : ∀ acc : Nat, digs l = true → valL acc l < (acc + 1) * 10 ^ l.length := by
  induction l with
  | nil => intro acc _; rw [valL_nil]; simp
  | cons c r ih =>
    intro acc hd
    rw [digs, Bool.and_eq_true] at hd
    have hc := isD_true.1 hd.1
    have h := ih (acc * 10 + (c.toNat - 48)) hd.2
    rw [valL_cons, List.length_cons, Nat.pow_succ]
    refine Nat.lt_of_lt_of_le h ?_
    rw [show (acc + 1) * (10 ^ r.length * 10) = ((acc + 1) * 10) * 10 ^ r.length by rw [Nat.mul_comm (10 ^ r.length) 10, ← Nat.mul_assoc]]
    exact Nat.mul_le_mul_right _ (by omega)
theorem valL_6 {l : List UInt8} (hd : digs l = true) (hl : l.length ≤ 6) : valL 0 l < 1000000 := by
  have h := valL_lt l 0 hd
  have h2 : 10 ^ l.length ≤ 10 ^ 6 := Nat.pow_le_pow_right (by omega) hl
  omega
theorem headZ_s {s : ByteArray} (h : 0 < s.size) : headZ (bytes s) = (decide (s[0] = 48) && decide (1 < s.size)) := by
  have e := bytes_drop s 0 h
  rw [List.drop_zero] at e
  rw [headZ, bytes_len, e]
  simp
theorem digs_split {s : ByteArray} {k : Nat} (h : k < s.size) : digs ((bytes s).take (k + 1)) = (digs ((bytes s).take k) && isD s[k]) := by
  rw [List.take_add_one, bytes_get s k h]
  simp [digs_app, digs]
theorem digs_no {s : ByteArray} {k : Nat} (h : k < s.size) (hc : isD s[k] = false) : digs (bytes s) = false := by
  rw [← List.take_append_drop k (bytes s), digs_app, bytes_drop s k h, digs, hc]
  simp
set_option maxRecDepth 100000 in
set_option maxHeartbeats 4000000 in
theorem l1Read_any (s : ByteArray) (hs : s.size ≤ 1048576) (w : World) :
    Calls Tryd.prog 12 #[.string s] w fun e w' => e = .returned (.int .i64 (readV (bytes s))) ∧ w = w' := by
  cases h1 : inB (s.size : Int) 1 6
  · have HV := Lib.hid (show readV (bytes s) = -1 by
      have := inB_false.1 h1
      rw [readV, if_neg]
      rw [readB, bytes_len]
      simp only [Bool.and_eq_true, decide_eq_true_eq]
      omega)
    go_enter Tryd.func12, Tryd.ntmps12
    go_wp2_with (go_at_call 18; refine (in_any _ _ _ _).mono ?_; rintro e1 w1 ⟨rfl, rfl⟩)
    go_ret
    exact ⟨ret_int HV.out.symm, rfl⟩
  have q := inB_true.1 h1
  have h0 : 0 < s.size := by omega
  have l0 : (0 : Int) < (s.size : Int) := by omega
  have l6 : s.size ≤ 6 := by omega
  have HZ := Lib.hid (headZ_s h0)
  by_cases hz : s[0] = 48 ∧ 1 < s.size
  · have HV := Lib.hid (show readV (bytes s) = -1 by
      rw [readV, if_neg]
      rw [readB, HZ.out, decide_eq_true hz.1, decide_eq_true hz.2]
      simp)
    have e1 := ne_f (show (s[0].toNat : Int) = 48 by rw [hz.1]; rfl)
    have e2 := e1.1
    have e3 := e1.2
    have l1 : (1 : Int) < (s.size : Int) := by omega
    clear e1 hz q
    go_enter Tryd.func12, Tryd.ntmps12
    go_wp2_with (go_at_call 18; refine (in_any _ _ _ _).mono ?_; rintro e1 w1 ⟨rfl, rfl⟩)
    go_ret
    exact ⟨ret_int HV.out.symm, rfl⟩
  have HZ2 := Lib.hid (show headZ (bytes s) = false by
    rw [HZ.out]
    by_cases h8 : s[0] = 48
    · rw [decide_eq_false (show ¬ 1 < s.size from fun h9 => hz ⟨h8, h9⟩)]; simp
    · rw [decide_eq_false h8]; rfl)
  have HB := Lib.hid (show readB (bytes s) = digs (bytes s) by rw [readB, bytes_len, decide_eq_true (show 1 ≤ s.size by omega), decide_eq_true l6, HZ2.out]; rfl)
  have hcase : (∃ e3 : ((s[0].toNat : Int) == 48) = false, True) ∨ (∃ e3 : ((s[0].toNat : Int) == 48) = true, ¬ (1 : Int) < (s.size : Int)) := by
    by_cases h8 : s[0] = 48
    · right
      exact ⟨(ne_f (show (s[0].toNat : Int) = 48 by rw [h8]; rfl)).2, fun h9 => hz ⟨h8, by omega⟩⟩
    · left
      exact ⟨(ne_t (show (s[0].toNat : Int) ≠ 48 from fun e => h8 (UInt8.toNat_inj.1 (by have : (48 : UInt8).toNat = 48 := rfl; omega)))).2, trivial⟩
  clear hz q
  rcases hcase with ⟨e3, _⟩ | ⟨e3, l1⟩
  all_goals
    go_enter Tryd.func12, Tryd.ntmps12
    go_wp2_with (go_at_call 18; refine (in_any _ _ _ _).mono ?_; rintro e1 w1 ⟨rfl, rfl⟩)
    clear e3
    go_loop [3, 4] (fun n i => ∃ k v : Nat, k ≤ s.size ∧ i = .int .i64 k ∧ n = .int .i64 v ∧ v = valL 0 ((bytes s).take k) ∧ digs ((bytes s).take k) = true) (fun _ i => s.size - (intOf i).toNat)
    case atStart => exact ⟨0, 0, Nat.zero_le _, rfl, rfl, by rw [List.take_zero, valL_nil], by rw [List.take_zero, digs]⟩
    case round =>
      obtain ⟨k, v, hk, rfl, rfl, hv, hd⟩ := hrel
      have hv6 : v < 1000000 := by
        rw [hv]
        exact valL_6 hd (by rw [List.length_take, bytes_len]; omega)
      have HV := Lib.hid hv
      have HDG := Lib.hid hd
      clear hv hd
      by_cases hlt : k < s.size
      · have m0 : (0 : Int) ≤ (k : Int) := by omega
        have m1 : (k : Int) < (s.size : Int) := by omega
        obtain ⟨c, hc⟩ : ∃ c, c = s[k] := ⟨_, rfl⟩
        cases hD : isD c
        · have HN := Lib.hid (show readV (bytes s) = -1 by rw [readV, if_neg]; rw [HB.out, digs_no hlt (by rw [← hc]; exact hD)]; simp)
          have hor : (s[k].toNat : Int) < 48 ∨ (48 ≤ (s[k].toNat : Int) ∧ 57 < (s[k].toNat : Int)) := by
            rw [← hc]
            have h9 : ¬ (48 ≤ c.toNat ∧ c.toNat ≤ 57) := fun h8 => by rw [isD_true.2 h8] at hD; cases hD
            omega
          clear hD hc
          rcases hor with u1 | ⟨u1, u2⟩
          all_goals
            go_wp2_with fail
            go_ret
            exact ⟨ret_int HN.out.symm, rfl⟩
        · have hD2 := isD_true.1 hD
          rw [hc] at hD2
          have u1 : 48 ≤ (s[k].toNat : Int) := by omega
          have u2 : (s[k].toNat : Int) ≤ 57 := by omega
          have HV2 := Lib.hid (show v * 10 + (s[k].toNat - 48) = valL 0 ((bytes s).take (k + 1)) by rw [List.take_add_one, bytes_get s k hlt, valL_app, ← HV.out]; rfl)
          have HD2 := Lib.hid (show digs ((bytes s).take (k + 1)) = true by rw [digs_split hlt, HDG.out, ← hc, hD]; rfl)
          have eu : IntKind.u8.wrap ((s[k].toNat : Int) - 48) = (s[k].toNat : Int) - 48 := by rw [IntKind.wrap]; simp [IntKind.signed, IntKind.bits]; omega
          clear hD hc hD2
          go_wp2_with fail
          go_round
          case rel => exact ⟨k + 1, v * 10 + (s[k].toNat - 48), by omega, by go_num, by congr 1; omega, HV2.out, HD2.out⟩
          case measure => simp [intOf]; omega
      · have hkn : k = s.size := by omega
        have HN := Lib.hid (show readV (bytes s) = (v : Int) by
          have hd := HDG.out
          have hv := HV.out
          rw [List.take_of_length_le (by rw [bytes_len]; omega)] at hd hv
          rw [readV, if_pos (by rw [HB.out]; exact hd), ← hv])
        go_wp2_with fail
        go_ret
        exact ⟨ret_int HN.out.symm, rfl⟩
theorem l1Read_str (l : List UInt8) (hs : (str l).size ≤ 1048576) (w : World) : Calls Tryd.prog 12 #[.string (str l)] w fun e w' => e = .returned (.int .i64 (readV l)) ∧ w = w' := by
  have h := l1Read_any (str l) hs w
  rw [bytes_str] at h
  exact h
end Go.Proofs.YtoclndbenpagnaaDoor
