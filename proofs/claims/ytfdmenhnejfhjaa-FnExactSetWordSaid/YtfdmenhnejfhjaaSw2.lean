/-
  Contracts: a word is set.
-/
import Derived.Test.YtfdmenhnejfhjaaSw1
import Derived.Test.YtfdmenhnejfhjaaSe3
import Derived.Test.YtfdmenhnejfhjaaStep
namespace Go.Proofs.Ytfdmenhnejfhjaa
open Go.RowKit
def cdOf (ms : List Srt) (i : Int) : ByteArray := ((ms[i.toNat]?).getD ⟨⟨#[]⟩, 0⟩).code
def cds (ms : List Srt) (s : ByteArray) : List ByteArray := (setV ms s).map (cdOf ms)
def swG (ms : List Srt) (bs : List Bx) (ss : List ByteArray) (s : ByteArray) : Bool := setG ms s && (mvG (-1) bs (cds ms s) && askB (movF (-1) (cds ms s) bs) (ss ++ cds ms s))
def swB (ms : List Srt) (bs : List Bx) (ss : List ByteArray) (s : ByteArray) : List Bx := if swG ms bs ss s then movF (-1) (cds ms s) bs else []
def swS (ms : List Srt) (bs : List Bx) (ss : List ByteArray) (s : ByteArray) : List ByteArray := if swG ms bs ss s then ss ++ cds ms s else []
theorem sw_no {ms : List Srt} {bs : List Bx} {ss : List ByteArray} {s : ByteArray} (h : swG ms bs ss s = false) : swB ms bs ss s = [] ∧ swS ms bs ss s = [] := by rw [swB, swS, h]; exact ⟨rfl, rfl⟩
theorem sw_yes {ms : List Srt} {bs : List Bx} {ss : List ByteArray} {s : ByteArray} (h : swG ms bs ss s = true) : swB ms bs ss s = movF (-1) (cds ms s) bs ∧ swS ms bs ss s = ss ++ cds ms s := by rw [swB, swS, h]; exact ⟨rfl, rfl⟩
theorem movF_codes {by_ : Int} : ∀ {l : List ByteArray} {bs : List Bx}, (movF by_ l bs).map Bx.code = bs.map Bx.code
  | [], _ => rfl
  | s :: r, bs => by rw [movF, movF_codes, addC_codes]
theorem movF_sizes {by_ : Int} {l : List ByteArray} {bs : List Bx} (h : ∀ b ∈ bs, b.code.size ≤ 1048576) : ∀ b ∈ movF by_ l bs, b.code.size ≤ 1048576 := mem_codes (P := fun c => c.size ≤ 1048576) movF_codes h
theorem setA_mem {ms : List Srt} : ∀ {f : Nat} {w : List UInt8} {out l : List Int}, setA ms f w out = some l → ∃ r, l = out ++ r ∧ (∀ x ∈ r, ∃ (i : Nat) (y : Srt), x = (i : Int) ∧ ms[i]? = some y) ∧ (w ≠ [] → r ≠ [])
  | f, [], out, l, h => by
    rw [setA_nil] at h
    injection h with h
    exact ⟨[], by simp [h], by simp, fun h => absurd rfl h⟩
  | 0, _ :: _, _, _, h => by cases h
  | f + 1, c :: q, out, l, h => by
    rw [setA_step (by simp)] at h
    by_cases hb : bestW ms (c :: q) < 0
    · rw [if_pos hb] at h; cases h
    · rw [if_neg hb] at h
      obtain ⟨r, e, hm, _⟩ := setA_mem h
      refine ⟨bestW ms (c :: q) :: r, by rw [e, List.append_assoc]; rfl, ?_, fun _ => by simp⟩
      intro x hx
      rcases List.mem_cons.1 hx with rfl | hx
      · rcases bestW_bd (ms := ms) (w := c :: q) with h1 | ⟨i, y, h1, h2, _, _⟩
        · omega
        · exact ⟨i, y, h1, h2⟩
      · exact hm x hx
theorem setV_mem {ms : List Srt} {s : ByteArray} : ∀ x ∈ setV ms s, ∃ (i : Nat) (y : Srt), x = (i : Int) ∧ ms[i]? = some y := by
  cases h : setR ms s with
  | none => rw [(set_none h).1]; simp
  | some l =>
    obtain ⟨r, e, hm, _⟩ := setA_mem h
    rw [(set_some h).1, e]
    simpa using hm
theorem setV_pos {ms : List Srt} {s : ByteArray} (h : setG ms s = true) (hs : 1 ≤ s.size) : 1 ≤ (setV ms s).length := by
  cases h1 : setR ms s with
  | none => rw [(set_none h1).2] at h; cases h
  | some l =>
    obtain ⟨r, e, _, hr⟩ := setA_mem h1
    have hne : bytes s ≠ [] := by
      intro e2
      have := bytes_len s
      rw [e2] at this
      simp at this
      omega
    have h2 := List.length_pos_iff.2 (hr hne)
    rw [(set_some h1).1, e]
    simp
    omega
theorem cds_take {ms : List Srt} {s : ByteArray} {k i : Nat} {b : Srt} (h : (setV ms s)[k]? = some (i : Int)) (hb : ms[i]? = some b) : (cds ms s).take (k + 1) = (cds ms s).take k ++ [b.code] := by
  have h1 : (cds ms s)[k]? = some b.code := by
    rw [cds, List.getElem?_map, h]
    simp only [Option.map_some, cdOf, Int.toNat_natCast, hb, Option.getD_some]
  rw [List.take_add_one, h1]
  rfl
theorem ownT_app2 {w : World} {B n : Nat} {v : Value} {xs : List ByteArray} {z : ByteArray} (h : w.ownsRow B 9 1 v (n + 1) (xs.map Value.string ++ [.string z])) : OwnT w B v (n + 1) (xs ++ [z]) := by
  unfold OwnT
  rw [List.map_append]
  exact h
theorem ownT_nil0 (w : World) (B : Nat) : OwnT w B (.slice none 0 0) 0 [] := World.ownsRow_nil _ _ _ _
theorem takeTypes_full {A A' : Option Addr} {n cp m cd : Nat} {bs : List Bx} {ss : List ByteArray} {w : World} (hr : RBxs w w.heap.size A n bs) (hn0 : n ≤ 1048576) (hcp : n ≤ cp) (hL : ∀ b ∈ bs, b.code.size ≤ 1048576) (hs : RStrs w w.heap.size A' m ss) (hm0 : m ≤ 1048576) :
    Calls Try.prog 51 #[.slice A n cp, .slice A' m cd] w fun e w' => ∃ V N C, e = .returned (.tuple #[.slice V N C, .bool (mvG (-1) bs ss)]) ∧ w'.ownsRow w.heap.size 71 4 (.slice V N C) N ((mvV (-1) bs ss).map Bx.row).flatten ∧ N ≤ 32 ∧ Below w.heap.size w w' := by
  go_enter Try.func51, Try.ntmps51
  go_wp2_with fail
  refine (changed_full hr hn0 hcp hL hs hm0 (.inr rfl)).mono ?_
  rintro e1 w1 ⟨V, N, C, rfl, ho, hN, hb⟩
  have HO := Lib.hid ho
  clear ho
  go_wp2_with fail
  go_ret2
  exact ⟨V, N, C, rfl, HO.out, hN, hb⟩
set_option maxRecDepth 100000 in
set_option maxHeartbeats 4000000 in
theorem setWord_spec {Af : Option Addr} {nf cpf : Nat} {ms : List Srt} {A A' : Option Addr} {n cp m cd : Nat} {bs : List Bx} {ss : List ByteArray} {s : ByteArray} {w : World} (hf : RSrts w w.heap.size Af nf ms) (hnf : nf ≤ 1048576) (hfB : fontB ms = true) (hr : RBxs w w.heap.size A n bs) (hn0 : n ≤ 1048576) (hcp : n ≤ cp) (hL : ∀ b ∈ bs, b.code.size ≤ 1048576) (hs : RStrs w w.heap.size A' m ss) (hm60 : m ≤ 60) (hnl : A' = none → False) (hw1 : 1 ≤ s.size) (hw16 : s.size ≤ 16) :
    Calls Try.prog 21 #[.slice Af nf cpf, .agg #[.slice A n cp, .slice A' m cd], .string s] w fun e w' => ∃ V N C V' N' C', e = .returned (.tuple #[.agg #[.slice V N C, .slice V' N' C'], .bool (swG ms bs ss s)]) ∧ w'.ownsRow w.heap.size 71 4 (.slice V N C) N ((swB ms bs ss s).map Bx.row).flatten ∧ OwnT w' w.heap.size (.slice V' N' C') N' (swS ms bs ss s) ∧ N ≤ 1048576 ∧ N' ≤ 1048576 ∧ Below w.heap.size w w' := by
  have hbW : Below w.heap.size w ((w.alloc (.cells #[.slice A n cp, .slice A' m cd] 31)).alloc (.cells #[.slice none 0 0, .slice none 0 0] 31)) := ((Below.refl _ _).alloc (Nat.le_refl _) _).alloc (by simp) _; have ha : Blk ((w.alloc (.cells #[.slice A n cp, .slice A' m cd] 31)).alloc (.cells #[.slice none 0 0, .slice none 0 0] 31)) w.heap.size 31 [.slice A n cp, .slice A' m cd] := (Blk.new' w 31 #[.slice A n cp, .slice A' m cd]).alloc _; have hz : Blk ((w.alloc (.cells #[.slice A n cp, .slice A' m cd] 31)).alloc (.cells #[.slice none 0 0, .slice none 0 0] 31)) (w.heap.size + 1) 31 [.slice none 0 0, .slice none 0 0] := by simpa using Blk.new' (w.alloc (.cells #[.slice A n cp, .slice A' m cd] 31)) 31 #[.slice none 0 0, .slice none 0 0]
  obtain ⟨i9, hi9, hz90, hz91, hz92⟩ := info_parts info9
  have HLs := Lib.hid hs.len
  have HM := Lib.hid (setV_mem (ms := ms) (s := s))
  have HF := Lib.hid hfB
  have HRF := Lib.hid hf
  have HRB := Lib.hid hr
  have HRS := Lib.hid hs
  have HNL := Lib.hid (show A' = none → cd = 0 from fun e => (hnl e).elim)
  have HSO := Lib.hid (show ∃ adS, A' = some adS by cases A' with | none => exact (hnl rfl).elim | some ad => exact ⟨ad, rfl⟩)
  have HX := Lib.hid hL
  have HLF := Lib.hid hf.len
  clear hfB hf hr hs hnl hL
  go_enter Try.func21, Try.ntmps21
  (have a0 : _ = some (Value.slice A n cp) := ha.cell 0); (have a1 : _ = some (Value.slice A' m cd) := ha.cell 1); (have z0 : _ = some (Value.slice none 0 0) := hz.cell 0); (have z1 : _ = some (Value.slice none 0 0) := hz.cell 1); have y0 := hz.frozen 0; have y1 := hz.frozen 1
  go_wp2_with fail
  refine (tySet_any ((RSrts.below HRF.out hbW).more hbW.size) hnf HF.out (by omega)).mono ?_
  rintro e1 w1 ⟨VL, NL, CL, rfl, ho, hNL, hn⟩
  replace ha := ha.below hn ha.lt; replace hz := hz.below hn hz.lt; replace hbW := hbW.trans (hn.mono hbW.size)
  have HOL := Lib.hid ho
  have HLL := Lib.hid (show (setV ms s).length = NL by have := ho.1; simpa using this)
  clear ho hn
  clear a0 z0 z1 y0 y1; (try clear a1); obtain ⟨v, hv⟩ : ∃ v, v = setG ms s := ⟨_, rfl⟩; rw [← hv]; have HV := Lib.hid hv; clear hv; (have a0 : _ = some (Value.slice A n cp) := ha.cell 0); (have a1 : _ = some (Value.slice A' m cd) := ha.cell 1); (have z0 : _ = some (Value.slice none 0 0) := hz.cell 0); (have z1 : _ = some (Value.slice none 0 0) := hz.cell 1); have y0 := hz.frozen 0; have y1 := hz.frozen 1
  cases v
  · have HG := Lib.hid (show swG ms bs ss s = false by rw [swG, ← HV.out]; rfl)
    go_wp2_with fail
    clear a0 z0 z1 y0 y1; (try clear a1); have hz4 := (hz.set_ 0 (.slice none 0 0)).set_ 1 (.slice none 0 0); (have q0 : _ = some (.slice none 0 0 : Value) := hz4.cell 0); (have q1 : _ = some (.slice none 0 0 : Value) := hz4.cell 1); exact bodyPost_ret (v := .tuple #[.agg #[.slice none 0 0, .slice none 0 0], .bool false]) (by simp [results, Try.results21, go_sem, q0, q1]) rfl ⟨none, 0, 0, none, 0, 0, by rw [HG.out], by rw [(sw_no HG.out).1]; exact World.ownsRow_nil _ _ _ _, by rw [(sw_no HG.out).2]; exact World.ownsRow_nil _ _ _ _, by omega, by omega, (hbW.setCell (by simp) _).setCell (by simp) _⟩
  have HP := Lib.hid (setV_pos HV.out.symm hw1)
  clear a0 z0 z1 y0 y1; (try clear a1)
  go_wp2_with fail
  go_loopw [10, 27] (fun v i wr => ∃ k : Nat, k ≤ NL ∧ i = .int .i64 k ∧ OwnT wr w1.heap.size v k ((cds ms s).take k) ∧ Below w1.heap.size w1 wr) (fun _ i _ => NL - (intOf i).toNat)
  case atStart => exact ⟨0, Nat.zero_le _, rfl, ownT_nil0 _ _, Below.refl _ _⟩
  case round =>
    obtain ⟨k, hk, rfl, hown, hb⟩ := hrel
    obtain ⟨VC, CC, rfl⟩ := own_slice hown
    have HC := Lib.hid hown
    clear hown
    have hbz := hbW.trans (hb.mono hbW.size)
    by_cases hlt : k < NL
    · obtain ⟨adL, y, rfl, _, _, hy, hc⟩ := RInts.at_ (Reads.of_own (row_step HOL.out hb)) hlt
      obtain ⟨i, b, hyi, hbi⟩ := HM.out y (List.mem_of_getElem? hy)
      subst hyi
      have hin : i < nf := by have := (List.getElem?_eq_some_iff.1 hbi).1; have := HLF.out; omega
      have HT := Lib.hid (cds_take hy hbi)
      obtain ⟨bb, off, b2, eA, _, _, hx, c0, _⟩ := RSrts.at_ (RSrts.below HRF.out hbz) hin
      rw [hbi] at hx
      injection hx with hx
      subst hx
      have HA := Lib.hid eA
      rw [eA]
      have l0 : (0 : Int) ≤ (i : Int) := by omega
      have l1 : (i : Int) < (nf : Int) := by omega
      clear eA hbi hy
      go_wp2_with (at_builtin; refine wpList_append_own _ rfl (.tmp 31) (.tmp 37) 24 rfl w1.heap.size 9 i9 (.string ⟨#[]⟩) 1 16 Try.underlying24 hi9 hz90 hz91 hz92 rfl (by decide) _ k _ rfl (row_alloc HC.out _) _ 1 1 [.string b.code] rfl rfl (new_one _ _ rfl _ _) (by intro u hu; simp at hu; subst hu; rfl) (by unfold maxLen; omega) (by omega) (by have := hb.size; simp; omega) ?_)
      intro v9 w9 hO9 hgr9 _
      have HN9 := Lib.hid (show OwnT w9 w1.heap.size v9 (k + 1) ((cds ms s).take (k + 1)) by rw [HT.out]; exact ownT_app2 (by rw [List.map_take]; exact hO9))
      have hb9 := (hb.alloc hb.size _).trans (below_grown (row_alloc HC.out _) (by have := hb.size; simp; omega) hgr9)
      clear hO9 hgr9 hc c0
      go_wp2_with fail
      (try rw [← HA.out])
      go_roundw
      case rel => exact ⟨k + 1, by omega, by go_num, HN9.out, hb9⟩
      case measure => simp [intOf]; omega
    · obtain ⟨wo, rfl⟩ : ∃ wo, wo = wr := ⟨_, rfl⟩
      have hkN : k = NL := by omega
      have HCC := Lib.hid (show OwnT wo w1.heap.size (.slice VC k CC) k (cds ms s) by have := HC.out; rwa [List.take_of_length_le (by rw [cds, List.length_map, HLL.out]; omega)] at this)
      have hk16 : k ≤ 16 := by omega
      have hk1 : k = (setV ms s).length := by rw [hkN, HLL.out]
      have HK1 := Lib.hid hk1
      have l9 : ¬ (k : Int) < (NL : Int) := by omega
      have hn := hb
      clear HC hkN hk1
      replace ha := ha.below hn ha.lt; replace hz := hz.below hn hz.lt; replace hbW := hbW.trans (hn.mono hbW.size)
      clear hn
      have hzb := hz.lt
      (have a0 : _ = some (Value.slice A n cp) := ha.cell 0); (have a1 : _ = some (Value.slice A' m cd) := ha.cell 1); (have z0 : _ = some (Value.slice none 0 0) := hz.cell 0); (have z1 : _ = some (Value.slice none 0 0) := hz.cell 1); have y0 := hz.frozen 0; have y1 := hz.frozen 1
      have hk0 : 0 < k := by have := HP.out; have := HK1.out; omega
      obtain ⟨adC, rfl⟩ : ∃ adC, VC = some adC := by
        obtain ⟨ad, _, e, _⟩ := RStrs.at_ (RStrs.of_own HCC.out) hk0
        exact ⟨ad, e⟩
      go_wp2_with fail
      refine (caAsked_any ((RBxs.below HRB.out hbW).more hbW.size) hn0 hcp HX.out (RStrs.of_own HCC.out) (by omega)).mono ?_
      rintro e1 w2 ⟨rfl, hn⟩
      have HCC2 := Lib.hid (row_step HCC.out hn)
      clear HCC
      replace ha := ha.below hn ha.lt; replace hz := hz.below hn hz.lt; replace hbW := hbW.trans (hn.mono hbW.size)
      have hw12 := hn.size
      clear hn
      clear a0 z0 z1 y0 y1; (try clear a1); obtain ⟨v, hv⟩ : ∃ v, v = askB bs (cds ms s) := ⟨_, rfl⟩; rw [← hv]; have HV2 := Lib.hid hv; clear hv; (have a0 : _ = some (Value.slice A n cp) := ha.cell 0); (have a1 : _ = some (Value.slice A' m cd) := ha.cell 1); (have z0 : _ = some (Value.slice none 0 0) := hz.cell 0); (have z1 : _ = some (Value.slice none 0 0) := hz.cell 1); have y0 := hz.frozen 0; have y1 := hz.frozen 1
      cases v
      · have HG := Lib.hid (show swG ms bs ss s = false by rw [swG, mvG, ← HV2.out]; simp)
        go_wp2_with fail
        clear a0 z0 z1 y0 y1; (try clear a1); have hz4 := (hz.set_ 0 (.slice none 0 0)).set_ 1 (.slice none 0 0); (have q0 : _ = some (.slice none 0 0 : Value) := hz4.cell 0); (have q1 : _ = some (.slice none 0 0 : Value) := hz4.cell 1); exact bodyPost_ret (v := .tuple #[.agg #[.slice none 0 0, .slice none 0 0], .bool false]) (by simp [results, Try.results21, go_sem, q0, q1]) rfl ⟨none, 0, 0, none, 0, 0, by rw [HG.out], by rw [(sw_no HG.out).1]; exact World.ownsRow_nil _ _ _ _, by rw [(sw_no HG.out).2]; exact World.ownsRow_nil _ _ _ _, by omega, by omega, (hbW.setCell (by simp) _).setCell (by simp) _⟩
      go_wp2_with fail
      refine (caMove_any (by_ := -1) ((RBxs.below HRB.out hbW).more hbW.size) hn0 hcp HX.out (RStrs.of_own HCC2.out) (by omega) (.inr rfl) HV2.out.symm).mono ?_
      rintro e1 w3 ⟨V3, N3, C3, rfl, ho, hN3, hn⟩
      have HCC3 := Lib.hid (row_step HCC2.out hn)
      clear HCC2
      replace ha := ha.below hn ha.lt; replace hz := hz.below hn hz.lt; replace hbW := hbW.trans (hn.mono hbW.size)
      have hw23 := hn.size
      clear hn
      have HO3 := Lib.hid ho
      clear ho
      clear a0 z0 z1 y0 y1; (try clear a1); obtain ⟨v, hv⟩ : ∃ v, v = caseB (movF (-1) (cds ms s) bs) := ⟨_, rfl⟩; rw [← hv]; have HV3 := Lib.hid hv; clear hv; (have a0 : _ = some (Value.slice A n cp) := ha.cell 0); (have a1 : _ = some (Value.slice A' m cd) := ha.cell 1); (have z0 : _ = some (Value.slice none 0 0) := hz.cell 0); (have z1 : _ = some (Value.slice none 0 0) := hz.cell 1); have y0 := hz.frozen 0; have y1 := hz.frozen 1
      go_wp2_with fail
      refine (l1OwnS_any ((RStrs.below HRS.out hbW).more hbW.size) (by omega) HNL.out).mono ?_
      rintro e1 w5 ⟨V5, C5, rfl, ho5, hn35⟩
      have HCC5 := Lib.hid (row_step HCC3.out hn35)
      clear HCC3
      have HO5 := Lib.hid ho5
      clear ho5
      have hw35 := hn35.size
      go_wp2_with (at_builtin; refine wpList_append_own _ rfl (.tmp 56) (.tmp 57) 24 rfl w3.heap.size 9 i9 (.string ⟨#[]⟩) 1 16 Try.underlying24 hi9 hz90 hz91 hz92 rfl (by decide) _ m _ rfl HO5.out adC k CC ((cds ms s).map Value.string) rfl (by rw [List.length_map, cds, List.length_map, ← HK1.out]; omega) (RStrs.cells (RStrs.of_own HCC5.out)) (strs_one _) (by unfold maxLen; omega) (by omega) (by omega) ?_)
      intro v9 w9 hO9 hgr9 _
      have hn9 := below_grown HO5.out (by omega) hgr9
      (try clear hq0)
      have hn := hn35.trans hn9
      have HB9 := Lib.hid (row_below HO3.out hn (fun q hq => (HO3.out.lt q hq).2))
      have HT9 := Lib.hid (show OwnT w9 w3.heap.size v9 (m + k) (ss ++ cds ms s) by unfold OwnT; rw [List.map_append]; exact hO9)
      have hw39 := hn.size
      clear a0 z0 z1 y0 y1; (try clear a1)
      replace ha := ha.below hn ha.lt; replace hz := hz.below hn hz.lt; replace hbW := hbW.trans (hn.mono hbW.size)
      clear hn hn9 hn35 hO9 hgr9 HCC5 HO5
      obtain ⟨V9, C9, rfl⟩ := own_slice HT9.out
      (have a0 : _ = some (Value.slice A n cp) := ha.cell 0); (have a1 : _ = some (Value.slice A' m cd) := ha.cell 1); (have z0 : _ = some (Value.slice none 0 0) := hz.cell 0); (have z1 : _ = some (Value.slice none 0 0) := hz.cell 1); have y0 := hz.frozen 0; have y1 := hz.frozen 1
      cases v
      · have HG := Lib.hid (show swG ms bs ss s = false by rw [swG, mvG, ← HV3.out]; simp)
        have hz15 := hz.alloc (.cells #[.slice V3 N3 C3, .slice V9 (m + k) C9] 31)
        have zz0 : _ = some (Value.slice none 0 0) := hz15.cell 0
        have zz1 : _ = some (Value.slice none 0 0) := hz15.cell 1
        have yy0 := hz15.frozen 0
        have yy1 := hz15.frozen 1
        go_wp2_with fail
        clear zz0 zz1 yy0 yy1
        have hn : Below w9.heap.size w9 (w9.alloc (.cells #[.slice V3 N3 C3, .slice V9 (m + k) C9] 31)) := (Below.refl _ _).alloc (Nat.le_refl _) _
        clear a0 z0 z1 y0 y1; (try clear a1)
        replace ha := ha.below hn ha.lt; replace hz := hz.below hn hz.lt; replace hbW := hbW.trans (hn.mono hbW.size)
        (have a0 : _ = some (Value.slice A n cp) := ha.cell 0); (have a1 : _ = some (Value.slice A' m cd) := ha.cell 1); (have z0 : _ = some (Value.slice none 0 0) := hz.cell 0); (have z1 : _ = some (Value.slice none 0 0) := hz.cell 1); have y0 := hz.frozen 0; have y1 := hz.frozen 1
        clear hn
        clear a0 z0 z1 y0 y1; (try clear a1); have hz4 := (hz.set_ 0 (.slice none 0 0)).set_ 1 (.slice none 0 0); (have q0 : _ = some (.slice none 0 0 : Value) := hz4.cell 0); (have q1 : _ = some (.slice none 0 0 : Value) := hz4.cell 1); exact bodyPost_ret (v := .tuple #[.agg #[.slice none 0 0, .slice none 0 0], .bool false]) (by simp [results, Try.results21, go_sem, q0, q1]) rfl ⟨none, 0, 0, none, 0, 0, by rw [HG.out], by rw [(sw_no HG.out).1]; exact World.ownsRow_nil _ _ _ _, by rw [(sw_no HG.out).2]; exact World.ownsRow_nil _ _ _ _, by omega, by omega, (hbW.setCell (by simp) _).setCell (by simp) _⟩
      have HB9' := Lib.hid (show w9.ownsRow w2.heap.size 71 4 (.slice V3 N3 C3) N3 ((movF (-1) (cds ms s) bs).map Bx.row).flatten by have := HB9.out; rwa [show movV (-1) bs (cds ms s) = movF (-1) (cds ms s) bs by rw [movV, ← HV3.out]; rfl] at this)
      have hw9s := hw39
      have hq := Blk.new' w9 31 #[.slice V3 N3 C3, .slice V9 (m + k) C9]
      have hn : Below w9.heap.size w9 (w9.alloc (.cells #[.slice V3 N3 C3, .slice V9 (m + k) C9] 31)) := (Below.refl _ _).alloc (Nat.le_refl _) _
      have q0 : _ = some (Value.slice V3 N3 C3) := hq.cell 0
      have q1 : _ = some (Value.slice V9 (m + k) C9) := hq.cell 1
      have HB10 := Lib.hid (row_step HB9'.out hn)
      have HT10 := Lib.hid (row_step HT9.out hn)
      go_wp2_with fail
      clear a0 z0 z1 y0 y1; (try clear a1)
      replace ha := ha.below hn ha.lt; replace hz := hz.below hn hz.lt; replace hbW := hbW.trans (hn.mono hbW.size)
      refine (diGood_any (RBxs.of_own HB10.out) (by omega) (own_cap HB10.out) (movF_sizes HX.out) (RStrs.of_own HT10.out) (by omega)).mono ?_
      clear hn
      rintro e1 w10 ⟨rfl, hn⟩
      have HB11 := Lib.hid (row_step HB10.out hn)
      have HT11 := Lib.hid (row_step HT10.out hn)
      have hq11 := hq.below hn hq.lt
      replace ha := ha.below hn ha.lt; replace hz := hz.below hn hz.lt; replace hbW := hbW.trans (hn.mono hbW.size)
      have hw10 := hn.size
      clear hn hq q0 q1 HB10 HT10 HB9 HT9 HB9'
      (have a0 : _ = some (Value.slice A n cp) := ha.cell 0); (have a1 : _ = some (Value.slice A' m cd) := ha.cell 1); (have z0 : _ = some (Value.slice none 0 0) := hz.cell 0); (have z1 : _ = some (Value.slice none 0 0) := hz.cell 1); have y0 := hz.frozen 0; have y1 := hz.frozen 1
      clear a0 z0 z1 y0 y1; (try clear a1); obtain ⟨v, hv⟩ : ∃ v, v = askB (movF (-1) (cds ms s) bs) (ss ++ cds ms s) := ⟨_, rfl⟩; rw [← hv]; have HV4 := Lib.hid hv; clear hv; (have a0 : _ = some (Value.slice A n cp) := ha.cell 0); (have a1 : _ = some (Value.slice A' m cd) := ha.cell 1); (have z0 : _ = some (Value.slice none 0 0) := hz.cell 0); (have z1 : _ = some (Value.slice none 0 0) := hz.cell 1); have y0 := hz.frozen 0; have y1 := hz.frozen 1
      cases v
      · have HG := Lib.hid (show swG ms bs ss s = false by rw [swG, ← HV4.out]; simp)
        go_wp2_with fail
        clear a0 z0 z1 y0 y1; (try clear a1); have hz4 := (hz.set_ 0 (.slice none 0 0)).set_ 1 (.slice none 0 0); (have q0 : _ = some (.slice none 0 0 : Value) := hz4.cell 0); (have q1 : _ = some (.slice none 0 0 : Value) := hz4.cell 1); exact bodyPost_ret (v := .tuple #[.agg #[.slice none 0 0, .slice none 0 0], .bool false]) (by simp [results, Try.results21, go_sem, q0, q1]) rfl ⟨none, 0, 0, none, 0, 0, by rw [HG.out], by rw [(sw_no HG.out).1]; exact World.ownsRow_nil _ _ _ _, by rw [(sw_no HG.out).2]; exact World.ownsRow_nil _ _ _ _, by omega, by omega, (hbW.setCell (by simp) _).setCell (by simp) _⟩
      have HG := Lib.hid (show swG ms bs ss s = true by rw [swG, ← HV.out, mvG, ← HV2.out, ← HV3.out, ← HV4.out]; rfl)
      have q0 : _ = some (Value.slice V3 N3 C3) := hq11.cell 0
      have q1 : _ = some (Value.slice V9 (m + k) C9) := hq11.cell 1
      have HY := Lib.hid (sw_yes HG.out)
      have hzl := hz.lt
      go_wp2_with fail
      clear q0 q1
      clear a0 z0 z1 y0 y1; (try clear a1); have hz4 := (hz.set_ 0 (.slice V3 N3 C3)).set_ 1 (.slice V9 (m + k) C9); (have q0 : _ = some (.slice V3 N3 C3 : Value) := hz4.cell 0); (have q1 : _ = some (.slice V9 (m + k) C9 : Value) := hz4.cell 1); exact bodyPost_ret (v := .tuple #[.agg #[.slice V3 N3 C3, .slice V9 (m + k) C9], .bool true]) (by simp [results, Try.results21, go_sem, q0, q1]) rfl ⟨V3, N3, C3, V9, m + k, C9, by rw [HG.out], by rw [HY.out.1]; exact row_lower (row_set (row_set HB11.out (by omega)) (by omega)) (by omega), by rw [HY.out.2]; exact row_lower (row_set (row_set HT11.out (by omega)) (by omega)) (by omega), by omega, by omega, (hbW.setCell (by simp) _).setCell (by simp) _⟩
set_option maxRecDepth 100000 in
set_option maxHeartbeats 4000000 in
theorem setWord_impl {Af : Option Addr} {nf cpf : Nat} {ms : List Srt} {A A' : Option Addr} {n cp m cd : Nat} {bs : List Bx} {ss : List ByteArray} {s : ByteArray} {w : World} (hf : RSrts w w.heap.size Af nf ms) (hnf : nf ≤ 1048576) (hfB : fontB ms = true) (hr : RBxs w w.heap.size A n bs) (hn0 : n ≤ 1048576) (hcp : n ≤ cp) (hL : ∀ b ∈ bs, b.code.size ≤ 1048576) (hs : RStrs w w.heap.size A' m ss) (hm60 : m ≤ 60) (hnl : A' = none → False) (hw1 : 1 ≤ s.size) (hw16 : s.size ≤ 16) :
    Calls Try.prog 28 #[.slice Af nf cpf, .agg #[.slice A n cp, .slice A' m cd], .string s] w fun e w' => ∃ V N C V' N' C', e = .returned (.tuple #[.agg #[.slice V N C, .slice V' N' C'], .bool (swG ms bs ss s)]) ∧ w'.ownsRow w.heap.size 71 4 (.slice V N C) N ((swB ms bs ss s).map Bx.row).flatten ∧ OwnT w' w.heap.size (.slice V' N' C') N' (swS ms bs ss s) ∧ N ≤ 1048576 ∧ N' ≤ 1048576 ∧ Below w.heap.size w w' := by
  have hbW : Below w.heap.size w ((w.alloc (.cells #[.slice A n cp, .slice A' m cd] 31)).alloc (.cells #[.slice none 0 0, .slice none 0 0] 31)) := ((Below.refl _ _).alloc (Nat.le_refl _) _).alloc (by simp) _; have ha : Blk ((w.alloc (.cells #[.slice A n cp, .slice A' m cd] 31)).alloc (.cells #[.slice none 0 0, .slice none 0 0] 31)) w.heap.size 31 [.slice A n cp, .slice A' m cd] := (Blk.new' w 31 #[.slice A n cp, .slice A' m cd]).alloc _; have hz : Blk ((w.alloc (.cells #[.slice A n cp, .slice A' m cd] 31)).alloc (.cells #[.slice none 0 0, .slice none 0 0] 31)) (w.heap.size + 1) 31 [.slice none 0 0, .slice none 0 0] := by simpa using Blk.new' (w.alloc (.cells #[.slice A n cp, .slice A' m cd] 31)) 31 #[.slice none 0 0, .slice none 0 0]
  obtain ⟨i9, hi9, hz90, hz91, hz92⟩ := info_parts info9
  have HLs := Lib.hid hs.len
  have HM := Lib.hid (setV_mem (ms := ms) (s := s))
  have HF := Lib.hid hfB
  have HRF := Lib.hid hf
  have HRB := Lib.hid hr
  have HRS := Lib.hid hs
  have HNL := Lib.hid (show A' = none → cd = 0 from fun e => (hnl e).elim)
  have HSO := Lib.hid (show ∃ adS, A' = some adS by cases A' with | none => exact (hnl rfl).elim | some ad => exact ⟨ad, rfl⟩)
  have HX := Lib.hid hL
  have HLF := Lib.hid hf.len
  clear hfB hf hr hs hnl hL
  go_enter Try.func28, Try.ntmps28
  (have a0 : _ = some (Value.slice A n cp) := ha.cell 0); (have a1 : _ = some (Value.slice A' m cd) := ha.cell 1); (have z0 : _ = some (Value.slice none 0 0) := hz.cell 0); (have z1 : _ = some (Value.slice none 0 0) := hz.cell 1); have y0 := hz.frozen 0; have y1 := hz.frozen 1
  go_wp2_with fail
  refine (sortsOf_any ((RSrts.below HRF.out hbW).more hbW.size) hnf HF.out (by omega)).mono ?_
  rintro e1 w1 ⟨VL, NL, CL, rfl, ho, hNL, hn⟩
  replace ha := ha.below hn ha.lt; replace hz := hz.below hn hz.lt; replace hbW := hbW.trans (hn.mono hbW.size)
  have HOL := Lib.hid ho
  have HLL := Lib.hid (show (setV ms s).length = NL by have := ho.1; simpa using this)
  clear ho hn
  clear a0 z0 z1 y0 y1; (try clear a1); obtain ⟨v, hv⟩ : ∃ v, v = setG ms s := ⟨_, rfl⟩; rw [← hv]; have HV := Lib.hid hv; clear hv; (have a0 : _ = some (Value.slice A n cp) := ha.cell 0); (have a1 : _ = some (Value.slice A' m cd) := ha.cell 1); (have z0 : _ = some (Value.slice none 0 0) := hz.cell 0); (have z1 : _ = some (Value.slice none 0 0) := hz.cell 1); have y0 := hz.frozen 0; have y1 := hz.frozen 1
  clear a0 z0 z1 y0 y1; (try clear a1)
  have hO0 := own_emptyS w1 w1.heap.size (Nat.le_refl _)
  go_wp2_with fail
  go_loopw [10, 24] (fun u i wr => ∃ k : Nat, k ≤ NL ∧ i = .int .i64 k ∧ OwnT wr w1.heap.size u k ((cds ms s).take k) ∧ Below w1.heap.size w1 wr) (fun _ i _ => NL - (intOf i).toNat)
  case atStart => exact ⟨0, Nat.zero_le _, rfl, hO0, (Below.refl _ _).alloc (Nat.le_refl _) _⟩
  case round =>
    clear hO0
    obtain ⟨k, hk, rfl, hown, hb⟩ := hrel
    obtain ⟨VC, CC, rfl⟩ := own_slice hown
    have HC := Lib.hid hown
    clear hown
    have hbz := hbW.trans (hb.mono hbW.size)
    by_cases hlt : k < NL
    · obtain ⟨adL, y, rfl, _, _, hy, hc⟩ := RInts.at_ (Reads.of_own (row_step HOL.out hb)) hlt
      obtain ⟨i, b, hyi, hbi⟩ := HM.out y (List.mem_of_getElem? hy)
      subst hyi
      have hin : i < nf := by have := (List.getElem?_eq_some_iff.1 hbi).1; have := HLF.out; omega
      have HT := Lib.hid (cds_take hy hbi)
      obtain ⟨bb, off, b2, eA, _, _, hx, c0, _⟩ := RSrts.at_ (RSrts.below HRF.out hbz) hin
      rw [hbi] at hx
      injection hx with hx
      subst hx
      have HA := Lib.hid eA
      rw [eA]
      have l0 : (0 : Int) ≤ (i : Int) := by omega
      have l1 : (i : Int) < (nf : Int) := by omega
      clear eA hbi hy
      go_wp2_with (at_builtin; refine wpList_append_own _ rfl (.tmp 28) (.tmp 34) 24 rfl w1.heap.size 9 i9 (.string ⟨#[]⟩) 1 16 Try.underlying24 hi9 hz90 hz91 hz92 rfl (by decide) _ k _ rfl (row_alloc HC.out _) _ 1 1 [.string b.code] rfl rfl (new_one _ _ rfl _ _) (by intro u hu; simp at hu; subst hu; rfl) (by unfold maxLen; omega) (by omega) (by have := hb.size; simp; omega) ?_)
      intro v9 w9 hO9 hgr9 _
      have HN9 := Lib.hid (show OwnT w9 w1.heap.size v9 (k + 1) ((cds ms s).take (k + 1)) by rw [HT.out]; exact ownT_app2 (by rw [List.map_take]; exact hO9))
      have hb9 := (hb.alloc hb.size _).trans (below_grown (row_alloc HC.out _) (by have := hb.size; simp; omega) hgr9)
      clear hO9 hgr9 hc c0
      go_wp2_with fail
      (try rw [← HA.out])
      go_roundw
      case rel => exact ⟨k + 1, by omega, by go_num, HN9.out, hb9⟩
      case measure => simp [intOf]; omega
    · obtain ⟨wo, rfl⟩ : ∃ wo, wo = wr := ⟨_, rfl⟩
      have hkN : k = NL := by omega
      have HCC := Lib.hid (show OwnT wo w1.heap.size (.slice VC k CC) k (cds ms s) by have := HC.out; rwa [List.take_of_length_le (by rw [cds, List.length_map, HLL.out]; omega)] at this)
      have hk16 : k ≤ 16 := by omega
      have hk1 : k = (setV ms s).length := by rw [hkN, HLL.out]
      have HK1 := Lib.hid hk1
      have l9 : ¬ (k : Int) < (NL : Int) := by omega
      have hn := hb
      clear HC hkN hk1
      replace ha := ha.below hn ha.lt; replace hz := hz.below hn hz.lt; replace hbW := hbW.trans (hn.mono hbW.size)
      clear hn
      have hzb := hz.lt
      (have a0 : _ = some (Value.slice A n cp) := ha.cell 0); (have a1 : _ = some (Value.slice A' m cd) := ha.cell 1); (have z0 : _ = some (Value.slice none 0 0) := hz.cell 0); (have z1 : _ = some (Value.slice none 0 0) := hz.cell 1); have y0 := hz.frozen 0; have y1 := hz.frozen 1
      cases v
      · have HG := Lib.hid (show swG ms bs ss s = false by rw [swG, ← HV.out]; rfl)
        go_wp2_with fail
        clear a0 z0 z1 y0 y1; (try clear a1); have hz4 := (hz.set_ 0 (.slice none 0 0)).set_ 1 (.slice none 0 0); (have q0 : _ = some (.slice none 0 0 : Value) := hz4.cell 0); (have q1 : _ = some (.slice none 0 0 : Value) := hz4.cell 1); exact bodyPost_ret (v := .tuple #[.agg #[.slice none 0 0, .slice none 0 0], .bool false]) (by simp [results, Try.results28, go_sem, q0, q1]) rfl ⟨none, 0, 0, none, 0, 0, by rw [HG.out], by rw [(sw_no HG.out).1]; exact World.ownsRow_nil _ _ _ _, by rw [(sw_no HG.out).2]; exact World.ownsRow_nil _ _ _ _, by omega, by omega, (hbW.setCell (by simp) _).setCell (by simp) _⟩
      have HP := Lib.hid (setV_pos HV.out.symm hw1)
      have hk0 : 0 < k := by have := HP.out; have := HK1.out; omega
      obtain ⟨adC, rfl⟩ : ∃ adC, VC = some adC := by
        obtain ⟨ad, _, e, _⟩ := RStrs.at_ (RStrs.of_own HCC.out) hk0
        exact ⟨ad, e⟩
      go_wp2_with fail
      refine (takeTypes_full ((RBxs.below HRB.out hbW).more hbW.size) hn0 hcp HX.out (RStrs.of_own HCC.out) (by omega)).mono ?_
      rintro e1 w3 ⟨V3, N3, C3, rfl, ho, hN3, hn⟩
      have HCC3 := Lib.hid (row_step HCC.out hn)
      clear HCC
      replace ha := ha.below hn ha.lt; replace hz := hz.below hn hz.lt; replace hbW := hbW.trans (hn.mono hbW.size)
      have hw23 := hn.size
      clear hn
      have HO3 := Lib.hid ho
      clear ho
      clear a0 z0 z1 y0 y1; (try clear a1); obtain ⟨v, hv⟩ : ∃ v, v = mvG (-1) bs (cds ms s) := ⟨_, rfl⟩; rw [← hv]; have HV3 := Lib.hid hv; clear hv; (have a0 : _ = some (Value.slice A n cp) := ha.cell 0); (have a1 : _ = some (Value.slice A' m cd) := ha.cell 1); (have z0 : _ = some (Value.slice none 0 0) := hz.cell 0); (have z1 : _ = some (Value.slice none 0 0) := hz.cell 1); have y0 := hz.frozen 0; have y1 := hz.frozen 1
      have HO4 := Lib.hid (own_emptyS w3 w3.heap.size (Nat.le_refl _))
      have hA4 : Below w3.heap.size w3 (w3.alloc (.cells #[] 9)) := (Below.refl _ _).alloc (Nat.le_refl _) _
      have HS4 := Lib.hid (RStrs.below (RStrs.below HRS.out hbW) (hA4.mono hbW.size))
      have HCC4 := Lib.hid (row_step HCC3.out hA4)
      have hq0 : (w3.alloc (.cells #[] 9)).cell? ⟨w.heap.size, 1, none⟩ = some (.slice A' m cd) := (hA4.cell (p := ⟨w.heap.size, 1, none⟩) (by have := ha.lt; simp; omega)).trans a1
      obtain ⟨adS, hA'⟩ := HSO.out
      subst hA'
      go_wp2_with (at_builtin; refine wpList_append_own _ rfl (.tmp 48) (.tmp 50) 24 rfl w3.heap.size 9 i9 (.string ⟨#[]⟩) 1 16 Try.underlying24 hi9 hz90 hz91 hz92 rfl (by decide) _ 0 _ rfl HO4.out adS m cd (ss.map Value.string) rfl (by rw [List.length_map, HLs.out]; omega) (RStrs.cells HS4.out) (strs_one _) (by unfold maxLen; omega) (by omega) (by simp) ?_)
      intro v5 w5 hO5 hgr5 _
      have hn35 := hA4.trans (below_grown HO4.out (by simp) hgr5)
      have HO5' := Lib.hid (show OwnT w5 w3.heap.size v5 m ss by simpa [OwnT] using hO5)
      obtain ⟨V5, C5, rfl⟩ := own_slice HO5'.out
      have HO5 := HO5'
      have HCC5 := Lib.hid (row_step HCC3.out hn35)
      have hw35 := hn35.size
      clear HO5' hq0 HO4 hA4 HS4 HCC4 HCC3 hO5 hgr5
      go_wp2_with (at_builtin; refine wpList_append_own _ rfl (.tmp 51) (.tmp 52) 24 rfl w3.heap.size 9 i9 (.string ⟨#[]⟩) 1 16 Try.underlying24 hi9 hz90 hz91 hz92 rfl (by decide) _ m _ rfl HO5.out adC k CC ((cds ms s).map Value.string) rfl (by rw [List.length_map, cds, List.length_map, ← HK1.out]; omega) (RStrs.cells (RStrs.of_own HCC5.out)) (strs_one _) (by unfold maxLen; omega) (by omega) (by omega) ?_)
      intro v9 w9 hO9 hgr9 _
      have hn9 := below_grown HO5.out (by omega) hgr9
      (try clear hq0)
      have hn := hn35.trans hn9
      have HB9 := Lib.hid (row_below HO3.out hn (fun q hq => (HO3.out.lt q hq).2))
      have HT9 := Lib.hid (show OwnT w9 w3.heap.size v9 (m + k) (ss ++ cds ms s) by unfold OwnT; rw [List.map_append]; exact hO9)
      have hw39 := hn.size
      clear a0 z0 z1 y0 y1; (try clear a1)
      replace ha := ha.below hn ha.lt; replace hz := hz.below hn hz.lt; replace hbW := hbW.trans (hn.mono hbW.size)
      clear hn hn9 hn35 hO9 hgr9 HCC5 HO5
      obtain ⟨V9, C9, rfl⟩ := own_slice HT9.out
      (have a0 : _ = some (Value.slice A n cp) := ha.cell 0); (have z0 : _ = some (Value.slice none 0 0) := hz.cell 0); (have z1 : _ = some (Value.slice none 0 0) := hz.cell 1); have y0 := hz.frozen 0; have y1 := hz.frozen 1
      cases v
      · have HG := Lib.hid (show swG ms bs ss s = false by rw [swG, ← HV3.out]; simp)
        have hz15 := hz.alloc (.cells #[.slice V3 N3 C3, .slice V9 (m + k) C9] 31)
        have zz0 : _ = some (Value.slice none 0 0) := hz15.cell 0
        have zz1 : _ = some (Value.slice none 0 0) := hz15.cell 1
        have yy0 := hz15.frozen 0
        have yy1 := hz15.frozen 1
        go_wp2_with fail
        clear zz0 zz1 yy0 yy1
        have hn : Below w9.heap.size w9 (w9.alloc (.cells #[.slice V3 N3 C3, .slice V9 (m + k) C9] 31)) := (Below.refl _ _).alloc (Nat.le_refl _) _
        clear a0 z0 z1 y0 y1; (try clear a1)
        replace ha := ha.below hn ha.lt; replace hz := hz.below hn hz.lt; replace hbW := hbW.trans (hn.mono hbW.size)
        (have a0 : _ = some (Value.slice A n cp) := ha.cell 0); (have z0 : _ = some (Value.slice none 0 0) := hz.cell 0); (have z1 : _ = some (Value.slice none 0 0) := hz.cell 1); have y0 := hz.frozen 0; have y1 := hz.frozen 1
        clear hn
        clear a0 z0 z1 y0 y1; (try clear a1); have hz4 := (hz.set_ 0 (.slice none 0 0)).set_ 1 (.slice none 0 0); (have q0 : _ = some (.slice none 0 0 : Value) := hz4.cell 0); (have q1 : _ = some (.slice none 0 0 : Value) := hz4.cell 1); exact bodyPost_ret (v := .tuple #[.agg #[.slice none 0 0, .slice none 0 0], .bool false]) (by simp [results, Try.results28, go_sem, q0, q1]) rfl ⟨none, 0, 0, none, 0, 0, by rw [HG.out], by rw [(sw_no HG.out).1]; exact World.ownsRow_nil _ _ _ _, by rw [(sw_no HG.out).2]; exact World.ownsRow_nil _ _ _ _, by omega, by omega, (hbW.setCell (by simp) _).setCell (by simp) _⟩
      have HB9' := Lib.hid (show w9.ownsRow wo.heap.size 71 4 (.slice V3 N3 C3) N3 ((movF (-1) (cds ms s) bs).map Bx.row).flatten by have := HB9.out; rwa [show mvV (-1) bs (cds ms s) = movF (-1) (cds ms s) bs by rw [mvV, ← HV3.out]; rfl] at this)
      have hw9s := hw39
      have hq := Blk.new' w9 31 #[.slice V3 N3 C3, .slice V9 (m + k) C9]
      have hn : Below w9.heap.size w9 (w9.alloc (.cells #[.slice V3 N3 C3, .slice V9 (m + k) C9] 31)) := (Below.refl _ _).alloc (Nat.le_refl _) _
      have q0 : _ = some (Value.slice V3 N3 C3) := hq.cell 0
      have q1 : _ = some (Value.slice V9 (m + k) C9) := hq.cell 1
      have HB10 := Lib.hid (row_step HB9'.out hn)
      have HT10 := Lib.hid (row_step HT9.out hn)
      go_wp2_with fail
      clear a0 z0 z1 y0 y1; (try clear a1)
      replace ha := ha.below hn ha.lt; replace hz := hz.below hn hz.lt; replace hbW := hbW.trans (hn.mono hbW.size)
      refine (isSetting_any (RBxs.of_own HB10.out) (by omega) (own_cap HB10.out) (movF_sizes HX.out) (RStrs.of_own HT10.out) (by omega)).mono ?_
      clear hn
      rintro e1 w10 ⟨rfl, hn⟩
      have HB11 := Lib.hid (row_step HB10.out hn)
      have HT11 := Lib.hid (row_step HT10.out hn)
      have hq11 := hq.below hn hq.lt
      replace ha := ha.below hn ha.lt; replace hz := hz.below hn hz.lt; replace hbW := hbW.trans (hn.mono hbW.size)
      have hw10 := hn.size
      clear hn hq q0 q1 HB10 HT10 HB9 HT9 HB9'
      (have a0 : _ = some (Value.slice A n cp) := ha.cell 0); (have z0 : _ = some (Value.slice none 0 0) := hz.cell 0); (have z1 : _ = some (Value.slice none 0 0) := hz.cell 1); have y0 := hz.frozen 0; have y1 := hz.frozen 1
      clear a0 z0 z1 y0 y1; (try clear a1); obtain ⟨v, hv⟩ : ∃ v, v = askB (movF (-1) (cds ms s) bs) (ss ++ cds ms s) := ⟨_, rfl⟩; rw [← hv]; have HV4 := Lib.hid hv; clear hv; (have a0 : _ = some (Value.slice A n cp) := ha.cell 0); (have z0 : _ = some (Value.slice none 0 0) := hz.cell 0); (have z1 : _ = some (Value.slice none 0 0) := hz.cell 1); have y0 := hz.frozen 0; have y1 := hz.frozen 1
      cases v
      · have HG := Lib.hid (show swG ms bs ss s = false by rw [swG, ← HV4.out]; simp)
        go_wp2_with fail
        clear a0 z0 z1 y0 y1; (try clear a1); have hz4 := (hz.set_ 0 (.slice none 0 0)).set_ 1 (.slice none 0 0); (have q0 : _ = some (.slice none 0 0 : Value) := hz4.cell 0); (have q1 : _ = some (.slice none 0 0 : Value) := hz4.cell 1); exact bodyPost_ret (v := .tuple #[.agg #[.slice none 0 0, .slice none 0 0], .bool false]) (by simp [results, Try.results28, go_sem, q0, q1]) rfl ⟨none, 0, 0, none, 0, 0, by rw [HG.out], by rw [(sw_no HG.out).1]; exact World.ownsRow_nil _ _ _ _, by rw [(sw_no HG.out).2]; exact World.ownsRow_nil _ _ _ _, by omega, by omega, (hbW.setCell (by simp) _).setCell (by simp) _⟩
      have HG := Lib.hid (show swG ms bs ss s = true by rw [swG, ← HV.out, ← HV3.out, ← HV4.out]; rfl)
      have q0 : _ = some (Value.slice V3 N3 C3) := hq11.cell 0
      have q1 : _ = some (Value.slice V9 (m + k) C9) := hq11.cell 1
      have HY := Lib.hid (sw_yes HG.out)
      have hzl := hz.lt
      go_wp2_with fail
      clear q0 q1
      clear a0 z0 z1 y0 y1; (try clear a1); have hz4 := (hz.set_ 0 (.slice V3 N3 C3)).set_ 1 (.slice V9 (m + k) C9); (have q0 : _ = some (.slice V3 N3 C3 : Value) := hz4.cell 0); (have q1 : _ = some (.slice V9 (m + k) C9 : Value) := hz4.cell 1); exact bodyPost_ret (v := .tuple #[.agg #[.slice V3 N3 C3, .slice V9 (m + k) C9], .bool true]) (by simp [results, Try.results28, go_sem, q0, q1]) rfl ⟨V3, N3, C3, V9, m + k, C9, by rw [HG.out], by rw [HY.out.1]; exact row_lower (row_set (row_set HB11.out (by omega)) (by omega)) (by omega), by rw [HY.out.2]; exact row_lower (row_set (row_set HT11.out (by omega)) (by omega)) (by omega), by omega, by omega, (hbW.setCell (by simp) _).setCell (by simp) _⟩
end Go.Proofs.Ytfdmenhnejfhjaa
