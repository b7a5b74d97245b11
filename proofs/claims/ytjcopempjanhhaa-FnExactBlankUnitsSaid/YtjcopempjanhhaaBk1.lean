/-
  Contracts: BlankUnits.
-/
import Derived.Test.YtjcopempjanhhaaFo2
import Derived.Test.YtjcopempjanhhaaBk0
namespace Go.Proofs.Ytjcopempjanhhaa
open Go.RowKit
theorem iterPosB_of {w : World} {k : Nat} {s : ByteArray} {p : Nat} (h : w.heap[k]? = some (.stringIter s p)) : w.iterPos k = p := by simp [World.iterPos, h]
theorem inkBb_get : ∀ {a e : List UInt8} {k : Nat} {c d : UInt8}, inkB a e = true → a[k]? = some c → e[k]? = some d → (d.toNat : Int) = 98 ∨ (d.toNat : Int) = 114
  | [], _, _, _, _, _, h, _ => by simp at h
  | _ :: _, [], _, _, _, _, _, h => by simp at h
  | c' :: r, d' :: s, 0, c, d, h, h1, h2 => by
    simp at h1 h2
    subst h1 h2
    simp only [inkB, Bool.and_eq_true] at h
    rcases inkC_cases c' d' with q | q | q | q
    · exact .inl q.2
    · exact .inr q.2.2.1
    · rw [q.1] at h; exact absurd h.1 (by simp)
    · rw [q.1] at h; exact absurd h.1 (by simp)
  | c' :: r, d' :: s, k + 1, c, d, h, h1, h2 => by
    simp only [inkB, Bool.and_eq_true] at h
    exact inkBb_get (a := r) (e := s) (k := k) h.2 (by simpa using h1) (by simpa using h2)
theorem plBb_ascii : ∀ {l : List UInt8} {k : Nat} {c : UInt8}, plB l = true → l[k]? = some c → c.toNat < 128
  | [], _, _, _, h => by simp at h
  | d :: r, 0, c, hp, h => by
    simp at h
    subst h
    simp only [plB, Bool.and_eq_true, plC, Bool.or_eq_true, decide_eq_true_eq] at hp
    omega
  | d :: r, k + 1, c, hp, h => by
    simp only [plB, Bool.and_eq_true] at hp
    exact plBb_ascii hp.2 (by simpa using h)
theorem str1_at {s : ByteArray} {c : UInt8} (h : s = str [c]) (h0 : 0 < s.size) : s[0] = c := by subst h; rfl
def setAt (f : List Srt) (j : Int) : Int := ((f[j.toNat]?).getD ⟨⟨#[]⟩, 0⟩).set_
def buL (f : List Srt) (ink : UInt8) : List UInt8 → List UInt8 → Int → Option Int
  | c :: r, d :: e, s => if (c.toNat : Int) = 32 then buL f ink r e s else if findT (str [c]) f 0 < 0 then none else buL f ink r e (if d = ink then s else s + setAt f (findT (str [c]) f 0))
  | _, _, s => some s
theorem buL_end {f : List Srt} {ink : UInt8} {a : List UInt8} (e : List UInt8) (h : a = []) (s : Int) : buL f ink a e s = some s := by subst h; cases e <;> rfl
def buR (f : List Srt) (t i s : ByteArray) : Option Int := if fontB f && (ikB t i && ikC s) then buL f ((bytes s).headD 0) (bytes t) (bytes i) 0 else none
def buV (f : List Srt) (t i s : ByteArray) : Int := (buR f t i s).getD 0
def buG (f : List Srt) (t i s : ByteArray) : Bool := (buR f t i s).isSome
theorem bu_none {f : List Srt} {t i s : ByteArray} (h : buR f t i s = none) : buV f t i s = 0 ∧ buG f t i s = false := by rw [buV, buG, h]; exact ⟨rfl, rfl⟩
theorem bu_some {f : List Srt} {t i s : ByteArray} {n : Int} (h : buR f t i s = some n) : buV f t i s = n ∧ buG f t i s = true := by rw [buV, buG, h]; exact ⟨rfl, rfl⟩
set_option maxRecDepth 100000 in
set_option maxHeartbeats 2000000 in
theorem blankUnits_spec {A : Option Addr} {n cp : Nat} {ms : List Srt} {t i s : ByteArray} {w : World} (hr : RSrts w w.heap.size A n ms) (hn0 : n ≤ 1048576) (hcp : n ≤ cp) (hL : ∀ b ∈ ms, b.code.size ≤ 1048576) (ht : t.size ≤ 1048576) (_ : s.size ≤ 1048576) :
    Calls Try.prog 62 #[.slice A n cp, .agg #[.string t, .string i], .string s] w fun e w' => e = .returned (.tuple #[.int .i64 (buV ms t i s), .bool (buG ms t i s)]) ∧ Below w.heap.size w w' := by
  have hb : Below w.heap.size w (w.alloc (.cells #[.string t, .string i] 82)) := (by (repeat (first | exact Below.refl _ _ | exact hb | apply Below.drew | (refine Below.alloc ?_ (by first | (simp; done) | (simp; omega) | (have := hb.size; simp at this ⊢; omega)) _) | (refine Below.setCell ?_ (by simp) _))))
  have hx := Blk.new' w 82 #[.string t, .string i]
  cases h1 : fontB ms
  · have HV := Lib.hid (bu_none (f := ms) (t := t) (i := i) (s := s) (by rw [buR, h1]; rfl))
    go_enter Try.func62, Try.ntmps62; (have m0 : _ = some (Value.string t) := hx.cell 0); (have m1 : _ = some (Value.string i) := hx.cell 1); go_wp2_with fail; refine (tyFont_any ((RSrts.below hr hb).more hb.size) hn0 hL).mono ?_; rintro e1 w1 ⟨rfl, hn⟩; clear m0 m1; replace hx := hx.below hn hx.lt; replace hb := hb.trans (hn.mono hb.size); clear hn; (have m0 : _ = some (Value.string t) := hx.cell 0); (have m1 : _ = some (Value.string i) := hx.cell 1); rw [h1]
    clear h1
    go_wp2_with fail; go_ret2; exact ⟨by rw [HV.out.1, HV.out.2]; rfl, hb⟩
  have H1 := Lib.hid h1
  cases h2 : ikB t i
  · have HV := Lib.hid (bu_none (f := ms) (t := t) (i := i) (s := s) (by rw [buR, h2]; simp))
    go_enter Try.func62, Try.ntmps62; (have m0 : _ = some (Value.string t) := hx.cell 0); (have m1 : _ = some (Value.string i) := hx.cell 1); go_wp2_with fail; refine (tyFont_any ((RSrts.below hr hb).more hb.size) hn0 hL).mono ?_; rintro e1 w1 ⟨rfl, hn⟩; clear m0 m1; replace hx := hx.below hn hx.lt; replace hb := hb.trans (hn.mono hb.size); clear hn; (have m0 : _ = some (Value.string t) := hx.cell 0); (have m1 : _ = some (Value.string i) := hx.cell 1); rw [h1]; clear h1; go_wp2_with fail; refine (coGood_any _ _ _ ht).mono ?_; rintro e1 w2 ⟨rfl, hn⟩; clear m0 m1; replace hx := hx.below hn hx.lt; replace hb := hb.trans (hn.mono hb.size); clear hn; (have m0 : _ = some (Value.string t) := hx.cell 0); (have m1 : _ = some (Value.string i) := hx.cell 1); rw [h2]
    clear h2
    go_wp2_with fail; go_ret2; exact ⟨by rw [HV.out.1, HV.out.2]; rfl, hb⟩
  have H2 := Lib.hid h2
  cases h3 : ikC s
  · have HV := Lib.hid (bu_none (f := ms) (t := t) (i := i) (s := s) (by rw [buR, h3]; simp))
    go_enter Try.func62, Try.ntmps62; (have m0 : _ = some (Value.string t) := hx.cell 0); (have m1 : _ = some (Value.string i) := hx.cell 1); go_wp2_with fail; refine (tyFont_any ((RSrts.below hr hb).more hb.size) hn0 hL).mono ?_; rintro e1 w1 ⟨rfl, hn⟩; clear m0 m1; replace hx := hx.below hn hx.lt; replace hb := hb.trans (hn.mono hb.size); clear hn; (have m0 : _ = some (Value.string t) := hx.cell 0); (have m1 : _ = some (Value.string i) := hx.cell 1); rw [h1]; clear h1; go_wp2_with fail; refine (coGood_any _ _ _ ht).mono ?_; rintro e1 w2 ⟨rfl, hn⟩; clear m0 m1; replace hx := hx.below hn hx.lt; replace hb := hb.trans (hn.mono hb.size); clear hn; (have m0 : _ = some (Value.string t) := hx.cell 0); (have m1 : _ = some (Value.string i) := hx.cell 1); rw [h2]; clear h2; go_wp2_with fail; refine (coInk_any _ _).mono ?_; rintro e1 w3 ⟨rfl, hw3⟩; subst hw3; rw [h3]
    clear h3
    go_wp2_with fail; go_ret2; exact ⟨by rw [HV.out.1, HV.out.2]; rfl, hb⟩
  obtain ⟨ink, hink⟩ : ∃ ink : UInt8, s = str [ink] := by
    rcases ikC_true h3 with h | h
    · exact ⟨98, h⟩
    · exact ⟨114, h⟩
  have HBU := Lib.hid (show buR ms t i s = buL ms ink (bytes t) (bytes i) 0 by rw [buR, H1.out, H2.out, h3, hink, bytes_str]; rfl)
  have HINK := Lib.hid hink
  obtain ⟨g1, g2, g3, g4⟩ := ikB_true H2.out
  have HT := Lib.hid g3
  have HI := Lib.hid g4
  have HA := Lib.hid g1
  have HP := Lib.hid g2
  have HST := Lib.hid (fun b hb => (sortB_true ((fontB_true H1.out).2 b hb)).2)
  have HRL := Lib.hid hr.len
  clear g1 g2 g3 g4 hink
  go_enter Try.func62, Try.ntmps62; (have m0 : _ = some (Value.string t) := hx.cell 0); (have m1 : _ = some (Value.string i) := hx.cell 1); go_wp2_with fail; refine (tyFont_any ((RSrts.below hr hb).more hb.size) hn0 hL).mono ?_; rintro e1 w1 ⟨rfl, hn⟩; clear m0 m1; replace hx := hx.below hn hx.lt; replace hb := hb.trans (hn.mono hb.size); clear hn; (have m0 : _ = some (Value.string t) := hx.cell 0); (have m1 : _ = some (Value.string i) := hx.cell 1); rw [h1]; clear h1; go_wp2_with fail; refine (coGood_any _ _ _ ht).mono ?_; rintro e1 w2 ⟨rfl, hn⟩; clear m0 m1; replace hx := hx.below hn hx.lt; replace hb := hb.trans (hn.mono hb.size); clear hn; (have m0 : _ = some (Value.string t) := hx.cell 0); (have m1 : _ = some (Value.string i) := hx.cell 1); rw [h2]; clear h2; go_wp2_with fail; refine (coInk_any _ _).mono ?_; rintro e1 w3 ⟨rfl, hw3⟩; subst hw3; rw [h3]
  clear h3
  have HRR := Lib.hid hr
  clear hr
  go_wp2_with fail
  clear m0 m1
  have hs9 := hb.size
  have hs8 := hx.lt
  go_loopw [8] (fun v wr => ∃ (k : Nat) (z : Int), k ≤ t.size ∧ v = .int .i64 z ∧ (0 ≤ z ∧ z ≤ 54 * (k : Int)) ∧ buL ms ink ((bytes t).drop k) ((bytes i).drop k) z = buL ms ink (bytes t) (bytes i) 0 ∧ wr.heap[w2.heap.size]? = some (.stringIter t k) ∧ Blk wr w.heap.size 82 [.string t, .string i] ∧ Below w.heap.size w wr ∧ w2.heap.size + 1 ≤ wr.heap.size) (fun _ wr => t.size - wr.iterPos w2.heap.size)
  case atStart =>
    refine ⟨0, 0, Nat.zero_le _, rfl, by omega, rfl, ?_, hx.alloc _, hb.alloc hs9 _, by simp [World.iter]⟩
    have := World.iter_heap w2 t 0
    exact this
  case round =>
    clear hx hb
    obtain ⟨k, z, hk, rfl, hz, hR, hit, hx, hb, hsz⟩ := hrel
    have hP := HP.out
    by_cases hlt : k < t.size
    · have hlt2 : k < i.size := by have := HT.out; omega
      have hasc : t[k].toNat < 128 := plBb_ascii HA.out (bytes_get t k hlt)
      have hnx := Lib.run_next_ascii_at (P := Try.prog) wr w2.heap.size t k 0 hit hlt hasc
      replace hx : Blk (wr.iterAt w2.heap.size t (k + 1)) w.heap.size 82 [.string t, .string i] := (Lib.iterAt_other wr w2.heap.size w.heap.size t (k + 1) (by omega)).trans hx
      replace hb := Lib.below_iterAt hb (by omega) t (k + 1) (k := w2.heap.size)
      have hit2 := Lib.iterAt_heap wr w2.heap.size t k (k + 1) hit
      have hsz2 : w2.heap.size + 1 ≤ (wr.iterAt w2.heap.size t (k + 1)).heap.size := by simpa [World.iterAt] using hsz

      have m0 : _ = some (Value.string t) := hx.cell 0
      have m1 : _ = some (Value.string i) := hx.cell 1
      have HD := Lib.hid (bytes_drop t k hlt)
      have HE := Lib.hid (bytes_drop i k hlt2)
      have l0 : (0 : Int) ≤ (k : Int) := by omega
      have l1 : (k : Int) < (t.size : Int) := by omega
      have l3 : (k : Int) < (i.size : Int) := by omega
      have hkk : k ≤ 30 := by omega
      by_cases q1 : (t[k].toNat : Int) = 32
      · obtain ⟨f1, f2⟩ := ne_f q1
        have HR := Lib.hid (show buL ms ink ((bytes t).drop (k + 1)) ((bytes i).drop (k + 1)) z = buL ms ink (bytes t) (bytes i) 0 by rw [← hR, HD.out, HE.out, buL, if_pos q1])
        have HI2 := Lib.hid hit2
        clear hR q1 hit2
        go_wp2_with fail
        go_roundw
        case rel => exact ⟨k + 1, z, by omega, rfl, by omega, HR.out, HI2.out, hx, hb, hsz2⟩
        case measure => rw [iterPosB_of hit, iterPosB_of HI2.out]; omega
      · obtain ⟨f1, f2⟩ := ne_t q1
        have ek : IntKind.i64.wrap ((k : Int) + 1) = (k : Int) + 1 := wrapI (by omega) (by omega)
        have HEX := Lib.hid (str_extract t k hlt)
        have HEX2 := Lib.hid (str_extract i k hlt2)
        have hfb := findT_bd (c := str [t[k]]) (ms := ms) (i := 0) (by omega)
        have hlen : ms.length = n := HRL.out
        by_cases q2 : findT (str [t[k]]) ms 0 < 0
        · have HV := Lib.hid (bu_none (f := ms) (t := t) (i := i) (s := s) (by rw [HBU.out, ← hR, HD.out, HE.out, buL, if_neg q1, if_pos q2]))
          clear hR q1
          go_wp2_with fail
          refine (tyFind_any ((RSrts.below HRR.out hb).more hb.size) hn0).mono ?_
          rw [HEX.out]
          rintro e1 w5 ⟨rfl, hn⟩
          replace hx := hx.below hn hx.lt; replace hb := hb.trans (hn.mono hb.size); clear hn
          clear m0 m1
          go_wp2_with fail; go_ret2; exact ⟨by rw [HV.out.1, HV.out.2]; rfl, hb⟩
        · obtain ⟨j, hj⟩ : ∃ j : Nat, findT (str [t[k]]) ms 0 = (j : Int) := ⟨(findT (str [t[k]]) ms 0).toNat, by omega⟩
          have hjn : j < n := by omega
          obtain ⟨b, hbj⟩ : ∃ b, ms[j]? = some b := ⟨_, List.getElem?_eq_getElem (by omega)⟩
          have hbs := HST.out b (List.mem_of_getElem? hbj)
          have HJ := Lib.hid hj
          have HSA := Lib.hid (show setAt ms (j : Int) = b.set_ by rw [setAt, Int.toNat_natCast, hbj]; rfl)
          have HBJ := Lib.hid hbj
          have l5 : (0 : Int) ≤ (j : Int) := by omega
          have l6 : (j : Int) < (n : Int) := by omega
          have hR2 : buL ms ink ((bytes t).drop (k + 1)) ((bytes i).drop (k + 1)) (if i[k] = ink then z else z + b.set_) = buL ms ink (bytes t) (bytes i) 0 := by rw [← hR, HD.out, HE.out, buL, if_neg q1, if_neg q2, hj, HSA.out]
          have HR2 := Lib.hid hR2
          have ez : IntKind.i64.wrap (z + b.set_) = z + b.set_ := wrapI (by omega) (by omega)
          clear hR q1 q2 hfb hbj hj hR2
          by_cases q3 : i[k] = ink
          · have HR := Lib.hid (show buL ms ink ((bytes t).drop (k + 1)) ((bytes i).drop (k + 1)) (z) = buL ms ink (bytes t) (bytes i) 0 by rw [← HR2.out, if_pos q3])
            have e5 : ((str [i[k]]).toList == s.toList) = true := by rw [HINK.out, q3]; simp
            have e6 : ((str [i[k]]).toList != s.toList) = false := by rw [HINK.out, q3]; simp
            rw [← HEX2.out] at e5 e6
            clear q3
            go_wp2_with fail
            refine (tyFind_any ((RSrts.below HRR.out hb).more hb.size) hn0).mono ?_
            rw [HEX.out]
            rintro e1 w5 ⟨rfl, hn⟩
            rw [HJ.out]
            have hit3 := (hn.block w2.heap.size (by simp [World.iterAt]; simp [World.iterAt] at hsz2; omega)).trans hit2
            have HI2 := Lib.hid hit3
            have hsz3 : w2.heap.size + 1 ≤ w5.heap.size := Nat.le_trans hsz2 hn.size
            clear hit2 hit3
            replace hx := hx.below hn hx.lt; replace hb := hb.trans (hn.mono hb.size); clear hn
            clear m0 m1
            have m0 : _ = some (Value.string t) := hx.cell 0
            have m1 : _ = some (Value.string i) := hx.cell 1
            obtain ⟨bb, off, b2, hA, _, _, hb2, c0, c1⟩ := RSrts.at_ (RSrts.below HRR.out hb) hjn
            rw [HBJ.out] at hb2
            injection hb2 with hb2
            subst hb2
            rw [hA]
            have HAA := Lib.hid hA
            clear hA
            go_wp2_with fail
            (try rw [← HAA.out])
            go_roundw
            case rel => exact ⟨k + 1, z, by omega, rfl, by omega, HR.out, HI2.out, hx, hb, hsz3⟩
            case measure => rw [iterPosB_of hit, iterPosB_of HI2.out]; omega
          
          · have HR := Lib.hid (show buL ms ink ((bytes t).drop (k + 1)) ((bytes i).drop (k + 1)) (z + b.set_) = buL ms ink (bytes t) (bytes i) 0 by rw [← HR2.out, if_neg q3])
            have e5 : ((str [i[k]]).toList == s.toList) = false := by rw [HINK.out, str_toList, str_toList]; simp [q3]
            have e6 : ((str [i[k]]).toList != s.toList) = true := by rw [HINK.out, str_toList, str_toList]; simp [q3]
            rw [← HEX2.out] at e5 e6
            clear q3
            go_wp2_with fail
            refine (tyFind_any ((RSrts.below HRR.out hb).more hb.size) hn0).mono ?_
            rw [HEX.out]
            rintro e1 w5 ⟨rfl, hn⟩
            rw [HJ.out]
            have hit3 := (hn.block w2.heap.size (by simp [World.iterAt]; simp [World.iterAt] at hsz2; omega)).trans hit2
            have HI2 := Lib.hid hit3
            have hsz3 : w2.heap.size + 1 ≤ w5.heap.size := Nat.le_trans hsz2 hn.size
            clear hit2 hit3
            replace hx := hx.below hn hx.lt; replace hb := hb.trans (hn.mono hb.size); clear hn
            clear m0 m1
            have m0 : _ = some (Value.string t) := hx.cell 0
            have m1 : _ = some (Value.string i) := hx.cell 1
            obtain ⟨bb, off, b2, hA, _, _, hb2, c0, c1⟩ := RSrts.at_ (RSrts.below HRR.out hb) hjn
            rw [HBJ.out] at hb2
            injection hb2 with hb2
            subst hb2
            rw [hA]
            have HAA := Lib.hid hA
            clear hA
            go_wp2_with fail
            (try rw [← HAA.out])
            go_roundw
            case rel => exact ⟨k + 1, z + b.set_, by omega, rfl, by omega, HR.out, HI2.out, hx, hb, hsz3⟩
            case measure => rw [iterPosB_of hit, iterPosB_of HI2.out]; omega
    · have HV := Lib.hid (bu_some (f := ms) (t := t) (i := i) (s := s) (n := z) (by rw [HBU.out, ← hR, buL_end _ (List.drop_of_length_le (by rw [bytes_len]; omega))]))
      have hnx := Lib.run_next_end_at (P := Try.prog) wr w2.heap.size t k 0 hit hlt
      clear hR
      go_wp2_with fail; go_ret2; exact ⟨by rw [HV.out.1, HV.out.2]; rfl, hb⟩
set_option maxRecDepth 100000 in
set_option maxHeartbeats 2000000 in
theorem blankUnits_impl {A : Option Addr} {n cp : Nat} {ms : List Srt} {t i s : ByteArray} {w : World} (hr : RSrts w w.heap.size A n ms) (hn0 : n ≤ 1048576) (hcp : n ≤ cp) (hL : ∀ b ∈ ms, b.code.size ≤ 1048576) (ht : t.size ≤ 1048576) (_ : s.size ≤ 1048576) :
    Calls Try.prog 64 #[.slice A n cp, .agg #[.string t, .string i], .string s] w fun e w' => e = .returned (.tuple #[.int .i64 (buV ms t i s), .bool (buG ms t i s)]) ∧ Below w.heap.size w w' := by
  have hb : Below w.heap.size w (w.alloc (.cells #[.string t, .string i] 82)) := (by (repeat (first | exact Below.refl _ _ | exact hb | apply Below.drew | (refine Below.alloc ?_ (by first | (simp; done) | (simp; omega) | (have := hb.size; simp at this ⊢; omega)) _) | (refine Below.setCell ?_ (by simp) _))))
  have hx := Blk.new' w 82 #[.string t, .string i]
  cases h1 : fontB ms
  · have HV := Lib.hid (bu_none (f := ms) (t := t) (i := i) (s := s) (by rw [buR, h1]; rfl))
    go_enter Try.func64, Try.ntmps64; (have m0 : _ = some (Value.string t) := hx.cell 0); (have m1 : _ = some (Value.string i) := hx.cell 1); go_wp2_with fail; refine (isFont_any ((RSrts.below hr hb).more hb.size) hn0 hL).mono ?_; rintro e1 w1 ⟨rfl, hn⟩; clear m0 m1; replace hx := hx.below hn hx.lt; replace hb := hb.trans (hn.mono hb.size); clear hn; (have m0 : _ = some (Value.string t) := hx.cell 0); (have m1 : _ = some (Value.string i) := hx.cell 1); rw [h1]
    clear h1
    go_wp2_with fail; go_ret2; exact ⟨by rw [HV.out.1, HV.out.2]; rfl, hb⟩
  have H1 := Lib.hid h1
  cases h2 : ikB t i
  · have HV := Lib.hid (bu_none (f := ms) (t := t) (i := i) (s := s) (by rw [buR, h2]; simp))
    go_enter Try.func64, Try.ntmps64; (have m0 : _ = some (Value.string t) := hx.cell 0); (have m1 : _ = some (Value.string i) := hx.cell 1); go_wp2_with fail; refine (isFont_any ((RSrts.below hr hb).more hb.size) hn0 hL).mono ?_; rintro e1 w1 ⟨rfl, hn⟩; clear m0 m1; replace hx := hx.below hn hx.lt; replace hb := hb.trans (hn.mono hb.size); clear hn; (have m0 : _ = some (Value.string t) := hx.cell 0); (have m1 : _ = some (Value.string i) := hx.cell 1); rw [h1]; clear h1; go_wp2_with fail; refine (isInked_any _ _ _ ht).mono ?_; rintro e1 w2 ⟨rfl, hn⟩; clear m0 m1; replace hx := hx.below hn hx.lt; replace hb := hb.trans (hn.mono hb.size); clear hn; (have m0 : _ = some (Value.string t) := hx.cell 0); (have m1 : _ = some (Value.string i) := hx.cell 1); rw [h2]
    clear h2
    go_wp2_with fail; go_ret2; exact ⟨by rw [HV.out.1, HV.out.2]; rfl, hb⟩
  have H2 := Lib.hid h2
  cases h3 : ikC s
  · have HV := Lib.hid (bu_none (f := ms) (t := t) (i := i) (s := s) (by rw [buR, h3]; simp))
    go_enter Try.func64, Try.ntmps64; (have m0 : _ = some (Value.string t) := hx.cell 0); (have m1 : _ = some (Value.string i) := hx.cell 1); go_wp2_with fail; refine (isFont_any ((RSrts.below hr hb).more hb.size) hn0 hL).mono ?_; rintro e1 w1 ⟨rfl, hn⟩; clear m0 m1; replace hx := hx.below hn hx.lt; replace hb := hb.trans (hn.mono hb.size); clear hn; (have m0 : _ = some (Value.string t) := hx.cell 0); (have m1 : _ = some (Value.string i) := hx.cell 1); rw [h1]; clear h1; go_wp2_with fail; refine (isInked_any _ _ _ ht).mono ?_; rintro e1 w2 ⟨rfl, hn⟩; clear m0 m1; replace hx := hx.below hn hx.lt; replace hb := hb.trans (hn.mono hb.size); clear hn; (have m0 : _ = some (Value.string t) := hx.cell 0); (have m1 : _ = some (Value.string i) := hx.cell 1); rw [h2]; clear h2; go_wp2_with fail; refine (isInk_any _ _).mono ?_; rintro e1 w3 ⟨rfl, hw3⟩; subst hw3; rw [h3]
    clear h3
    go_wp2_with fail; go_ret2; exact ⟨by rw [HV.out.1, HV.out.2]; rfl, hb⟩
  obtain ⟨ink, hink⟩ : ∃ ink : UInt8, s = str [ink] := by
    rcases ikC_true h3 with h | h
    · exact ⟨98, h⟩
    · exact ⟨114, h⟩
  have HBU := Lib.hid (show buR ms t i s = buL ms ink (bytes t) (bytes i) 0 by rw [buR, H1.out, H2.out, h3, hink, bytes_str]; rfl)
  have HINK := Lib.hid hink
  obtain ⟨g1, g2, g3, g4⟩ := ikB_true H2.out
  have HT := Lib.hid g3
  have HI := Lib.hid g4
  have HA := Lib.hid g1
  have HP := Lib.hid g2
  have HST := Lib.hid (fun b hb => (sortB_true ((fontB_true H1.out).2 b hb)).2)
  have HRL := Lib.hid hr.len
  clear g1 g2 g3 g4 hink
  go_enter Try.func64, Try.ntmps64; (have m0 : _ = some (Value.string t) := hx.cell 0); (have m1 : _ = some (Value.string i) := hx.cell 1); go_wp2_with fail; refine (isFont_any ((RSrts.below hr hb).more hb.size) hn0 hL).mono ?_; rintro e1 w1 ⟨rfl, hn⟩; clear m0 m1; replace hx := hx.below hn hx.lt; replace hb := hb.trans (hn.mono hb.size); clear hn; (have m0 : _ = some (Value.string t) := hx.cell 0); (have m1 : _ = some (Value.string i) := hx.cell 1); rw [h1]; clear h1; go_wp2_with fail; refine (isInked_any _ _ _ ht).mono ?_; rintro e1 w2 ⟨rfl, hn⟩; clear m0 m1; replace hx := hx.below hn hx.lt; replace hb := hb.trans (hn.mono hb.size); clear hn; (have m0 : _ = some (Value.string t) := hx.cell 0); (have m1 : _ = some (Value.string i) := hx.cell 1); rw [h2]; clear h2; go_wp2_with fail; refine (isInk_any _ _).mono ?_; rintro e1 w3 ⟨rfl, hw3⟩; subst hw3; rw [h3]
  clear h3
  have HRR := Lib.hid hr
  clear hr
  go_wp2_with fail
  clear m0 m1
  have hs9 := hb.size
  have hs8 := hx.lt
  go_loopw [8, 9] (fun v u wr => ∃ (k : Nat) (z : Int), k ≤ t.size ∧ u = .int .i64 k ∧ v = .int .i64 z ∧ (0 ≤ z ∧ z ≤ 54 * (k : Int)) ∧ buL ms ink ((bytes t).drop k) ((bytes i).drop k) z = buL ms ink (bytes t) (bytes i) 0 ∧ Blk wr w.heap.size 82 [.string t, .string i] ∧ Below w.heap.size w wr) (fun _ u _ => t.size - (intOf u).toNat)
  case atStart => exact ⟨0, 0, Nat.zero_le _, rfl, rfl, by omega, rfl, hx, hb⟩
  case round =>
    clear hx hb
    obtain ⟨k, z, hk, rfl, rfl, hz, hR, hx, hb⟩ := hrel
    have hP := HP.out
    by_cases hlt : k < t.size
    · have hlt2 : k < i.size := by have := HT.out; omega

      have m0 : _ = some (Value.string t) := hx.cell 0
      have m1 : _ = some (Value.string i) := hx.cell 1
      have HD := Lib.hid (bytes_drop t k hlt)
      have HE := Lib.hid (bytes_drop i k hlt2)
      have l0 : (0 : Int) ≤ (k : Int) := by omega
      have l1 : (k : Int) < (t.size : Int) := by omega
      have l3 : (k : Int) < (i.size : Int) := by omega
      have hkk : k ≤ 30 := by omega
      by_cases q1 : (t[k].toNat : Int) = 32
      · obtain ⟨f1, f2⟩ := ne_f q1
        have HR := Lib.hid (show buL ms ink ((bytes t).drop (k + 1)) ((bytes i).drop (k + 1)) z = buL ms ink (bytes t) (bytes i) 0 by rw [← hR, HD.out, HE.out, buL, if_pos q1])
        clear hR q1
        go_wp2_with fail
        go_roundw
        case rel => exact ⟨k + 1, z, by omega, by go_num, rfl, by omega, HR.out, hx, hb⟩
        case measure => simp [intOf]; omega
      · obtain ⟨f1, f2⟩ := ne_t q1
        have ek : IntKind.i64.wrap ((k : Int) + 1) = (k : Int) + 1 := wrapI (by omega) (by omega)
        have HEX := Lib.hid (str_extract t k hlt)
        have HEX2 := Lib.hid (str_extract i k hlt2)
        have hfb := findT_bd (c := str [t[k]]) (ms := ms) (i := 0) (by omega)
        have hlen : ms.length = n := HRL.out
        by_cases q2 : findT (str [t[k]]) ms 0 < 0
        · have HV := Lib.hid (bu_none (f := ms) (t := t) (i := i) (s := s) (by rw [HBU.out, ← hR, HD.out, HE.out, buL, if_neg q1, if_pos q2]))
          clear hR q1
          go_wp2_with fail
          refine (sortAt_any ((RSrts.below HRR.out hb).more hb.size) hn0).mono ?_
          rw [HEX.out]
          rintro e1 w5 ⟨rfl, hn⟩
          replace hx := hx.below hn hx.lt; replace hb := hb.trans (hn.mono hb.size); clear hn
          clear m0 m1
          go_wp2_with fail; go_ret2; exact ⟨by rw [HV.out.1, HV.out.2]; rfl, hb⟩
        · obtain ⟨j, hj⟩ : ∃ j : Nat, findT (str [t[k]]) ms 0 = (j : Int) := ⟨(findT (str [t[k]]) ms 0).toNat, by omega⟩
          have hjn : j < n := by omega
          obtain ⟨b, hbj⟩ : ∃ b, ms[j]? = some b := ⟨_, List.getElem?_eq_getElem (by omega)⟩
          have hbs := HST.out b (List.mem_of_getElem? hbj)
          have HJ := Lib.hid hj
          have HSA := Lib.hid (show setAt ms (j : Int) = b.set_ by rw [setAt, Int.toNat_natCast, hbj]; rfl)
          have HBJ := Lib.hid hbj
          have l5 : (0 : Int) ≤ (j : Int) := by omega
          have l6 : (j : Int) < (n : Int) := by omega
          have hR2 : buL ms ink ((bytes t).drop (k + 1)) ((bytes i).drop (k + 1)) (if i[k] = ink then z else z + b.set_) = buL ms ink (bytes t) (bytes i) 0 := by rw [← hR, HD.out, HE.out, buL, if_neg q1, if_neg q2, hj, HSA.out]
          have HR2 := Lib.hid hR2
          have ez : IntKind.i64.wrap (z + b.set_) = z + b.set_ := wrapI (by omega) (by omega)
          clear hR q1 q2 hfb hbj hj hR2
          by_cases q3 : i[k] = ink
          · have HR := Lib.hid (show buL ms ink ((bytes t).drop (k + 1)) ((bytes i).drop (k + 1)) (z) = buL ms ink (bytes t) (bytes i) 0 by rw [← HR2.out, if_pos q3])
            have hsz1 : s.size = 1 := by rw [HINK.out, str_size]; rfl
            have l7 : (0 : Int) < (s.size : Int) := by omega
            have hx1 := str1_at HINK.out (show 0 < s.size by omega)
            obtain ⟨e5, e6⟩ := ne_f (show ((i[k]).toNat : Int) = ((s[0]'(by omega)).toNat : Int) by rw [hx1, q3])
            clear hx1
            clear q3
            go_wp2_with fail
            refine (sortAt_any ((RSrts.below HRR.out hb).more hb.size) hn0).mono ?_
            rw [HEX.out]
            rintro e1 w5 ⟨rfl, hn⟩
            rw [HJ.out]
            replace hx := hx.below hn hx.lt; replace hb := hb.trans (hn.mono hb.size); clear hn
            clear m0 m1
            have m0 : _ = some (Value.string t) := hx.cell 0
            have m1 : _ = some (Value.string i) := hx.cell 1
            obtain ⟨bb, off, b2, hA, _, _, hb2, c0, c1⟩ := RSrts.at_ (RSrts.below HRR.out hb) hjn
            rw [HBJ.out] at hb2
            injection hb2 with hb2
            subst hb2
            rw [hA]
            have HAA := Lib.hid hA
            clear hA
            go_wp2_with fail
            go_quiet (fail)
            go_wp2
            (try rw [← HAA.out])
            go_roundw
            case rel => exact ⟨k + 1, z, by omega, by go_num, rfl, by omega, HR.out, hx.drewN _, below_drewN hb _⟩
            case measure => simp [intOf]; omega
          
          · have HR := Lib.hid (show buL ms ink ((bytes t).drop (k + 1)) ((bytes i).drop (k + 1)) (z + b.set_) = buL ms ink (bytes t) (bytes i) 0 by rw [← HR2.out, if_neg q3])
            have hsz1 : s.size = 1 := by rw [HINK.out, str_size]; rfl
            have l7 : (0 : Int) < (s.size : Int) := by omega
            have hx1 := str1_at HINK.out (show 0 < s.size by omega)
            obtain ⟨e5, e6⟩ := ne_t (show ((i[k]).toNat : Int) ≠ ((s[0]'(by omega)).toNat : Int) by rw [hx1]; intro e; exact q3 (UInt8.toNat_inj.1 (by omega)))
            clear hx1
            clear q3
            go_wp2_with fail
            refine (sortAt_any ((RSrts.below HRR.out hb).more hb.size) hn0).mono ?_
            rw [HEX.out]
            rintro e1 w5 ⟨rfl, hn⟩
            rw [HJ.out]
            replace hx := hx.below hn hx.lt; replace hb := hb.trans (hn.mono hb.size); clear hn
            clear m0 m1
            have m0 : _ = some (Value.string t) := hx.cell 0
            have m1 : _ = some (Value.string i) := hx.cell 1
            obtain ⟨bb, off, b2, hA, _, _, hb2, c0, c1⟩ := RSrts.at_ (RSrts.below HRR.out hb) hjn
            rw [HBJ.out] at hb2
            injection hb2 with hb2
            subst hb2
            rw [hA]
            have HAA := Lib.hid hA
            clear hA
            go_wp2_with fail
            go_quiet (fail)
            go_wp2
            (try rw [← HAA.out])
            go_roundw
            case rel => exact ⟨k + 1, z + b.set_, by omega, by go_num, rfl, by omega, HR.out, hx.drewN _, below_drewN hb _⟩
            case measure => simp [intOf]; omega
    · have HV := Lib.hid (bu_some (f := ms) (t := t) (i := i) (s := s) (n := z) (by rw [HBU.out, ← hR, buL_end _ (List.drop_of_length_le (by rw [bytes_len]; omega))]))
      have m0 : _ = some (Value.string t) := hx.cell 0
      clear hR
      go_wp2_with fail; go_ret2; exact ⟨by rw [HV.out.1, HV.out.2]; rfl, hb⟩
end Go.Proofs.Ytjcopempjanhhaa
