/-
  Contracts: SetWord.
-/
import Derived.Test.YtfdmenhnejfhjaaSw2
import Derived.Test.YtfdmenhnejfhjaaFo2
namespace Go.Proofs.Ytfdmenhnejfhjaa
open Go.RowKit
def sxG (ms : List Srt) (bs : List Bx) (ss : List ByteArray) (s : ByteArray) : Bool := fontB ms && (askB bs ss && (letB s 1 16 && swG ms bs ss s))
def sxB (ms : List Srt) (bs : List Bx) (ss : List ByteArray) (s : ByteArray) : List Bx := if sxG ms bs ss s then movF (-1) (cds ms s) bs else []
def sxS (ms : List Srt) (bs : List Bx) (ss : List ByteArray) (s : ByteArray) : List ByteArray := if sxG ms bs ss s then ss ++ cds ms s else []
theorem sx_no {ms : List Srt} {bs : List Bx} {ss : List ByteArray} {s : ByteArray} (h : sxG ms bs ss s = false) : sxB ms bs ss s = [] ∧ sxS ms bs ss s = [] := by rw [sxB, sxS, h]; exact ⟨rfl, rfl⟩
theorem sx_eq {ms : List Srt} {bs : List Bx} {ss : List ByteArray} {s : ByteArray} (h : sxG ms bs ss s = swG ms bs ss s) : sxB ms bs ss s = swB ms bs ss s ∧ sxS ms bs ss s = swS ms bs ss s := by rw [sxB, sxS, swB, swS, h]; exact ⟨rfl, rfl⟩
theorem letB_16 {s : ByteArray} (h : letB s 1 16 = true) : 1 ≤ s.size ∧ s.size ≤ 16 := by
  rw [letB, Bool.and_eq_true] at h
  have := inB_true.1 h.2
  omega
set_option maxRecDepth 100000 in
set_option maxHeartbeats 4000000 in
theorem setWordX_spec {Af : Option Addr} {nf cpf : Nat} {ms : List Srt} {A : Option Addr} {adS : Addr} {n cp m cd : Nat} {bs : List Bx} {ss : List ByteArray} {s : ByteArray} {w : World} (hf : RSrts w w.heap.size Af nf ms) (hnf : nf ≤ 1048576) (_ : nf ≤ cpf) (hXf : ∀ b ∈ ms, b.code.size ≤ 1048576) (hr : RBxs w w.heap.size A n bs) (hn0 : n ≤ 1048576) (hcp : n ≤ cp) (hL : ∀ b ∈ bs, b.code.size ≤ 1048576) (hs : RStrs w w.heap.size (some adS) m ss) (hm0 : m ≤ 1048576) (_ : m ≤ cd) (_ : ∀ s ∈ ss, s.size ≤ 1048576) (hm2 : s.size ≤ 1048576) :
    Calls Try.prog 6 #[.slice Af nf cpf, .agg #[.slice A n cp, .slice (some adS) m cd], .string s] w fun e w' => ∃ V N C V' N' C', e = .returned (.tuple #[.agg #[.slice V N C, .slice V' N' C'], .bool (sxG ms bs ss s)]) ∧ w'.ownsRow w.heap.size 71 4 (.slice V N C) N ((sxB ms bs ss s).map Bx.row).flatten ∧ OwnT w' w.heap.size (.slice V' N' C') N' (sxS ms bs ss s) ∧ N ≤ 1048576 ∧ N' ≤ 1048576 ∧ Below w.heap.size w w' := by
  have hbW : Below w.heap.size w ((w.alloc (.cells #[.slice A n cp, .slice (some adS) m cd] 31)).alloc (.cells #[.slice none 0 0, .slice none 0 0] 31)) := ((Below.refl _ _).alloc (Nat.le_refl _) _).alloc (by simp) _; have ha : Blk ((w.alloc (.cells #[.slice A n cp, .slice (some adS) m cd] 31)).alloc (.cells #[.slice none 0 0, .slice none 0 0] 31)) w.heap.size 31 [.slice A n cp, .slice (some adS) m cd] := (Blk.new' w 31 #[.slice A n cp, .slice (some adS) m cd]).alloc _; have hz : Blk ((w.alloc (.cells #[.slice A n cp, .slice (some adS) m cd] 31)).alloc (.cells #[.slice none 0 0, .slice none 0 0] 31)) (w.heap.size + 1) 31 [.slice none 0 0, .slice none 0 0] := by simpa using Blk.new' (w.alloc (.cells #[.slice A n cp, .slice (some adS) m cd] 31)) 31 #[.slice none 0 0, .slice none 0 0]
  have HRF := Lib.hid hf
  have HRB := Lib.hid hr
  have HRS := Lib.hid hs
  have HX := Lib.hid hL
  have HXF := Lib.hid hXf
  have HLs := Lib.hid hs.len
  clear hf hr hs hL hXf
  go_enter Try.func6, Try.ntmps6
  (have a0 : _ = some (Value.slice A n cp) := ha.cell 0); (have a1 : _ = some (Value.slice (some adS) m cd) := ha.cell 1); (have z0 : _ = some (Value.slice none 0 0) := hz.cell 0); (have z1 : _ = some (Value.slice none 0 0) := hz.cell 1); have y0 := hz.frozen 0; have y1 := hz.frozen 1
  go_wp2_with fail
  refine (tyFont_any ((RSrts.below HRF.out hbW).more hbW.size) hnf HXF.out).mono ?_
  rintro e1 w1 ⟨rfl, hn⟩
  replace ha := ha.below hn ha.lt; replace hz := hz.below hn hz.lt; replace hbW := hbW.trans (hn.mono hbW.size)
  clear hn
  clear a0 z0 z1 y0 y1; (try clear a1); obtain ⟨v, hv⟩ : ∃ v, v = fontB ms := ⟨_, rfl⟩; rw [← hv]; have HV := Lib.hid hv; clear hv; (have a0 : _ = some (Value.slice A n cp) := ha.cell 0); (have a1 : _ = some (Value.slice (some adS) m cd) := ha.cell 1); (have z0 : _ = some (Value.slice none 0 0) := hz.cell 0); (have z1 : _ = some (Value.slice none 0 0) := hz.cell 1); have y0 := hz.frozen 0; have y1 := hz.frozen 1
  cases v
  · have HG := Lib.hid (show sxG ms bs ss s = false by rw [sxG, ← HV.out]; rfl)
    go_wp2_with fail
    clear a0 z0 z1 y0 y1; (try clear a1); have hz4 := (hz.set_ 0 (.slice none 0 0)).set_ 1 (.slice none 0 0); (have q0 : _ = some (.slice none 0 0 : Value) := hz4.cell 0); (have q1 : _ = some (.slice none 0 0 : Value) := hz4.cell 1); exact bodyPost_ret (v := .tuple #[.agg #[.slice none 0 0, .slice none 0 0], .bool false]) (by simp [results, Try.results6, go_sem, q0, q1]) rfl ⟨none, 0, 0, none, 0, 0, by rw [HG.out], by rw [(sx_no HG.out).1]; exact World.ownsRow_nil _ _ _ _, by rw [(sx_no HG.out).2]; exact World.ownsRow_nil _ _ _ _, by omega, by omega, (hbW.setCell (by simp) _).setCell (by simp) _⟩
  go_wp2_with fail
  refine (diGood_any ((RBxs.below HRB.out hbW).more hbW.size) hn0 hcp HX.out ((RStrs.below HRS.out hbW).more hbW.size) hm0).mono ?_
  rintro e1 w2 ⟨rfl, hn⟩
  replace ha := ha.below hn ha.lt; replace hz := hz.below hn hz.lt; replace hbW := hbW.trans (hn.mono hbW.size)
  clear hn
  clear a0 z0 z1 y0 y1; (try clear a1); obtain ⟨v, hv⟩ : ∃ v, v = askB bs ss := ⟨_, rfl⟩; rw [← hv]; have HV2 := Lib.hid hv; clear hv; (have a0 : _ = some (Value.slice A n cp) := ha.cell 0); (have a1 : _ = some (Value.slice (some adS) m cd) := ha.cell 1); (have z0 : _ = some (Value.slice none 0 0) := hz.cell 0); (have z1 : _ = some (Value.slice none 0 0) := hz.cell 1); have y0 := hz.frozen 0; have y1 := hz.frozen 1
  cases v
  · have HG := Lib.hid (show sxG ms bs ss s = false by rw [sxG, ← HV2.out]; simp)
    go_wp2_with fail
    clear a0 z0 z1 y0 y1; (try clear a1); have hz4 := (hz.set_ 0 (.slice none 0 0)).set_ 1 (.slice none 0 0); (have q0 : _ = some (.slice none 0 0 : Value) := hz4.cell 0); (have q1 : _ = some (.slice none 0 0 : Value) := hz4.cell 1); exact bodyPost_ret (v := .tuple #[.agg #[.slice none 0 0, .slice none 0 0], .bool false]) (by simp [results, Try.results6, go_sem, q0, q1]) rfl ⟨none, 0, 0, none, 0, 0, by rw [HG.out], by rw [(sx_no HG.out).1]; exact World.ownsRow_nil _ _ _ _, by rw [(sx_no HG.out).2]; exact World.ownsRow_nil _ _ _ _, by omega, by omega, (hbW.setCell (by simp) _).setCell (by simp) _⟩
  have hm60 : m ≤ 60 := by have := (askB_true HV2.out.symm).2.2; have := HLs.out; omega
  go_wp2_with fail
  refine (tyWord_any s _ hm2).mono ?_
  rintro e1 w3 ⟨rfl, hw⟩
  subst hw
  clear a0 z0 z1 y0 y1; (try clear a1); obtain ⟨v, hv⟩ : ∃ v, v = letB s 1 16 := ⟨_, rfl⟩; rw [← hv]; have HV3 := Lib.hid hv; clear hv; (have a0 : _ = some (Value.slice A n cp) := ha.cell 0); (have a1 : _ = some (Value.slice (some adS) m cd) := ha.cell 1); (have z0 : _ = some (Value.slice none 0 0) := hz.cell 0); (have z1 : _ = some (Value.slice none 0 0) := hz.cell 1); have y0 := hz.frozen 0; have y1 := hz.frozen 1
  cases v
  · have HG := Lib.hid (show sxG ms bs ss s = false by rw [sxG, ← HV3.out]; simp)
    go_wp2_with fail
    clear a0 z0 z1 y0 y1; (try clear a1); have hz4 := (hz.set_ 0 (.slice none 0 0)).set_ 1 (.slice none 0 0); (have q0 : _ = some (.slice none 0 0 : Value) := hz4.cell 0); (have q1 : _ = some (.slice none 0 0 : Value) := hz4.cell 1); exact bodyPost_ret (v := .tuple #[.agg #[.slice none 0 0, .slice none 0 0], .bool false]) (by simp [results, Try.results6, go_sem, q0, q1]) rfl ⟨none, 0, 0, none, 0, 0, by rw [HG.out], by rw [(sx_no HG.out).1]; exact World.ownsRow_nil _ _ _ _, by rw [(sx_no HG.out).2]; exact World.ownsRow_nil _ _ _ _, by omega, by omega, (hbW.setCell (by simp) _).setCell (by simp) _⟩
  obtain ⟨hw1, hw16⟩ := letB_16 HV3.out.symm
  have HG := Lib.hid (show sxG ms bs ss s = swG ms bs ss s by rw [sxG, ← HV.out, ← HV2.out, ← HV3.out]; rfl)
  go_wp2_with fail
  refine (setWord_spec ((RSrts.below HRF.out hbW).more hbW.size) hnf HV.out.symm ((RBxs.below HRB.out hbW).more hbW.size) hn0 hcp HX.out ((RStrs.below HRS.out hbW).more hbW.size) hm60 (fun e => by cases e) hw1 hw16).mono ?_
  have hzb := hz.lt
  rintro e1 w4 ⟨V, N, C, V9, M, C9, rfl, ho, hp, hN, hM, hn⟩
  have HO := Lib.hid ho
  have HP := Lib.hid hp
  clear ho hp
  replace ha := ha.below hn ha.lt; replace hz := hz.below hn hz.lt; replace hbW := hbW.trans (hn.mono hbW.size)
  clear hn
  clear a0 z0 z1 y0 y1; (try clear a1)
  (have a0 : _ = some (Value.slice A n cp) := ha.cell 0); (have a1 : _ = some (Value.slice (some adS) m cd) := ha.cell 1); (have z0 : _ = some (Value.slice none 0 0) := hz.cell 0); (have z1 : _ = some (Value.slice none 0 0) := hz.cell 1); have y0 := hz.frozen 0; have y1 := hz.frozen 1
  have HY := Lib.hid (sx_eq HG.out)
  go_wp2_with fail
  clear a0 z0 z1 y0 y1; (try clear a1); have hz4 := (hz.set_ 0 (.slice V N C)).set_ 1 (.slice V9 M C9); (have q0 : _ = some (.slice V N C : Value) := hz4.cell 0); (have q1 : _ = some (.slice V9 M C9 : Value) := hz4.cell 1); exact bodyPost_ret (v := .tuple #[.agg #[.slice V N C, .slice V9 M C9], .bool (swG ms bs ss s)]) (by simp [results, Try.results6, go_sem, q0, q1]) rfl ⟨V, N, C, V9, M, C9, by rw [HG.out], by rw [HY.out.1]; exact row_lower (row_set (row_set HO.out (by omega)) (by omega)) (by omega), by rw [HY.out.2]; exact row_lower (row_set (row_set HP.out (by omega)) (by omega)) (by omega), hN, hM, (hbW.setCell (by simp) _).setCell (by simp) _⟩
set_option maxRecDepth 100000 in
set_option maxHeartbeats 4000000 in
theorem setWordX_impl {Af : Option Addr} {nf cpf : Nat} {ms : List Srt} {A : Option Addr} {adS : Addr} {n cp m cd : Nat} {bs : List Bx} {ss : List ByteArray} {s : ByteArray} {w : World} (hf : RSrts w w.heap.size Af nf ms) (hnf : nf ≤ 1048576) (_ : nf ≤ cpf) (hXf : ∀ b ∈ ms, b.code.size ≤ 1048576) (hr : RBxs w w.heap.size A n bs) (hn0 : n ≤ 1048576) (hcp : n ≤ cp) (hL : ∀ b ∈ bs, b.code.size ≤ 1048576) (hs : RStrs w w.heap.size (some adS) m ss) (hm0 : m ≤ 1048576) (_ : m ≤ cd) (_ : ∀ s ∈ ss, s.size ≤ 1048576) (hm2 : s.size ≤ 1048576) :
    Calls Try.prog 9 #[.slice Af nf cpf, .agg #[.slice A n cp, .slice (some adS) m cd], .string s] w fun e w' => ∃ V N C V' N' C', e = .returned (.tuple #[.agg #[.slice V N C, .slice V' N' C'], .bool (sxG ms bs ss s)]) ∧ w'.ownsRow w.heap.size 71 4 (.slice V N C) N ((sxB ms bs ss s).map Bx.row).flatten ∧ OwnT w' w.heap.size (.slice V' N' C') N' (sxS ms bs ss s) ∧ N ≤ 1048576 ∧ N' ≤ 1048576 ∧ Below w.heap.size w w' := by
  have hbW : Below w.heap.size w ((w.alloc (.cells #[.slice A n cp, .slice (some adS) m cd] 31)).alloc (.cells #[.slice none 0 0, .slice none 0 0] 31)) := ((Below.refl _ _).alloc (Nat.le_refl _) _).alloc (by simp) _; have ha : Blk ((w.alloc (.cells #[.slice A n cp, .slice (some adS) m cd] 31)).alloc (.cells #[.slice none 0 0, .slice none 0 0] 31)) w.heap.size 31 [.slice A n cp, .slice (some adS) m cd] := (Blk.new' w 31 #[.slice A n cp, .slice (some adS) m cd]).alloc _; have hz : Blk ((w.alloc (.cells #[.slice A n cp, .slice (some adS) m cd] 31)).alloc (.cells #[.slice none 0 0, .slice none 0 0] 31)) (w.heap.size + 1) 31 [.slice none 0 0, .slice none 0 0] := by simpa using Blk.new' (w.alloc (.cells #[.slice A n cp, .slice (some adS) m cd] 31)) 31 #[.slice none 0 0, .slice none 0 0]
  have HRF := Lib.hid hf
  have HRB := Lib.hid hr
  have HRS := Lib.hid hs
  have HX := Lib.hid hL
  have HXF := Lib.hid hXf
  have HLs := Lib.hid hs.len
  clear hf hr hs hL hXf
  go_enter Try.func9, Try.ntmps9
  (have a0 : _ = some (Value.slice A n cp) := ha.cell 0); (have a1 : _ = some (Value.slice (some adS) m cd) := ha.cell 1); (have z0 : _ = some (Value.slice none 0 0) := hz.cell 0); (have z1 : _ = some (Value.slice none 0 0) := hz.cell 1); have y0 := hz.frozen 0; have y1 := hz.frozen 1
  go_wp2_with fail
  refine (isFont_any ((RSrts.below HRF.out hbW).more hbW.size) hnf HXF.out).mono ?_
  rintro e1 w1 ⟨rfl, hn⟩
  replace ha := ha.below hn ha.lt; replace hz := hz.below hn hz.lt; replace hbW := hbW.trans (hn.mono hbW.size)
  clear hn
  clear a0 z0 z1 y0 y1; (try clear a1); obtain ⟨v, hv⟩ : ∃ v, v = fontB ms := ⟨_, rfl⟩; rw [← hv]; have HV := Lib.hid hv; clear hv; (have a0 : _ = some (Value.slice A n cp) := ha.cell 0); (have a1 : _ = some (Value.slice (some adS) m cd) := ha.cell 1); (have z0 : _ = some (Value.slice none 0 0) := hz.cell 0); (have z1 : _ = some (Value.slice none 0 0) := hz.cell 1); have y0 := hz.frozen 0; have y1 := hz.frozen 1
  cases v
  · have HG := Lib.hid (show sxG ms bs ss s = false by rw [sxG, ← HV.out]; rfl)
    go_wp2_with fail
    clear a0 z0 z1 y0 y1; (try clear a1); have hz4 := (hz.set_ 0 (.slice none 0 0)).set_ 1 (.slice none 0 0); (have q0 : _ = some (.slice none 0 0 : Value) := hz4.cell 0); (have q1 : _ = some (.slice none 0 0 : Value) := hz4.cell 1); exact bodyPost_ret (v := .tuple #[.agg #[.slice none 0 0, .slice none 0 0], .bool false]) (by simp [results, Try.results9, go_sem, q0, q1]) rfl ⟨none, 0, 0, none, 0, 0, by rw [HG.out], by rw [(sx_no HG.out).1]; exact World.ownsRow_nil _ _ _ _, by rw [(sx_no HG.out).2]; exact World.ownsRow_nil _ _ _ _, by omega, by omega, (hbW.setCell (by simp) _).setCell (by simp) _⟩
  go_wp2_with fail
  refine (isSetting_any ((RBxs.below HRB.out hbW).more hbW.size) hn0 hcp HX.out ((RStrs.below HRS.out hbW).more hbW.size) hm0).mono ?_
  rintro e1 w2 ⟨rfl, hn⟩
  replace ha := ha.below hn ha.lt; replace hz := hz.below hn hz.lt; replace hbW := hbW.trans (hn.mono hbW.size)
  clear hn
  clear a0 z0 z1 y0 y1; (try clear a1); obtain ⟨v, hv⟩ : ∃ v, v = askB bs ss := ⟨_, rfl⟩; rw [← hv]; have HV2 := Lib.hid hv; clear hv; (have a0 : _ = some (Value.slice A n cp) := ha.cell 0); (have a1 : _ = some (Value.slice (some adS) m cd) := ha.cell 1); (have z0 : _ = some (Value.slice none 0 0) := hz.cell 0); (have z1 : _ = some (Value.slice none 0 0) := hz.cell 1); have y0 := hz.frozen 0; have y1 := hz.frozen 1
  cases v
  · have HG := Lib.hid (show sxG ms bs ss s = false by rw [sxG, ← HV2.out]; simp)
    go_wp2_with fail
    clear a0 z0 z1 y0 y1; (try clear a1); have hz4 := (hz.set_ 0 (.slice none 0 0)).set_ 1 (.slice none 0 0); (have q0 : _ = some (.slice none 0 0 : Value) := hz4.cell 0); (have q1 : _ = some (.slice none 0 0 : Value) := hz4.cell 1); exact bodyPost_ret (v := .tuple #[.agg #[.slice none 0 0, .slice none 0 0], .bool false]) (by simp [results, Try.results9, go_sem, q0, q1]) rfl ⟨none, 0, 0, none, 0, 0, by rw [HG.out], by rw [(sx_no HG.out).1]; exact World.ownsRow_nil _ _ _ _, by rw [(sx_no HG.out).2]; exact World.ownsRow_nil _ _ _ _, by omega, by omega, (hbW.setCell (by simp) _).setCell (by simp) _⟩
  have hm60 : m ≤ 60 := by have := (askB_true HV2.out.symm).2.2; have := HLs.out; omega
  go_wp2_with fail
  refine (isWord_any s _ hm2).mono ?_
  rintro e1 w3 ⟨rfl, hw⟩
  subst hw
  clear a0 z0 z1 y0 y1; (try clear a1); obtain ⟨v, hv⟩ : ∃ v, v = letB s 1 16 := ⟨_, rfl⟩; rw [← hv]; have HV3 := Lib.hid hv; clear hv; (have a0 : _ = some (Value.slice A n cp) := ha.cell 0); (have a1 : _ = some (Value.slice (some adS) m cd) := ha.cell 1); (have z0 : _ = some (Value.slice none 0 0) := hz.cell 0); (have z1 : _ = some (Value.slice none 0 0) := hz.cell 1); have y0 := hz.frozen 0; have y1 := hz.frozen 1
  cases v
  · have HG := Lib.hid (show sxG ms bs ss s = false by rw [sxG, ← HV3.out]; simp)
    go_wp2_with fail
    clear a0 z0 z1 y0 y1; (try clear a1); have hz4 := (hz.set_ 0 (.slice none 0 0)).set_ 1 (.slice none 0 0); (have q0 : _ = some (.slice none 0 0 : Value) := hz4.cell 0); (have q1 : _ = some (.slice none 0 0 : Value) := hz4.cell 1); exact bodyPost_ret (v := .tuple #[.agg #[.slice none 0 0, .slice none 0 0], .bool false]) (by simp [results, Try.results9, go_sem, q0, q1]) rfl ⟨none, 0, 0, none, 0, 0, by rw [HG.out], by rw [(sx_no HG.out).1]; exact World.ownsRow_nil _ _ _ _, by rw [(sx_no HG.out).2]; exact World.ownsRow_nil _ _ _ _, by omega, by omega, (hbW.setCell (by simp) _).setCell (by simp) _⟩
  obtain ⟨hw1, hw16⟩ := letB_16 HV3.out.symm
  have HG := Lib.hid (show sxG ms bs ss s = swG ms bs ss s by rw [sxG, ← HV.out, ← HV2.out, ← HV3.out]; rfl)
  go_wp2_with fail
  refine (setWord_impl ((RSrts.below HRF.out hbW).more hbW.size) hnf HV.out.symm ((RBxs.below HRB.out hbW).more hbW.size) hn0 hcp HX.out ((RStrs.below HRS.out hbW).more hbW.size) hm60 (fun e => by cases e) hw1 hw16).mono ?_
  have hzb := hz.lt
  rintro e1 w4 ⟨V, N, C, V9, M, C9, rfl, ho, hp, hN, hM, hn⟩
  have HO := Lib.hid ho
  have HP := Lib.hid hp
  clear ho hp
  replace ha := ha.below hn ha.lt; replace hz := hz.below hn hz.lt; replace hbW := hbW.trans (hn.mono hbW.size)
  clear hn
  clear a0 z0 z1 y0 y1; (try clear a1)
  (have a0 : _ = some (Value.slice A n cp) := ha.cell 0); (have a1 : _ = some (Value.slice (some adS) m cd) := ha.cell 1); (have z0 : _ = some (Value.slice none 0 0) := hz.cell 0); (have z1 : _ = some (Value.slice none 0 0) := hz.cell 1); have y0 := hz.frozen 0; have y1 := hz.frozen 1
  have HY := Lib.hid (sx_eq HG.out)
  go_wp2_with fail
  clear a0 z0 z1 y0 y1; (try clear a1); have hz4 := (hz.set_ 0 (.slice V N C)).set_ 1 (.slice V9 M C9); (have q0 : _ = some (.slice V N C : Value) := hz4.cell 0); (have q1 : _ = some (.slice V9 M C9 : Value) := hz4.cell 1); exact bodyPost_ret (v := .tuple #[.agg #[.slice V N C, .slice V9 M C9], .bool (swG ms bs ss s)]) (by simp [results, Try.results9, go_sem, q0, q1]) rfl ⟨V, N, C, V9, M, C9, by rw [HG.out], by rw [HY.out.1]; exact row_lower (row_set (row_set HO.out (by omega)) (by omega)) (by omega), by rw [HY.out.2]; exact row_lower (row_set (row_set HP.out (by omega)) (by omega)) (by omega), hN, hM, (hbW.setCell (by simp) _).setCell (by simp) _⟩
end Go.Proofs.Ytfdmenhnejfhjaa
