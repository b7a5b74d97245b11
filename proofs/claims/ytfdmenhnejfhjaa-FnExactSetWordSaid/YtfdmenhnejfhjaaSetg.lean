/-
  A setting (its boxes and the codes set): the laws' own helpers on it.
-/
import Derived.Test.YtfdmenhnejfhjaaMBox
import Derived.Test.YtfdmenhnejfhjaaStrs
namespace Go.Proofs.Ytfdmenhnejfhjaa
open Go.RowKit
theorem toSetting_any {A A' : Option Addr} {n cp m cd : Nat} {bs : List Bx} {ss : List ByteArray} {w : World} (hr : RBxs w w.heap.size A n bs) (hn0 : n ≤ 1048576) (hs : RStrs w w.heap.size A' m ss) (hm0 : m ≤ 1048576) :
    Calls Try.prog 8 #[.agg #[.slice A n cp, .slice A' m cd]] w fun e w' => ∃ g h, e = .returned (.agg #[.slice (some ⟨g, 0, none⟩) n n, .slice (some ⟨h, 0, none⟩) m m]) ∧ w.heap.size ≤ g ∧ g < h ∧ Blk w' g 71 (bs.map Bx.row).flatten ∧ Blk w' h 9 (ss.map Value.string) ∧ Below w.heap.size w w' := by
  have hbW : Below w.heap.size w (((w.alloc (.cells #[.slice A n cp, .slice A' m cd] 26)).alloc (.cells #[.slice none 0 0, .slice none 0 0] 31)).alloc (.cells #[.slice none 0 0, .slice none 0 0] 31)) := ((Below.refl _ _).alloc (Nat.le_refl _) _).alloc (by simp) _ |>.alloc (by simp <;> omega) _
  have hr3 := (RBxs.below hr hbW).more hbW.size
  have ha0 : Blk (((w.alloc (.cells #[.slice A n cp, .slice A' m cd] 26)).alloc (.cells #[.slice none 0 0, .slice none 0 0] 31)).alloc (.cells #[.slice none 0 0, .slice none 0 0] 31)) w.heap.size 26 [.slice A n cp, .slice A' m cd] := ((Blk.new' w 26 #[.slice A n cp, .slice A' m cd]).alloc _).alloc _
  have hz20 : Blk (((w.alloc (.cells #[.slice A n cp, .slice A' m cd] 26)).alloc (.cells #[.slice none 0 0, .slice none 0 0] 31)).alloc (.cells #[.slice none 0 0, .slice none 0 0] 31)) (w.heap.size + 1) 31 [.slice none 0 0, .slice none 0 0] := Blk.alloc (by simpa using Blk.new' (w.alloc (.cells #[.slice A n cp, .slice A' m cd] 26)) 31 #[.slice none 0 0, .slice none 0 0]) _
  have hz30 : Blk (((w.alloc (.cells #[.slice A n cp, .slice A' m cd] 26)).alloc (.cells #[.slice none 0 0, .slice none 0 0] 31)).alloc (.cells #[.slice none 0 0, .slice none 0 0] 31)) (w.heap.size + 2) 31 [.slice none 0 0, .slice none 0 0] := by simpa using Blk.new' ((w.alloc (.cells #[.slice A n cp, .slice A' m cd] 26)).alloc (.cells #[.slice none 0 0, .slice none 0 0] 31)) 31 #[.slice none 0 0, .slice none 0 0]
  go_enter Try.func8, Try.ntmps8
  go_wp2_with fail
  refine (toBoxS_any A n cp _ bs _ hr3 (Nat.le_refl _) hn0).mono ?_
  rintro e1 w1 ⟨g, rfl, hg, hk, hn⟩
  simp only [World.size_alloc] at hg
  have ha := ha0.below hn ha0.lt
  have hz2 := hz20.below hn hz20.lt
  have hz3 := hz30.below hn hz30.lt
  have hb1 := hbW.trans (hn.mono hbW.size)
  clear ha0 hz20 hz30 hbW hr3 hn
  have a1 : _ = some (Value.slice A' m cd) := ha.cell 1
  have c0 : _ = some (Value.slice none 0 0) := hz3.cell 0
  have f0 := hz3.frozen 0
  have hsz := hb1.size
  have hs3 := (RStrs.below hs (hb1.setCell (p := ⟨w.heap.size + 2, 0, none⟩) (by simp) (.slice (some ⟨g, 0, none⟩) n n))).more (B' := (w1.setCell ⟨w.heap.size + 2, 0, none⟩ (.slice (some ⟨g, 0, none⟩) n n)).heap.size) (by simp <;> omega)
  go_wp2_with fail
  refine (toStringS_any A' m cd _ ss _ hs3 (Nat.le_refl _) hm0).mono ?_
  rintro e1 w2 ⟨h, rfl, hh, hk2, hn⟩
  have hg2 := hk.lt
  have hlt2 := hz2.lt
  have hlt3 := hz3.lt
  simp only [World.size_setCell] at hh
  have hz3' : Blk w2 (w.heap.size + 2) 31 [.slice (some ⟨g, 0, none⟩) n n, .slice none 0 0] := (hz3.set_ 0 (.slice (some ⟨g, 0, none⟩) n n)).below hn (by simp <;> omega)
  have hz2' : Blk w2 (w.heap.size + 1) 31 [.slice none 0 0, .slice none 0 0] := (hz2.far (p := ⟨w.heap.size + 2, 0, none⟩) (by simp) (.slice (some ⟨g, 0, none⟩) n n)).below hn (by simp <;> omega)
  have hk1 := (hk.far (p := ⟨w.heap.size + 2, 0, none⟩) (by simp <;> omega) (.slice (some ⟨g, 0, none⟩) n n)).below hn (by simp <;> omega)
  have hb2 := (hb1.setCell (p := ⟨w.heap.size + 2, 0, none⟩) (by simp) (.slice (some ⟨g, 0, none⟩) n n)).trans (hn.mono (by simp <;> omega))
  clear hs3 hn a1 c0 f0 ha hz3 hz2 hk hb1
  have c0 : _ = some (.slice (some ⟨g, 0, none⟩) n n : Value) := hz3'.cell 0
  have c1 : _ = some (Value.slice none 0 0) := hz3'.cell 1
  have f1 := hz3'.frozen 1
  have d0 : _ = some (Value.slice none 0 0) := hz2'.cell 0
  have d1 : _ = some (Value.slice none 0 0) := hz2'.cell 1
  have y0 := hz2'.frozen 0
  have y1 := hz2'.frozen 1
  go_wp2_with fail
  clear c0 c1 f1 d0 d1 y0 y1
  have hz4 := ((hz2'.far (p := ⟨w.heap.size + 2, 1, none⟩) (by simp) (.slice (some ⟨h, 0, none⟩) m m)).set_ 0 (.slice (some ⟨g, 0, none⟩) n n)).set_ 1 (.slice (some ⟨h, 0, none⟩) m m)
  have q0 : _ = some (.slice (some ⟨g, 0, none⟩) n n : Value) := hz4.cell 0
  have q1 : _ = some (.slice (some ⟨h, 0, none⟩) m m : Value) := hz4.cell 1
  exact bodyPost_ret (v := .agg #[.slice (some ⟨g, 0, none⟩) n n, .slice (some ⟨h, 0, none⟩) m m]) (by simp [results, Try.results8, go_sem, q0, q1]) rfl ⟨g, h, rfl, by omega, by omega, ((hk1.far (by simp <;> omega) _).far (by simp <;> omega) _).far (by simp <;> omega) _, ((hk2.far (by simp <;> omega) _).far (by simp <;> omega) _).far (by simp <;> omega) _, ((hb2.setCell (by simp <;> omega) _).setCell (by simp <;> omega) _).setCell (by simp <;> omega) _⟩
theorem eqSetting_any {A A' D D' : Option Addr} {n cp cp' m cd cd' : Nat} {bs : List Bx} {ss : List ByteArray} {w : World} (hr : RBxs w w.heap.size A n bs) (hs : RStrs w w.heap.size A' m ss) (hr' : RBxs w w.heap.size D n bs) (hs' : RStrs w w.heap.size D' m ss) (hn0 : n ≤ 1048576) (hm0 : m ≤ 1048576) :
    Calls Try.prog 10 #[.agg #[.slice A n cp, .slice A' m cd], .agg #[.slice D n cp', .slice D' m cd']] w fun e w' => e = .returned (.bool true) ∧ Below w.heap.size w w' := by
  have hbW : Below w.heap.size w ((w.alloc (.cells #[.slice A n cp, .slice A' m cd] 31)).alloc (.cells #[.slice D n cp', .slice D' m cd'] 31)) := ((Below.refl _ _).alloc (Nat.le_refl _) _).alloc (by simp) _
  have ha0 : Blk ((w.alloc (.cells #[.slice A n cp, .slice A' m cd] 31)).alloc (.cells #[.slice D n cp', .slice D' m cd'] 31)) w.heap.size 31 [.slice A n cp, .slice A' m cd] := (Blk.new' w 31 #[.slice A n cp, .slice A' m cd]).alloc _
  have hd0 : Blk ((w.alloc (.cells #[.slice A n cp, .slice A' m cd] 31)).alloc (.cells #[.slice D n cp', .slice D' m cd'] 31)) (w.heap.size + 1) 31 [.slice D n cp', .slice D' m cd'] := by simpa using Blk.new' (w.alloc (.cells #[.slice A n cp, .slice A' m cd] 31)) 31 #[.slice D n cp', .slice D' m cd']
  go_enter Try.func10, Try.ntmps10
  go_wp2_with fail
  refine (eqBoxS_any _ _ _ _ _ _ _ bs _ ((RBxs.below hr hbW).more hbW.size) ((RBxs.below hr' hbW).more hbW.size) (Nat.le_refl _) (Nat.le_refl _) hn0).mono ?_
  rintro e1 w1 ⟨rfl, hn⟩
  have a1 : _ = some (Value.slice A' m cd) := (ha0.below hn ha0.lt).cell 1
  have d1 : _ = some (Value.slice D' m cd') := (hd0.below hn hd0.lt).cell 1
  have hb1 := hbW.trans (hn.mono hbW.size)
  clear ha0 hd0 hn hbW
  go_wp2_with fail
  refine (eqStringS_any ((RStrs.below hs hb1).more hb1.size) ((RStrs.below hs' hb1).more hb1.size) hm0).mono ?_
  rintro e1 w2 ⟨rfl, hn⟩
  clear a1 d1
  go_wp2_with fail
  go_ret
  exact ⟨rfl, hb1.trans (hn.mono hb1.size)⟩
theorem eqBoxS_same {A D : Option Addr} {n n' cp cp' : Nat} {bs : List Bx} {w : World} (hr : RBxs w w.heap.size A n bs) (hr' : RBxs w w.heap.size D n' bs) (hn0 : n ≤ 1048576) :
    Calls Try.prog 29 #[.slice A n cp, .slice D n' cp'] w fun e w' => e = .returned (.bool true) ∧ Below w.heap.size w w' := by
  have e : n' = n := hr'.len.symm.trans hr.len
  subst e
  exact eqBoxS_any _ _ _ _ _ _ _ bs _ hr hr' (Nat.le_refl _) (Nat.le_refl _) hn0
theorem eqStringS_same {A D : Option Addr} {n n' cp cp' : Nat} {ss : List ByteArray} {w : World} (hr : RStrs w w.heap.size A n ss) (hr' : RStrs w w.heap.size D n' ss) (hn0 : n ≤ 1048576) :
    Calls Try.prog 30 #[.slice A n cp, .slice D n' cp'] w fun e w' => e = .returned (.bool true) ∧ Below w.heap.size w w' := by
  have e : n' = n := hr'.len.symm.trans hr.len
  subst e
  exact eqStringS_any hr hr' hn0
theorem eqSetting_same {A A' D D' : Option Addr} {n n' cp cp' m m' cd cd' : Nat} {bs : List Bx} {ss : List ByteArray} {w : World} (hr : RBxs w w.heap.size A n bs) (hs : RStrs w w.heap.size A' m ss) (hr' : RBxs w w.heap.size D n' bs) (hs' : RStrs w w.heap.size D' m' ss) (hn0 : n ≤ 1048576) (hm0 : m ≤ 1048576) :
    Calls Try.prog 10 #[.agg #[.slice A n cp, .slice A' m cd], .agg #[.slice D n' cp', .slice D' m' cd']] w fun e w' => e = .returned (.bool true) ∧ Below w.heap.size w w' := by
  have e : n' = n := hr'.len.symm.trans hr.len
  have e2 : m' = m := hs'.len.symm.trans hs.len
  subst e e2
  exact eqSetting_any hr hs hr' hs' hn0 hm0
def szSet (bs : List Bx) (ss : List ByteArray) (l : Int) : Int := if szSBx bs l < 0 then -1 else if szST ss (szSBx bs l) < 0 then -1 else szST ss (szSBx bs l)
theorem szSet_ok {bs : List Bx} {ss : List ByteArray} {l : Int} (h : 0 ≤ szSet bs ss l) (hl : 0 ≤ l) : bs.length ≤ l ∧ ss.length ≤ l ∧ szSet bs ss l ≤ l ∧ (∀ m ∈ bs, ((m.code.size : Nat) : Int) ≤ l) ∧ ∀ m ∈ ss, ((m.size : Nat) : Int) ≤ l := by
  unfold szSet at *
  split at h
  · omega
  · rename_i q
    split at h
    · omega
    · rename_i q2
      have g := szSBx_ok (ms := bs) (l := l) (by omega) hl
      have g2 := szST_ok (xs := ss) (l := szSBx bs l) (by omega) (by omega)
      rw [if_neg q, if_neg q2]
      refine ⟨g.1, by omega, by omega, g.2.2, fun m hm => ?_⟩
      have := g2.2.2 m hm
      omega
theorem szSetting_any {A A' : Option Addr} {n cp m cd : Nat} {bs : List Bx} {ss : List ByteArray} {l : Int} {w : World} (hr : RBxs w w.heap.size A n bs) (hn : n ≤ 9223372036854775807) (hL : ∀ m ∈ bs, m.code.size ≤ maxLen) (hs : RStrs w w.heap.size A' m ss) (hm : m ≤ 9223372036854775807) (hL2 : ∀ m ∈ ss, m.size ≤ maxLen) (hl : 0 ≤ l ∧ l ≤ 1048576) :
    Calls Try.prog 5 #[.agg #[.slice A n cp, .slice A' m cd], .int .i64 l] w fun e w' => e = .returned (.int .i64 (szSet bs ss l)) ∧ Below w.heap.size w w' := by
  have hbW : Below w.heap.size w (w.alloc (.cells #[.slice A n cp, .slice A' m cd] 26)) := (Below.refl _ _).alloc (Nat.le_refl _) _
  have ha0 := Blk.new' w 26 #[.slice A n cp, .slice A' m cd]
  have hr3 := (RBxs.below hr hbW).more hbW.size
  have HL1 := Lib.hid hL
  have HL2 := Lib.hid hL2
  clear hL hL2
  by_cases q : szSBx bs l < 0
  · have HZ := Lib.hid (show szSet bs ss l = -1 by rw [szSet, if_pos q])
    go_enter Try.func5, Try.ntmps5; go_wp2_with fail; refine (szBoxS_any hr3 hn HL1.out hl).mono ?_; rintro e1 w1 ⟨rfl, hn1⟩; (have a1 : _ = some (Value.slice A' m cd) := (ha0.below hn1 ha0.lt).cell 1); have hb1 := hbW.trans (hn1.mono hbW.size); clear ha0 hn1; go_wp2_with fail
    go_ret
    exact ⟨ret_int (by rw [HZ.out]), hb1⟩
  have g := szSBx_ok (ms := bs) (l := l) (by omega) hl.1
  have g2 : 0 ≤ szSBx bs l ∧ szSBx bs l ≤ 1048576 := by omega
  clear g
  by_cases q2 : szST ss (szSBx bs l) < 0
  · have HZ := Lib.hid (show szSet bs ss l = -1 by rw [szSet, if_neg q, if_pos q2])
    go_enter Try.func5, Try.ntmps5; go_wp2_with fail; refine (szBoxS_any hr3 hn HL1.out hl).mono ?_; rintro e1 w1 ⟨rfl, hn1⟩; (have a1 : _ = some (Value.slice A' m cd) := (ha0.below hn1 ha0.lt).cell 1); have hb1 := hbW.trans (hn1.mono hbW.size); clear ha0 hn1; go_wp2_with fail
    refine (szStringS_any ((RStrs.below hs hb1).more hb1.size) hm HL2.out g2).mono ?_
    rintro e1 w2 ⟨rfl, hw2⟩
    subst hw2
    go_wp2_with fail
    go_ret
    exact ⟨ret_int (by rw [HZ.out]), hb1⟩
  · have HZ := Lib.hid (show szSet bs ss l = szST ss (szSBx bs l) by rw [szSet, if_neg q, if_neg q2])
    go_enter Try.func5, Try.ntmps5; go_wp2_with fail; refine (szBoxS_any hr3 hn HL1.out hl).mono ?_; rintro e1 w1 ⟨rfl, hn1⟩; (have a1 : _ = some (Value.slice A' m cd) := (ha0.below hn1 ha0.lt).cell 1); have hb1 := hbW.trans (hn1.mono hbW.size); clear ha0 hn1; go_wp2_with fail
    refine (szStringS_any ((RStrs.below hs hb1).more hb1.size) hm HL2.out g2).mono ?_
    rintro e1 w2 ⟨rfl, hw2⟩
    subst hw2
    go_wp2_with fail
    go_ret
    exact ⟨ret_int (by rw [HZ.out]), hb1⟩
theorem owns_apart {w : World} {B B' e e' size size' n n' : Nat} {v v' : Value} {cs cs' : List Value} (h : w.ownsRow B e size v n cs) (h' : w.ownsRow B' e' size' v' n' cs') (he : e ≠ e') : ∀ k, v.ownBlock = some k → v'.ownBlock ≠ some k := by
  intro k hk hk'
  rcases h.2 with ⟨rfl, _⟩ | ⟨g, cap, cur, rfl, _, hg, _⟩
  · simp [Value.ownBlock] at hk
  rcases h'.2 with ⟨rfl, _⟩ | ⟨g', cap', cur', rfl, _, hg', _⟩
  · simp [Value.ownBlock] at hk'
  have e1 : g = k := by injection hk
  have e2 : g' = k := by injection hk'
  subst e1 e2
  rw [hg] at hg'
  injection hg' with hg'
  injection hg' with _ h2
  exact he h2
theorem kept_of_apart {w w' : World} {B e size n : Nat} {v v' : Value} {cs : List Value} (h : w.ownsRow B e size v n cs) (hg : w.grownBy w' v'.ownBlock) (hne : ∀ k, v.ownBlock = some k → v'.ownBlock ≠ some k) : w'.ownsRow B e size v n cs := by
  refine h.kept hg ?_
  cases hv : v.ownBlock with
  | none => exact .inl rfl
  | some k => right; intro e; exact hne k hv e.symm
theorem markSetting_any {V V' : Option Addr} {n cp m cd B B' lo hi : Nat} {bs : List Bx} {ss : List ByteArray} {k : Int} {w : World} (h1 : w.ownsRow B 71 4 (.slice V n cp) n (bs.map Bx.row).flatten) (h2 : OwnT w B' (.slice V' m cd) m ss) (hn : n ≤ 1048576) (hm : m ≤ 1048576) (hk : 1 ≤ k ∧ k ≤ 10000000)
    (hv1 : ∀ k, (Value.slice V n cp).ownBlock = some k → lo ≤ k ∧ k < hi) (hv2 : ∀ k, (Value.slice V' m cd).ownBlock = some k → lo ≤ k ∧ k < hi) :
    Calls Try.prog 13 #[.agg #[.slice V n cp, .slice V' m cd], .int .i64 k] w fun e w' => e = .returned (.int .i64 (k + 4 * n + m)) ∧ w'.ownsRow B 71 4 (.slice V n cp) n ((seqBx k n).map Bx.row).flatten ∧ OwnT w' B' (.slice V' m cd) m (seqT (k + 4 * n) m) ∧ KeptI lo hi w w' := by
  have ha0 := Blk.new' w 31 #[.slice V n cp, .slice V' m cd]
  have h1' : (w.alloc (.cells #[.slice V n cp, .slice V' m cd] 31)).ownsRow B 71 4 (.slice V n cp) n (bs.map Bx.row).flatten := row_alloc h1 _
  have h2' : OwnT (w.alloc (.cells #[.slice V n cp, .slice V' m cd] 31)) B' (.slice V' m cd) m ss := row_alloc h2 _
  have hap := Lib.hid (owns_apart h2' h1' (by decide))
  have hap2 := Lib.hid (fun k (e : (Value.slice V n cp).ownBlock = some k) (e' : (Value.slice V' m cd).ownBlock = some k) => hap.out k e' e)
  have hlt1 := Lib.hid h1.lt
  have HV1 := Lib.hid hv1
  have HV2 := Lib.hid hv2
  clear hv1 hv2
  go_enter Try.func13, Try.ntmps13
  go_wp2_with fail
  refine (markBoxS_any _ n B bs k _ h1' hn (by omega)).mono ?_
  rintro e1 w1 ⟨rfl, hm1, hg1⟩
  have a1 : _ = some (Value.slice V' m cd) := (ha0.grew hg1 (by intro e; have := (hlt1.out _ e).2; omega)).cell 1
  have h2'' : OwnT w1 B' (.slice V' m cd) m ss := kept_of_apart h2' hg1 hap.out
  clear ha0 h1' h2' h1 h2
  go_wp2_with fail
  refine (markStringS_any _ m B' ss _ _ h2'' hm (by omega)).mono ?_
  rintro e1 w2 ⟨rfl, hm2, hg2⟩
  clear a1
  go_wp2_with fail
  go_ret
  exact ⟨rfl, kept_of_apart hm1 hg2 hap2.out, hm2, ((KeptI.of_below ((Below.refl _ _).alloc (Nat.le_refl _) _)).trans (KeptI.of_grown hg1 HV1.out)).trans (KeptI.of_grown hg2 HV2.out)⟩
theorem heldSetting_any {A A' : Option Addr} {n cp m cd : Nat} {k : Int} {w : World} (hr : RBxs w w.heap.size A n (seqBx k n)) (hs : RStrs w w.heap.size A' m (seqT (k + 4 * n) m)) (hn : n ≤ 1048576) (hm : m ≤ 1048576) (hk : 1 ≤ k ∧ k ≤ 10000000) :
    Calls Try.prog 14 #[.agg #[.slice A n cp, .slice A' m cd], .int .i64 k] w fun e w' => e = .returned (.int .i64 (k + 4 * n + m)) ∧ Below w.heap.size w w' := by
  have hbW : Below w.heap.size w (w.alloc (.cells #[.slice A n cp, .slice A' m cd] 31)) := (Below.refl _ _).alloc (Nat.le_refl _) _
  have ha0 := Blk.new' w 31 #[.slice A n cp, .slice A' m cd]
  go_enter Try.func14, Try.ntmps14
  go_wp2_with fail
  refine (heldBoxS_any _ n _ k _ ((RBxs.below hr hbW).more hbW.size) hn (by omega)).mono ?_
  rintro e1 w1 ⟨rfl, hn1⟩
  have a1 : _ = some (Value.slice A' m cd) := (ha0.below hn1 ha0.lt).cell 1
  have hb1 := hbW.trans (hn1.mono hbW.size)
  clear ha0 hn1
  go_wp2_with fail
  refine (heldStringS_any _ m _ _ _ ((RStrs.below hs hb1).more hb1.size) hm (by omega)).mono ?_
  rintro e1 w2 ⟨rfl, hn2⟩
  clear a1
  go_wp2_with fail
  go_ret
  exact ⟨rfl, hb1.trans (hn2.mono hb1.size)⟩
end Go.Proofs.Ytfdmenhnejfhjaa
