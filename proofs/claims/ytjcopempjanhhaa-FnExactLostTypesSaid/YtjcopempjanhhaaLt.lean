/-
  Contracts: LostTypes.
-/
import Derived.Test.YtjcopempjanhhaaSe3
import Derived.Test.YtjcopempjanhhaaDi2
namespace Go.Proofs.Ytjcopempjanhhaa
open Go.RowKit
def subC (c : ByteArray) : List ByteArray → Int → Int
  | [], n => n
  | s :: r, n => subC c r (if eqS s c then n - 1 else n)
def codT : List Bx → List Bx → List ByteArray → List ByteArray
  | a :: r, b :: s, ss => if 0 < subC a.code ss (a.count - b.count) then a.code :: codT r s ss else codT r s ss
  | _, _, _ => []
def misT : List Bx → List Bx → List ByteArray → List Int
  | a :: r, b :: s, ss => if 0 < subC a.code ss (a.count - b.count) then subC a.code ss (a.count - b.count) :: misT r s ss else misT r s ss
  | _, _, _ => []
theorem codT_end {a b : List Bx} {ss : List ByteArray} (h : a = []) : codT a b ss = [] := by subst h; cases b <;> rfl
theorem misT_end {a b : List Bx} {ss : List ByteArray} (h : a = []) : misT a b ss = [] := by subst h; cases b <;> rfl
def ltG (xs bs : List Bx) (ss : List ByteArray) : Bool := caseB xs && (askB bs ss && alikeB xs bs)
def ltC (xs bs : List Bx) (ss : List ByteArray) : List ByteArray := if ltG xs bs ss then codT xs bs ss else []
def ltM (xs bs : List Bx) (ss : List ByteArray) : List Int := if ltG xs bs ss then misT xs bs ss else []
theorem ltG_two {xs bs : List Bx} {ss : List ByteArray} : ltG xs bs ss = (askB bs ss && twoB xs bs) := by
  rw [ltG, twoB, askB]
  cases caseB xs <;> cases caseB bs <;> cases alikeB xs bs <;> cases inL bs ss <;> simp
theorem ltG_true {xs bs : List Bx} {ss : List ByteArray} (h : ltG xs bs ss = true) : caseB xs = true ∧ caseB bs = true ∧ askB bs ss = true ∧ xs.length = bs.length := by
  rw [ltG_two, Bool.and_eq_true] at h
  obtain ⟨h1, h2, h3, _⟩ := twoB_true h.2
  exact ⟨h1, h2, h.1, h3⟩
theorem own_emptyT' (w : World) (B : Nat) (hB : B ≤ w.heap.size) : OwnT (w.alloc (.cells #[] 9)) B (.slice (some ⟨w.heap.size, 0, none⟩) 0 0) 0 [] :=
  (Blk.new' w 9 #[]).row (size := 1) (by simp) (by simp) hB
theorem ownT_app {w : World} {B n : Nat} {v : Value} {xs : List ByteArray} {z : ByteArray} (h : w.ownsRow B 9 1 v (n + 1) (xs.map Value.string ++ [.string z])) : OwnT w B v (n + 1) (xs ++ [z]) := by
  unfold OwnT
  rw [List.map_append]
  exact h
theorem ownT_nil (w : World) (B : Nat) : OwnT w B (.slice none 0 0) 0 [] := World.ownsRow_nil _ _ _ _
set_option maxRecDepth 100000 in
set_option maxHeartbeats 2000000 in
theorem lostTypes_spec {A A' A'' : Option Addr} {n cp m cp' q cd : Nat} {xs bs : List Bx} {ss : List ByteArray} {w : World} (hx : RBxs w w.heap.size A n xs) (hx0 : n ≤ 1048576) (hxc : n ≤ cp) (hxL : ∀ b ∈ xs, b.code.size ≤ 1048576) (hr : RBxs w w.heap.size A' m bs) (hn0 : m ≤ 1048576) (hcp : m ≤ cp') (hL : ∀ b ∈ bs, b.code.size ≤ 1048576) (hs : RStrs w w.heap.size A'' q ss) (hm0 : q ≤ 1048576) (_ : q ≤ cd) (_ : ∀ s ∈ ss, s.size ≤ 1048576) :
    Calls Try.prog 52 #[.slice A n cp, .agg #[.slice A' m cp', .slice A'' q cd]] w fun e w' => ∃ V N C U M E, e = .returned (.tuple #[.slice V N C, .slice U M E, .bool (ltG xs bs ss)]) ∧ OwnT w' w.heap.size (.slice V N C) N (ltC xs bs ss) ∧ Own w' w.heap.size (.slice U M E) M (ltM xs bs ss) ∧ N ≤ 1048576 ∧ M ≤ 1048576 ∧ Below w.heap.size w w' := by
  have hbW : Below w.heap.size w (w.alloc (.cells #[.slice A' m cp', .slice A'' q cd] 31)) := (Below.refl _ _).alloc (Nat.le_refl _) _
  have hst := Blk.new' w 31 #[.slice A' m cp', .slice A'' q cd]
  cases h1 : caseB xs
  · have HG := Lib.hid (show ltG xs bs ss = false by rw [ltG, h1]; rfl)
    go_enter Try.func52, Try.ntmps52
    have p0 : _ = some (Value.slice A' m cp') := hst.cell 0
    have p1 : _ = some (Value.slice A'' q cd) := hst.cell 1
    go_wp2_with fail
    refine (caGood_any ((RBxs.below hx hbW).more hbW.size) hx0 hxc hxL).mono ?_
    rintro e1 w1 ⟨rfl, hn⟩
    rw [h1]
    clear h1 p0 p1
    replace hst := hst.below hn hst.lt
    replace hbW := hbW.trans (hn.mono hbW.size)
    clear hn
    have p0 : _ = some (Value.slice A' m cp') := hst.cell 0
    have p1 : _ = some (Value.slice A'' q cd) := hst.cell 1
    go_wp2_with fail
    go_ret3
    exact ⟨none, 0, 0, none, 0, 0, by rw [HG.out]; rfl, by rw [ltC, HG.out]; exact ownT_nil _ _, by rw [ltM, HG.out]; exact own_nil _ _, by omega, by omega, hbW⟩
  cases h2 : askB bs ss
  · have HG := Lib.hid (show ltG xs bs ss = false by rw [ltG, h2]; simp)
    go_enter Try.func52, Try.ntmps52
    have p0 : _ = some (Value.slice A' m cp') := hst.cell 0
    have p1 : _ = some (Value.slice A'' q cd) := hst.cell 1
    go_wp2_with fail
    refine (caGood_any ((RBxs.below hx hbW).more hbW.size) hx0 hxc hxL).mono ?_
    rintro e1 w1 ⟨rfl, hn⟩
    rw [h1]
    clear h1 p0 p1
    replace hst := hst.below hn hst.lt
    replace hbW := hbW.trans (hn.mono hbW.size)
    clear hn
    have p0 : _ = some (Value.slice A' m cp') := hst.cell 0
    have p1 : _ = some (Value.slice A'' q cd) := hst.cell 1
    go_wp2_with fail
    refine (diGood_any ((RBxs.below hr hbW).more hbW.size) hn0 hcp hL ((RStrs.below hs hbW).more hbW.size) hm0).mono ?_
    rintro e1 w2 ⟨rfl, hn⟩
    rw [h2]
    clear h2 p0 p1
    replace hst := hst.below hn hst.lt
    replace hbW := hbW.trans (hn.mono hbW.size)
    clear hn
    have p0 : _ = some (Value.slice A' m cp') := hst.cell 0
    have p1 : _ = some (Value.slice A'' q cd) := hst.cell 1
    go_wp2_with fail
    go_ret3
    exact ⟨none, 0, 0, none, 0, 0, by rw [HG.out]; rfl, by rw [ltC, HG.out]; exact ownT_nil _ _, by rw [ltM, HG.out]; exact own_nil _ _, by omega, by omega, hbW⟩
  cases h3 : alikeB xs bs
  · have HG := Lib.hid (show ltG xs bs ss = false by rw [ltG, h3]; simp)
    go_enter Try.func52, Try.ntmps52
    have p0 : _ = some (Value.slice A' m cp') := hst.cell 0
    have p1 : _ = some (Value.slice A'' q cd) := hst.cell 1
    go_wp2_with fail
    refine (caGood_any ((RBxs.below hx hbW).more hbW.size) hx0 hxc hxL).mono ?_
    rintro e1 w1 ⟨rfl, hn⟩
    rw [h1]
    clear h1 p0 p1
    replace hst := hst.below hn hst.lt
    replace hbW := hbW.trans (hn.mono hbW.size)
    clear hn
    have p0 : _ = some (Value.slice A' m cp') := hst.cell 0
    have p1 : _ = some (Value.slice A'' q cd) := hst.cell 1
    go_wp2_with fail
    refine (diGood_any ((RBxs.below hr hbW).more hbW.size) hn0 hcp hL ((RStrs.below hs hbW).more hbW.size) hm0).mono ?_
    rintro e1 w2 ⟨rfl, hn⟩
    rw [h2]
    clear h2 p0 p1
    replace hst := hst.below hn hst.lt
    replace hbW := hbW.trans (hn.mono hbW.size)
    clear hn
    have p0 : _ = some (Value.slice A' m cp') := hst.cell 0
    have p1 : _ = some (Value.slice A'' q cd) := hst.cell 1
    go_wp2_with fail
    refine (diAlike_any ((RBxs.below hx hbW).more hbW.size) ((RBxs.below hr hbW).more hbW.size) hx0 hn0).mono ?_
    rintro e1 w3 ⟨rfl, hn⟩
    rw [h3]
    clear h3 p0 p1
    replace hst := hst.below hn hst.lt
    replace hbW := hbW.trans (hn.mono hbW.size)
    clear hn
    go_wp2_with fail
    go_ret3
    exact ⟨none, 0, 0, none, 0, 0, by rw [HG.out]; rfl, by rw [ltC, HG.out]; exact ownT_nil _ _, by rw [ltM, HG.out]; exact own_nil _ _, by omega, by omega, hbW⟩
  · have HG := Lib.hid (show ltG xs bs ss = true by rw [ltG, h1, h2, h3]; rfl)
    obtain ⟨g1, g2, g3, g4⟩ := ltG_true HG.out
    have HNM := Lib.hid (show n = m by have := hx.len; have := hr.len; omega)
    have HCX := Lib.hid (count_bd g1)
    have HCB := Lib.hid (count_bd g2)
    have hq60 : q ≤ 60 := by have := (askB_true g3).2.2; have := hs.len; omega
    have hn32 : n ≤ 32 := by have := (caseB_true g1).1; have := hx.len; omega
    have HL := Lib.hid hx.len
    have HLs := Lib.hid hs.len
    obtain ⟨i0, hi, hz0, hz1, hz2⟩ := info_parts info3
    obtain ⟨i9, hi9, hz90, hz91, hz92⟩ := info_parts info9
    clear g1 g2 g3 g4
    go_enter Try.func52, Try.ntmps52
    have p0 : _ = some (Value.slice A' m cp') := hst.cell 0
    have p1 : _ = some (Value.slice A'' q cd) := hst.cell 1
    go_wp2_with fail
    refine (caGood_any ((RBxs.below hx hbW).more hbW.size) hx0 hxc hxL).mono ?_
    rintro e1 w1 ⟨rfl, hn⟩
    rw [h1]
    clear h1 p0 p1
    replace hst := hst.below hn hst.lt
    replace hbW := hbW.trans (hn.mono hbW.size)
    clear hn
    have p0 : _ = some (Value.slice A' m cp') := hst.cell 0
    have p1 : _ = some (Value.slice A'' q cd) := hst.cell 1
    go_wp2_with fail
    refine (diGood_any ((RBxs.below hr hbW).more hbW.size) hn0 hcp hL ((RStrs.below hs hbW).more hbW.size) hm0).mono ?_
    rintro e1 w2 ⟨rfl, hn⟩
    rw [h2]
    clear h2 p0 p1
    replace hst := hst.below hn hst.lt
    replace hbW := hbW.trans (hn.mono hbW.size)
    clear hn
    have p0 : _ = some (Value.slice A' m cp') := hst.cell 0
    have p1 : _ = some (Value.slice A'' q cd) := hst.cell 1
    go_wp2_with fail
    refine (diAlike_any ((RBxs.below hx hbW).more hbW.size) ((RBxs.below hr hbW).more hbW.size) hx0 hn0).mono ?_
    rintro e1 w3 ⟨rfl, hn⟩
    rw [h3]
    clear h3 p0 p1
    replace hst := hst.below hn hst.lt
    replace hbW := hbW.trans (hn.mono hbW.size)
    clear hn
    have HXr := Lib.hid hx
    have HRr := Lib.hid hr
    have HSr := Lib.hid hs
    clear hx hr hs
    go_wp2_with fail
    go_loopw [7, 8, 31] (fun v7 v8 u wr => ∃ (k c1 c2 : Nat) (zs : List ByteArray) (ws : List Int), k ≤ n ∧ c1 ≤ k ∧ c2 ≤ k ∧ u = .int .i64 k ∧ OwnT wr (w.heap.size + 1) v7 c1 zs ∧ Own wr (w.heap.size + 1) v8 c2 ws ∧ zs ++ codT (xs.drop k) (bs.drop k) ss = codT xs bs ss ∧ ws ++ misT (xs.drop k) (bs.drop k) ss = misT xs bs ss ∧ Blk wr w.heap.size 31 [.slice A' m cp', .slice A'' q cd] ∧ Below w.heap.size w wr) (fun _ _ u _ => n - (intOf u).toNat)
    case atStart => exact ⟨0, 0, 0, [], [], Nat.zero_le _, Nat.zero_le _, Nat.zero_le _, rfl, ownT_nil _ _, own_nil _ _, rfl, rfl, hst, hbW⟩
    case round =>
      clear hst hbW
      obtain ⟨k, c1, c2, zs, ws, hk, hk1, hk2, rfl, ho7, ho8, hZ, hW, hst, hb⟩ := hrel
      have HO7 := Lib.hid ho7
      have HO8 := Lib.hid ho8
      have hstl := hst.lt
      by_cases hlt : k < n
      · obtain ⟨b1, o1, a, rfl, _, hd, hy, x0, x1, x2, x3⟩ := RBxs.at_ (RBxs.below HXr.out hb) hlt
        obtain ⟨b2, o2, b, rfl, hb2l, hd2, hy2, y0, y1, y2, y3⟩ := RBxs.at_ (RBxs.below HRr.out hb) (show k < m by have := HNM.out; omega)
        have hac := HCX.out a (List.mem_of_getElem? hy)
        have hbc := HCB.out b (List.mem_of_getElem? hy2)
        rw [hd, hd2, codT] at hZ
        rw [hd, hd2, misT] at hW
        have HZ := Lib.hid hZ
        have HW := Lib.hid hW
        clear hZ hW hd hd2 hy hy2
        have hbox := Blk.new' wr 98 #[.string a.code, .int .i64 a.line, .int .i64 a.column, .int .i64 a.count]
        have hsa := hst.alloc (.cells #[.string a.code, .int .i64 a.line, .int .i64 a.column, .int .i64 a.count] 98)
        have q0 : ∀ y : Later (wr.heap.size + 1) (wr.alloc (.cells #[.string a.code, .int .i64 a.line, .int .i64 a.column, .int .i64 a.count] 98)), y.wx.cell? ⟨wr.heap.size, 3, none⟩ = some (.int .i64 a.count) := fun y => y.cell (by omega) (hbox.cell 3)
        have q1 : ∀ y : Later (wr.heap.size + 1) (wr.alloc (.cells #[.string a.code, .int .i64 a.line, .int .i64 a.column, .int .i64 a.count] 98)), y.wx.cell? ⟨w.heap.size, 0, none⟩ = some (.slice (some ⟨b2, o2, none⟩) m cp') := fun y => y.cell (by omega) (hsa.cell 0)
        have q2 : ∀ y : Later (wr.heap.size + 1) (wr.alloc (.cells #[.string a.code, .int .i64 a.line, .int .i64 a.column, .int .i64 a.count] 98)), y.wx.cell? ⟨b2, o2 + k * 4 + 3, none⟩ = some (.int .i64 b.count) := fun y => y.cell (by omega) ((World.cell?_alloc_lt _ _ _ (by simp only []; omega)).trans y3)
        have ew : IntKind.i64.wrap (a.count - b.count) = a.count - b.count := wrapI (by omega) (by omega)
        have l0 : (0 : Int) ≤ (k : Int) := by omega
        have l1 : (k : Int) < (n : Int) := by omega
        have l2 : (k : Int) < (m : Int) := by have := HNM.out; omega
        go_wp2_with fail
        refine quiet_start (wr.heap.size + 1) (by kernel_rfl) (by kernel_rfl) ?_; (repeat (go_big_quiet_step (fail))); refine wpQuiet_nil ?_; rintro wx ⟨⟨wy, hn⟩, rfl⟩; (try dsimp only)
        clear q0 q1 q2 x0 x1 x2 x3 y0 y1 y2 y3
        have hbx := (hb.alloc hb.size (.cells #[.string a.code, .int .i64 a.line, .int .i64 a.column, .int .i64 a.count] 98)).trans (hn.mono (by have := hb.size; omega))
        have hstx := hsa.below hn (by omega)
        have hboxx := hbox.below hn (by omega)
        have ho7x := row_below (row_alloc HO7.out (.cells #[.string a.code, .int .i64 a.line, .int .i64 a.column, .int .i64 a.count] 98)) hn (fun e he => by have := (HO7.out.lt e he).2; omega)
        have ho8x := row_below (row_alloc HO8.out (.cells #[.string a.code, .int .i64 a.line, .int .i64 a.column, .int .i64 a.count] 98)) hn (fun e he => by have := (HO8.out.lt e he).2; omega)
        have hsx : wr.heap.size + 1 ≤ wx.heap.size := by have := hn.size; simp at this; omega
        have HSx := Lib.hid ((RStrs.below HSr.out hbx).more hbx.size)
        clear hn hbox hsa hst hb ho7 ho8
        have p1 : _ = some (Value.slice A'' q cd) := hstx.cell 1
        have p0 : _ = some (Value.string a.code) := hboxx.cell 0
        have H7 := Lib.hid ho7x
        have H8 := Lib.hid ho8x
        clear ho7x ho8x
        go_wp2_with fail
        go_loop [11, 48] (fun v u => ∃ (j : Nat) (t : Int), j ≤ q ∧ u = .int .i64 j ∧ v = .int .i64 t ∧ a.count - b.count - j ≤ t ∧ t ≤ a.count - b.count ∧ subC a.code (ss.drop j) t = subC a.code ss (a.count - b.count)) (fun _ u => q - (intOf u).toNat)
        case atStart => exact ⟨0, a.count - b.count, Nat.zero_le _, rfl, rfl, by omega, by omega, rfl⟩
        case round =>
          obtain ⟨j, t, hj, rfl, rfl, t0, t1, hT⟩ := hrel
          by_cases hjq : j < q
          · obtain ⟨ad, s, rfl, _, hds, _, hcs⟩ := RStrs.at_ HSx.out hjq
            have HT := Lib.hid (show subC a.code (ss.drop (j + 1)) (if eqS s a.code then t - 1 else t) = subC a.code ss (a.count - b.count) by rw [← hT, hds, subC])
            clear hT hds
            cases h : eqS s a.code
            · have e1 : (s.toList == a.code.toList) = false := h
              have H := Lib.hid h
              clear h
              go_wp2_with fail
              go_round
              case rel => exact ⟨j + 1, t, by omega, by go_num, rfl, by omega, by omega, by rw [← HT.out, H.out]; rfl⟩
              case measure => simp [intOf]; omega
            · have e1 : (s.toList == a.code.toList) = true := h
              have H := Lib.hid h
              clear h
              go_wp2_with fail
              go_round
              case rel => exact ⟨j + 1, t - 1, by omega, by go_num, rfl, by omega, by omega, by rw [← HT.out, H.out]; rfl⟩
              case measure => simp [intOf]; omega
          · have HT := Lib.hid (show subC a.code ss (a.count - b.count) = t by rw [← hT, drop_end HLs.out hjq]; rfl)
            clear hT
            rcases (by omega : 0 < t ∨ t ≤ 0) with ht | ht
            · have HZ2 := Lib.hid (show (zs ++ [a.code]) ++ codT (xs.drop (k + 1)) (bs.drop (k + 1)) ss = codT xs bs ss by rw [← HZ.out, HT.out, if_pos ht, List.append_assoc]; rfl)
              have HW2 := Lib.hid (show (ws ++ [t]) ++ misT (xs.drop (k + 1)) (bs.drop (k + 1)) ss = misT xs bs ss by rw [← HW.out, HT.out, if_pos ht, List.append_assoc]; rfl)
              go_wp2_with (at_builtin; refine wpList_append_own _ rfl (.tmp 61) (.tmp 64) 24 rfl (w.heap.size + 1) 9 i9 (.string ⟨#[]⟩) 1 16 Try.underlying24 hi9 hz90 hz91 hz92 rfl (by decide) _ c1 _ rfl (row_alloc H7.out _) _ 1 1 [.string a.code] rfl rfl (new_one _ _ rfl _ _) (by intro u hu; simp at hu; subst hu; rfl) (by unfold maxLen; omega) (by omega) (by simp <;> omega) ?_)
              intro v7' w5 hown7 hgr7 _
              have hk7 := below_grown (row_alloc H7.out (.cells #[.string a.code] 9)) (by simp <;> omega) hgr7
              have HN7 := Lib.hid (ownT_app hown7)
              have HK8 := Lib.hid (kept_of_apart (row_alloc H8.out (.cells #[.string a.code] 9)) hgr7 (owns_apart H8.out H7.out (by decide)))
              have hb5 := (hbx.alloc hbx.size (.cells #[.string a.code] 9)).trans (hk7.mono (by omega))
              have hst5 := (hstx.alloc (.cells #[.string a.code] 9)).below hk7 (by omega)
              have hs5 : w.heap.size + 1 ≤ w5.heap.size := hst5.lt
              clear hown7 hgr7 hk7 p0 p1
              go_wp2_with (at_builtin; refine wpList_append_own _ rfl (.tmp 66) (.tmp 68) 45 rfl (w.heap.size + 1) 3 i0 (.int .i64 0) 1 8 Try.underlying45 hi hz0 hz1 hz2 rfl (by decide) _ c2 _ rfl (row_alloc HK8.out _) _ 1 1 [.int .i64 t] rfl rfl (new_one _ _ rfl _ _) (by intro u hu; simp at hu; subst hu; rfl) (by unfold maxLen; omega) (by omega) (by simp <;> omega) ?_)
              intro v8' w6 hown8 hgr8 _
              have hk8 := below_grown (row_alloc HK8.out (.cells #[.int .i64 t] 3)) (by simp <;> omega) hgr8
              have HN8 := Lib.hid (own_app hown8)
              have HK7 := Lib.hid (kept_of_apart (row_alloc HN7.out (.cells #[.int .i64 t] 3)) hgr8 (owns_apart HN7.out HK8.out (by decide)))
              have hb6 := (hb5.alloc hb5.size (.cells #[.int .i64 t] 3)).trans (hk8.mono (by omega))
              have hst6 := (hst5.alloc (.cells #[.int .i64 t] 3)).below hk8 (by omega)
              clear hown8 hgr8 hk8
              go_wp2_with fail
              go_roundw
              case rel => exact ⟨k + 1, c1 + 1, c2 + 1, _, _, by omega, by omega, by omega, by go_num, HK7.out, HN8.out, HZ2.out, HW2.out, hst6, hb6⟩
              case measure => simp [intOf]; omega
            · have HZ2 := Lib.hid (show zs ++ codT (xs.drop (k + 1)) (bs.drop (k + 1)) ss = codT xs bs ss by rw [← HZ.out, HT.out, if_neg (by omega)])
              have HW2 := Lib.hid (show ws ++ misT (xs.drop (k + 1)) (bs.drop (k + 1)) ss = misT xs bs ss by rw [← HW.out, HT.out, if_neg (by omega)])
              go_wp2_with fail
              go_roundw
              case rel => exact ⟨k + 1, c1, c2, _, _, by omega, by omega, by omega, by go_num, H7.out, H8.out, HZ2.out, HW2.out, hstx, hbx⟩
              case measure => simp [intOf]; omega
      · have HZ := Lib.hid (show zs = codT xs bs ss by rw [← hZ, codT_end (drop_end HL.out hlt), List.append_nil])
        have HW := Lib.hid (show ws = misT xs bs ss by rw [← hW, misT_end (drop_end HL.out hlt), List.append_nil])
        obtain ⟨V, C, rfl⟩ := own_slice ho7
        obtain ⟨U, E, rfl⟩ := own_slice ho8
        clear ho7 ho8 hZ hW
        go_wp2_with fail
        go_ret3
        refine ⟨V, c1, C, U, c2, E, by rw [HG.out]; rfl, ?_, ?_, by omega, by omega, hb⟩
        · rw [ltC, HG.out, if_pos rfl, ← HZ.out]
          exact row_lower HO7.out (by omega)
        · rw [ltM, HG.out, if_pos rfl, ← HW.out]
          exact own_lower HO8.out (by omega)
set_option maxRecDepth 100000 in
set_option maxHeartbeats 2000000 in
theorem lostTypes_impl {A A' A'' : Option Addr} {n cp m cp' q cd : Nat} {xs bs : List Bx} {ss : List ByteArray} {w : World} (hx : RBxs w w.heap.size A n xs) (hx0 : n ≤ 1048576) (hxc : n ≤ cp) (hxL : ∀ b ∈ xs, b.code.size ≤ 1048576) (hr : RBxs w w.heap.size A' m bs) (hn0 : m ≤ 1048576) (hcp : m ≤ cp') (hL : ∀ b ∈ bs, b.code.size ≤ 1048576) (hs : RStrs w w.heap.size A'' q ss) (hm0 : q ≤ 1048576) (_ : q ≤ cd) (_ : ∀ s ∈ ss, s.size ≤ 1048576) :
    Calls Try.prog 53 #[.slice A n cp, .agg #[.slice A' m cp', .slice A'' q cd]] w fun e w' => ∃ V N C U M E, e = .returned (.tuple #[.slice V N C, .slice U M E, .bool (ltG xs bs ss)]) ∧ OwnT w' w.heap.size (.slice V N C) N (ltC xs bs ss) ∧ Own w' w.heap.size (.slice U M E) M (ltM xs bs ss) ∧ N ≤ 1048576 ∧ M ≤ 1048576 ∧ Below w.heap.size w w' := by
  have hbW : Below w.heap.size w (w.alloc (.cells #[.slice A' m cp', .slice A'' q cd] 31)) := (Below.refl _ _).alloc (Nat.le_refl _) _
  have hst := Blk.new' w 31 #[.slice A' m cp', .slice A'' q cd]
  cases h2 : askB bs ss
  · have HG := Lib.hid (show ltG xs bs ss = false by rw [ltG_two, h2]; rfl)
    go_enter Try.func53, Try.ntmps53
    have p0 : _ = some (Value.slice A' m cp') := hst.cell 0
    have p1 : _ = some (Value.slice A'' q cd) := hst.cell 1
    go_wp2_with fail
    refine (isSetting_any ((RBxs.below hr hbW).more hbW.size) hn0 hcp hL ((RStrs.below hs hbW).more hbW.size) hm0).mono ?_
    rintro e1 w2 ⟨rfl, hn⟩
    rw [h2]
    clear h2 p0 p1
    replace hst := hst.below hn hst.lt
    replace hbW := hbW.trans (hn.mono hbW.size)
    clear hn
    have p0 : _ = some (Value.slice A' m cp') := hst.cell 0
    have p1 : _ = some (Value.slice A'' q cd) := hst.cell 1
    go_wp2_with fail
    go_ret3
    exact ⟨some ⟨w2.heap.size, 0, none⟩, 0, 0, some ⟨(w2.alloc (.cells #[] 9)).heap.size, 0, none⟩, 0, 0, by rw [HG.out]; simp, by rw [ltC, HG.out]; exact row_alloc (own_emptyT' w2 w.heap.size hbW.size) _, by rw [ltM, HG.out]; exact own_empty (w2.alloc (.cells #[] 9)) w.heap.size (by have := hbW.size; simp; omega), by omega, by omega, (hbW.alloc hbW.size _).alloc (by have := hbW.size; simp; omega) _⟩
  cases h3 : twoB xs bs
  · have HG := Lib.hid (show ltG xs bs ss = false by rw [ltG_two, h3]; simp)
    go_enter Try.func53, Try.ntmps53
    have p0 : _ = some (Value.slice A' m cp') := hst.cell 0
    have p1 : _ = some (Value.slice A'' q cd) := hst.cell 1
    go_wp2_with fail
    refine (isSetting_any ((RBxs.below hr hbW).more hbW.size) hn0 hcp hL ((RStrs.below hs hbW).more hbW.size) hm0).mono ?_
    rintro e1 w2 ⟨rfl, hn⟩
    rw [h2]
    clear h2 p0 p1
    replace hst := hst.below hn hst.lt
    replace hbW := hbW.trans (hn.mono hbW.size)
    clear hn
    have p0 : _ = some (Value.slice A' m cp') := hst.cell 0
    have p1 : _ = some (Value.slice A'' q cd) := hst.cell 1
    go_wp2_with fail
    refine (areAlike_any ((RBxs.below hx hbW).more hbW.size) ((RBxs.below hr hbW).more hbW.size) hx0 hn0 hxc hcp hxL hL).mono ?_
    rintro e1 w3 ⟨rfl, hn⟩
    rw [h3]
    clear h3 p0 p1
    replace hst := hst.below hn hst.lt
    replace hbW := hbW.trans (hn.mono hbW.size)
    clear hn
    go_wp2_with fail
    go_ret3
    exact ⟨some ⟨w3.heap.size, 0, none⟩, 0, 0, some ⟨(w3.alloc (.cells #[] 9)).heap.size, 0, none⟩, 0, 0, by rw [HG.out]; simp, by rw [ltC, HG.out]; exact row_alloc (own_emptyT' w3 w.heap.size hbW.size) _, by rw [ltM, HG.out]; exact own_empty (w3.alloc (.cells #[] 9)) w.heap.size (by have := hbW.size; simp; omega), by omega, by omega, (hbW.alloc hbW.size _).alloc (by have := hbW.size; simp; omega) _⟩
  · have HG := Lib.hid (show ltG xs bs ss = true by rw [ltG_two, h2, h3]; rfl)
    obtain ⟨g1, g2, g3, g4⟩ := ltG_true HG.out
    have HNM := Lib.hid (show n = m by have := hx.len; have := hr.len; omega)
    have HCX := Lib.hid (count_bd g1)
    have HCB := Lib.hid (count_bd g2)
    have hq60 : q ≤ 60 := by have := (askB_true g3).2.2; have := hs.len; omega
    have hn32 : n ≤ 32 := by have := (caseB_true g1).1; have := hx.len; omega
    have HL := Lib.hid hx.len
    have HLs := Lib.hid hs.len
    obtain ⟨i0, hi, hz0, hz1, hz2⟩ := info_parts info3
    obtain ⟨i9, hi9, hz90, hz91, hz92⟩ := info_parts info9
    clear g1 g2 g3 g4
    go_enter Try.func53, Try.ntmps53
    have p0 : _ = some (Value.slice A' m cp') := hst.cell 0
    have p1 : _ = some (Value.slice A'' q cd) := hst.cell 1
    go_wp2_with fail
    refine (isSetting_any ((RBxs.below hr hbW).more hbW.size) hn0 hcp hL ((RStrs.below hs hbW).more hbW.size) hm0).mono ?_
    rintro e1 w2 ⟨rfl, hn⟩
    rw [h2]
    clear h2 p0 p1
    replace hst := hst.below hn hst.lt
    replace hbW := hbW.trans (hn.mono hbW.size)
    clear hn
    have p0 : _ = some (Value.slice A' m cp') := hst.cell 0
    have p1 : _ = some (Value.slice A'' q cd) := hst.cell 1
    go_wp2_with fail
    refine (areAlike_any ((RBxs.below hx hbW).more hbW.size) ((RBxs.below hr hbW).more hbW.size) hx0 hn0 hxc hcp hxL hL).mono ?_
    rintro e1 w3 ⟨rfl, hn⟩
    rw [h3]
    clear h3 p0 p1
    replace hst := hst.below hn hst.lt
    replace hbW := hbW.trans (hn.mono hbW.size)
    clear hn
    have HXr := Lib.hid hx
    have HRr := Lib.hid hr
    have HSr := Lib.hid hs
    clear hx hr hs
    have hsz := hst.lt
    have h7 : OwnT ((w3.alloc (.cells #[] 9)).alloc (.cells #[] 3)) (w.heap.size + 1) _ 0 [] := row_alloc (own_emptyT' w3 (w.heap.size + 1) (by omega)) _
    have h8 : Own ((w3.alloc (.cells #[] 9)).alloc (.cells #[] 3)) (w.heap.size + 1) (.slice (some ⟨w3.heap.size + 1, 0, none⟩) 0 0) 0 [] := by simpa using own_empty (w3.alloc (.cells #[] 9)) (w.heap.size + 1) (by simp; omega)
    replace hst := (hst.alloc (.cells #[] 9)).alloc (.cells #[] 3)
    replace hbW := (hbW.alloc hbW.size (.cells #[] 9)).alloc (by have := hbW.size; simp; omega) (.cells #[] 3)
    go_wp2_with fail
    go_loopw [7, 8, 30] (fun v7 v8 u wr => ∃ (k c1 c2 : Nat) (zs : List ByteArray) (ws : List Int), k ≤ n ∧ c1 ≤ k ∧ c2 ≤ k ∧ u = .int .i64 k ∧ OwnT wr (w.heap.size + 1) v7 c1 zs ∧ Own wr (w.heap.size + 1) v8 c2 ws ∧ zs ++ codT (xs.drop k) (bs.drop k) ss = codT xs bs ss ∧ ws ++ misT (xs.drop k) (bs.drop k) ss = misT xs bs ss ∧ Blk wr w.heap.size 31 [.slice A' m cp', .slice A'' q cd] ∧ Below w.heap.size w wr) (fun _ _ u _ => n - (intOf u).toNat)
    case atStart => exact ⟨0, 0, 0, [], [], Nat.zero_le _, Nat.zero_le _, Nat.zero_le _, rfl, h7, h8, rfl, rfl, hst, hbW⟩
    case round =>
      clear hst hbW h7 h8 hsz
      obtain ⟨k, c1, c2, zs, ws, hk, hk1, hk2, rfl, ho7, ho8, hZ, hW, hst, hb⟩ := hrel
      have HO7 := Lib.hid ho7
      have HO8 := Lib.hid ho8
      have hstl := hst.lt
      by_cases hlt : k < n
      · obtain ⟨b1, o1, a, rfl, _, hd, hy, x0, x1, x2, x3⟩ := RBxs.at_ (RBxs.below HXr.out hb) hlt
        obtain ⟨b2, o2, b, rfl, hb2l, hd2, hy2, y0, y1, y2, y3⟩ := RBxs.at_ (RBxs.below HRr.out hb) (show k < m by have := HNM.out; omega)
        have hac := HCX.out a (List.mem_of_getElem? hy)
        have hbc := HCB.out b (List.mem_of_getElem? hy2)
        rw [hd, hd2, codT] at hZ
        rw [hd, hd2, misT] at hW
        have HZ := Lib.hid hZ
        have HW := Lib.hid hW
        clear hZ hW hd hd2 hy hy2
        have hbox := Blk.new' wr 98 #[.string a.code, .int .i64 a.line, .int .i64 a.column, .int .i64 a.count]
        have hsa := hst.alloc (.cells #[.string a.code, .int .i64 a.line, .int .i64 a.column, .int .i64 a.count] 98)
        have q0 : ∀ y : Later (wr.heap.size + 1) (wr.alloc (.cells #[.string a.code, .int .i64 a.line, .int .i64 a.column, .int .i64 a.count] 98)), y.wx.cell? ⟨wr.heap.size, 3, none⟩ = some (.int .i64 a.count) := fun y => y.cell (by omega) (hbox.cell 3)
        have q1 : ∀ y : Later (wr.heap.size + 1) (wr.alloc (.cells #[.string a.code, .int .i64 a.line, .int .i64 a.column, .int .i64 a.count] 98)), y.wx.cell? ⟨w.heap.size, 0, none⟩ = some (.slice (some ⟨b2, o2, none⟩) m cp') := fun y => y.cell (by omega) (hsa.cell 0)
        have q2 : ∀ y : Later (wr.heap.size + 1) (wr.alloc (.cells #[.string a.code, .int .i64 a.line, .int .i64 a.column, .int .i64 a.count] 98)), y.wx.cell? ⟨b2, o2 + k * 4 + 3, none⟩ = some (.int .i64 b.count) := fun y => y.cell (by omega) ((World.cell?_alloc_lt _ _ _ (by simp only []; omega)).trans y3)
        have ew : IntKind.i64.wrap (a.count - b.count) = a.count - b.count := wrapI (by omega) (by omega)
        have l0 : (0 : Int) ≤ (k : Int) := by omega
        have l1 : (k : Int) < (n : Int) := by omega
        have l2 : (k : Int) < (m : Int) := by have := HNM.out; omega
        go_wp2_with fail
        refine quiet_start (wr.heap.size + 1) (by kernel_rfl) (by kernel_rfl) ?_; (repeat (go_big_quiet_step (fail))); refine wpQuiet_nil ?_; rintro wx ⟨⟨wy, hn⟩, rfl⟩; (try dsimp only)
        clear q0 q1 q2 x0 x1 x2 x3 y0 y1 y2 y3
        have hbx := (hb.alloc hb.size (.cells #[.string a.code, .int .i64 a.line, .int .i64 a.column, .int .i64 a.count] 98)).trans (hn.mono (by have := hb.size; omega))
        have hstx := hsa.below hn (by omega)
        have hboxx := hbox.below hn (by omega)
        have ho7x := row_below (row_alloc HO7.out (.cells #[.string a.code, .int .i64 a.line, .int .i64 a.column, .int .i64 a.count] 98)) hn (fun e he => by have := (HO7.out.lt e he).2; omega)
        have ho8x := row_below (row_alloc HO8.out (.cells #[.string a.code, .int .i64 a.line, .int .i64 a.column, .int .i64 a.count] 98)) hn (fun e he => by have := (HO8.out.lt e he).2; omega)
        have hsx : wr.heap.size + 1 ≤ wx.heap.size := by have := hn.size; simp at this; omega
        have HSx := Lib.hid ((RStrs.below HSr.out hbx).more hbx.size)
        clear hn hbox hsa hst hb ho7 ho8
        have p1 : _ = some (Value.slice A'' q cd) := hstx.cell 1
        have p0 : _ = some (Value.string a.code) := hboxx.cell 0
        have H7 := Lib.hid ho7x
        have H8 := Lib.hid ho8x
        clear ho7x ho8x
        go_wp2_with fail
        go_loop [11, 47] (fun v u => ∃ (j : Nat) (t : Int), j ≤ q ∧ u = .int .i64 j ∧ v = .int .i64 t ∧ a.count - b.count - j ≤ t ∧ t ≤ a.count - b.count ∧ subC a.code (ss.drop j) t = subC a.code ss (a.count - b.count)) (fun _ u => q - (intOf u).toNat)
        case atStart => exact ⟨0, a.count - b.count, Nat.zero_le _, rfl, rfl, by omega, by omega, rfl⟩
        case round =>
          obtain ⟨j, t, hj, rfl, rfl, t0, t1, hT⟩ := hrel
          by_cases hjq : j < q
          · obtain ⟨ad, s, rfl, _, hds, _, hcs⟩ := RStrs.at_ HSx.out hjq
            have HT := Lib.hid (show subC a.code (ss.drop (j + 1)) (if eqS s a.code then t - 1 else t) = subC a.code ss (a.count - b.count) by rw [← hT, hds, subC])
            clear hT hds
            cases h : eqS s a.code
            · have e1 : (s.toList == a.code.toList) = false := h
              have H := Lib.hid h
              clear h
              go_wp2_with fail
              go_round
              case rel => exact ⟨j + 1, t, by omega, by go_num, rfl, by omega, by omega, by rw [← HT.out, H.out]; rfl⟩
              case measure => simp [intOf]; omega
            · have e1 : (s.toList == a.code.toList) = true := h
              have H := Lib.hid h
              clear h
              go_wp2_with fail
              go_round
              case rel => exact ⟨j + 1, t - 1, by omega, by go_num, rfl, by omega, by omega, by rw [← HT.out, H.out]; rfl⟩
              case measure => simp [intOf]; omega
          · have HT := Lib.hid (show subC a.code ss (a.count - b.count) = t by rw [← hT, drop_end HLs.out hjq]; rfl)
            clear hT
            rcases (by omega : 0 < t ∨ t ≤ 0) with ht | ht
            · have HZ2 := Lib.hid (show (zs ++ [a.code]) ++ codT (xs.drop (k + 1)) (bs.drop (k + 1)) ss = codT xs bs ss by rw [← HZ.out, HT.out, if_pos ht, List.append_assoc]; rfl)
              have HW2 := Lib.hid (show (ws ++ [t]) ++ misT (xs.drop (k + 1)) (bs.drop (k + 1)) ss = misT xs bs ss by rw [← HW.out, HT.out, if_pos ht, List.append_assoc]; rfl)
              go_wp2_with (at_builtin; refine wpList_append_own _ rfl (.tmp 60) (.tmp 63) 24 rfl (w.heap.size + 1) 9 i9 (.string ⟨#[]⟩) 1 16 Try.underlying24 hi9 hz90 hz91 hz92 rfl (by decide) _ c1 _ rfl (row_alloc H7.out _) _ 1 1 [.string a.code] rfl rfl (new_one _ _ rfl _ _) (by intro u hu; simp at hu; subst hu; rfl) (by unfold maxLen; omega) (by omega) (by simp <;> omega) ?_)
              intro v7' w5 hown7 hgr7 _
              have hk7 := below_grown (row_alloc H7.out (.cells #[.string a.code] 9)) (by simp <;> omega) hgr7
              have HN7 := Lib.hid (ownT_app hown7)
              have HK8 := Lib.hid (kept_of_apart (row_alloc H8.out (.cells #[.string a.code] 9)) hgr7 (owns_apart H8.out H7.out (by decide)))
              have hb5 := (hbx.alloc hbx.size (.cells #[.string a.code] 9)).trans (hk7.mono (by omega))
              have hst5 := (hstx.alloc (.cells #[.string a.code] 9)).below hk7 (by omega)
              have hs5 : w.heap.size + 1 ≤ w5.heap.size := hst5.lt
              clear hown7 hgr7 hk7 p0 p1
              go_wp2_with (at_builtin; refine wpList_append_own _ rfl (.tmp 65) (.tmp 67) 45 rfl (w.heap.size + 1) 3 i0 (.int .i64 0) 1 8 Try.underlying45 hi hz0 hz1 hz2 rfl (by decide) _ c2 _ rfl (row_alloc HK8.out _) _ 1 1 [.int .i64 t] rfl rfl (new_one _ _ rfl _ _) (by intro u hu; simp at hu; subst hu; rfl) (by unfold maxLen; omega) (by omega) (by simp <;> omega) ?_)
              intro v8' w6 hown8 hgr8 _
              have hk8 := below_grown (row_alloc HK8.out (.cells #[.int .i64 t] 3)) (by simp <;> omega) hgr8
              have HN8 := Lib.hid (own_app hown8)
              have HK7 := Lib.hid (kept_of_apart (row_alloc HN7.out (.cells #[.int .i64 t] 3)) hgr8 (owns_apart HN7.out HK8.out (by decide)))
              have hb6 := (hb5.alloc hb5.size (.cells #[.int .i64 t] 3)).trans (hk8.mono (by omega))
              have hst6 := (hst5.alloc (.cells #[.int .i64 t] 3)).below hk8 (by omega)
              clear hown8 hgr8 hk8
              go_wp2_with fail
              go_roundw
              case rel => exact ⟨k + 1, c1 + 1, c2 + 1, _, _, by omega, by omega, by omega, by go_num, HK7.out, HN8.out, HZ2.out, HW2.out, hst6, hb6⟩
              case measure => simp [intOf]; omega
            · have HZ2 := Lib.hid (show zs ++ codT (xs.drop (k + 1)) (bs.drop (k + 1)) ss = codT xs bs ss by rw [← HZ.out, HT.out, if_neg (by omega)])
              have HW2 := Lib.hid (show ws ++ misT (xs.drop (k + 1)) (bs.drop (k + 1)) ss = misT xs bs ss by rw [← HW.out, HT.out, if_neg (by omega)])
              go_wp2_with fail
              go_roundw
              case rel => exact ⟨k + 1, c1, c2, _, _, by omega, by omega, by omega, by go_num, H7.out, H8.out, HZ2.out, HW2.out, hstx, hbx⟩
              case measure => simp [intOf]; omega
      · have HZ := Lib.hid (show zs = codT xs bs ss by rw [← hZ, codT_end (drop_end HL.out hlt), List.append_nil])
        have HW := Lib.hid (show ws = misT xs bs ss by rw [← hW, misT_end (drop_end HL.out hlt), List.append_nil])
        obtain ⟨V, C, rfl⟩ := own_slice ho7
        obtain ⟨U, E, rfl⟩ := own_slice ho8
        clear ho7 ho8 hZ hW
        go_wp2_with fail
        go_ret3
        refine ⟨V, c1, C, U, c2, E, by rw [HG.out]; rfl, ?_, ?_, by omega, by omega, hb⟩
        · rw [ltC, HG.out, if_pos rfl, ← HZ.out]
          exact row_lower HO7.out (by omega)
        · rw [ltM, HG.out, if_pos rfl, ← HW.out]
          exact own_lower HO8.out (by omega)
end Go.Proofs.Ytjcopempjanhhaa
