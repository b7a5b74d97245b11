/-
  Contracts: types are taken out of a case or put into it.
-/
import Derived.Test.YtfdmenhnejfhjaaSe2
namespace Go.Proofs.Ytfdmenhnejfhjaa
open Go.RowKit
def addC (by_ : Int) (bs : List Bx) (i : Nat) : List Bx := match bs[i]? with
  | some b => bs.set i ⟨b.code, b.line, b.column, b.count + by_⟩
  | none => bs
def movF (by_ : Int) : List ByteArray → List Bx → List Bx
  | [], l => l
  | s :: r, l => movF by_ r (addC by_ l (findL s l 0).toNat)
theorem addC_some {by_ : Int} {bs : List Bx} {i : Nat} {b : Bx} (h : bs[i]? = some b) : addC by_ bs i = bs.set i ⟨b.code, b.line, b.column, b.count + by_⟩ := by rw [addC, h]
theorem set_get_self {α : Type _} (l : List α) (i : Nat) (x : α) (h : l[i]? = some x) : l.set i x = l := by
  apply List.ext_getElem?
  intro j
  rw [List.getElem?_set]
  split
  · rename_i e
    subst e
    rw [if_pos (List.getElem?_eq_some_iff.1 h).1, h]
  · rfl
theorem addC_codes {by_ : Int} {bs : List Bx} {i : Nat} : (addC by_ bs i).map Bx.code = bs.map Bx.code := by
  rw [addC]
  split
  · rename_i b h
    rw [List.map_set]
    exact set_get_self _ _ _ (by rw [List.getElem?_map, h]; rfl)
  · rfl
theorem findL_codes {c : ByteArray} : ∀ {bs l : List Bx} {i : Int}, l.map Bx.code = bs.map Bx.code → findL c l i = findL c bs i
  | [], [], _, _ => rfl
  | [], _ :: _, _, h => by simp at h
  | _ :: _, [], _, h => by simp at h
  | b :: r, b' :: r', i, h => by
    simp only [List.map_cons, List.cons.injEq] at h
    rw [findL, findL, h.1, findL_codes h.2]
theorem len_codes {bs l : List Bx} (h : l.map Bx.code = bs.map Bx.code) : l.length = bs.length := by
  have := congrArg List.length h
  simpa using this
theorem mem_codes {bs l : List Bx} {P : ByteArray → Prop} (h : l.map Bx.code = bs.map Bx.code) (hp : ∀ b ∈ bs, P b.code) : ∀ b ∈ l, P b.code := by
  intro b hb
  have h1 : b.code ∈ bs.map Bx.code := by rw [← h]; exact List.mem_map.2 ⟨b, hb, rfl⟩
  obtain ⟨b', h2, h3⟩ := List.mem_map.1 h1
  rw [← h3]
  exact hp b' h2
theorem addC_count {by_ : Int} {bs : List Bx} {i k : Nat} (hby : by_ = 1 ∨ by_ = -1) (h : ∀ b ∈ bs, -(k : Int) ≤ b.count ∧ b.count ≤ 9999 + k) : ∀ b ∈ addC by_ bs i, -((k + 1 : Nat) : Int) ≤ b.count ∧ b.count ≤ 9999 + ((k + 1 : Nat) : Int) := by
  intro b hb
  rw [addC] at hb
  split at hb
  · rename_i b' h'
    rcases List.mem_or_eq_of_mem_set hb with h1 | h1
    · have := h b h1; omega
    · have := h b' (List.mem_of_getElem? h')
      subst h1
      simp only []
      omega
  · have := h b hb; omega
theorem flat_set {by_ : Int} {bs : List Bx} {i : Nat} {b : Bx} (h : bs[i]? = some b) : ((bs.map Bx.row).flatten).set (i * 4 + 3) (.int .i64 (b.count + by_)) = ((addC by_ bs i).map Bx.row).flatten := by
  rw [addC_some h]
  induction bs generalizing i with
  | nil => simp at h
  | cons x r ih =>
    cases i with
    | zero =>
      simp at h
      subst h
      simp [Bx.row]
    | succ i =>
      simp at h
      rw [List.set_cons_succ, List.map_cons, List.flatten_cons, List.map_cons, List.flatten_cons, ← ih h]
      rw [show (i + 1) * 4 + 3 = (Bx.row x).length + (i * 4 + 3) by simp [Bx.row]; omega, List.set_append_right _ _ (by omega)]
      simp
def movV (by_ : Int) (bs : List Bx) (ss : List ByteArray) : List Bx := if caseB (movF by_ ss bs) then movF by_ ss bs else []
theorem find_nat {c : ByteArray} {bs : List Bx} (h : 0 ≤ findL c bs 0) : ∃ i : Nat, findL c bs 0 = (i : Int) ∧ i < bs.length := by
  rcases findL_bd (c := c) (ms := bs) (i := 0) (by omega) with h1 | h1
  · omega
  · exact ⟨(findL c bs 0).toNat, by omega, by omega⟩
theorem own_cap {w : World} {B n c size : Nat} {e : TypeId} {V : Option Addr} {cs : List Value} (h : w.ownsRow B e size (.slice V n c) n cs) : n ≤ c := by
  rcases h.2 with ⟨h1, h2⟩ | ⟨g, cap, cur, h1, _, _, h2, _⟩
  · injection h1; omega
  · injection h1; omega
theorem own_emptyB (w : World) (B : Nat) (hB : B ≤ w.heap.size) : (w.alloc (.cells #[] 71)).ownsRow B 71 4 (.slice (some ⟨w.heap.size, 0, none⟩) 0 0) 0 (([] : List Bx).map Bx.row).flatten :=
  (Blk.new' w 71 #[]).row (size := 4) (by simp) (by simp) hB
set_option maxRecDepth 100000 in
set_option maxHeartbeats 1000000 in
theorem caMove_any {A A' : Option Addr} {n cp m cd : Nat} {bs : List Bx} {ss : List ByteArray} {by_ : Int} {w : World} (hr : RBxs w w.heap.size A n bs) (hn0 : n ≤ 1048576) (hcp : n ≤ cp) (hL : ∀ b ∈ bs, b.code.size ≤ 1048576) (hs : RStrs w w.heap.size A' m ss) (hm0 : m ≤ 1048576) (hby : by_ = 1 ∨ by_ = -1) (hask : askB bs ss = true) :
    Calls Try.prog 43 #[.slice A n cp, .slice A' m cd, .int .i64 by_] w fun e w' => ∃ V N C, e = .returned (.tuple #[.slice V N C, .bool (caseB (movF by_ ss bs))]) ∧ w'.ownsRow w.heap.size 71 4 (.slice V N C) N ((movV by_ bs ss).map Bx.row).flatten ∧ N ≤ 32 ∧ Below w.heap.size w w' := by
  obtain ⟨hfd, hcb, hss⟩ := askB_true hask
  have HFD := Lib.hid hfd
  obtain ⟨hcl, _⟩ := caseB_true hcb
  have hlr := hr.len
  have hm60 : m ≤ 60 := by have := hs.len; omega
  have hn32 : n ≤ 32 := by omega
  have hn1 : 1 ≤ n := by omega
  have HCT := Lib.hid (show ∀ b ∈ bs, -((0 : Nat) : Int) ≤ b.count ∧ b.count ≤ 9999 + ((0 : Nat) : Int) from fun b hb => by have := count_bd hcb b hb; omega)
  have HL := Lib.hid hlr
  have HLs := Lib.hid hs.len
  have HX := Lib.hid hL
  have hbyb : -1 ≤ by_ ∧ by_ ≤ 1 := by omega
  clear hfd hcb hss hcl hlr
  obtain ⟨i0, hi, hz0, hz1, hz2⟩ := info_parts infoBox
  have hb1 : Below w.heap.size w w := Below.refl _ _
  obtain ⟨w1, hw1⟩ : ∃ w1, w1 = w := ⟨_, rfl⟩
  have hr1 := hr
  have hask' := hask
  clear hask
  go_enter Try.func43, Try.ntmps43
  have h0 := own_emptyB w w.heap.size hb1.size
  obtain ⟨ad, hA, hcell⟩ : ∃ ad, A = some ad ∧ ∀ j u, ((bs.map Bx.row).flatten)[j]? = some u → (w.alloc (.cells #[] 71)).cell? (ad.add j) = some u := by
    obtain ⟨ad, e, hb, hc⟩ := hr1.2.2.2 (by omega)
    exact ⟨ad, e, fun j u hu => by rw [World.cell?_alloc_lt w _ _ (by rw [block_of_add]; exact hb)]; exact hc j u hu⟩
  have HC := Lib.hid hcell
  have HLL := Lib.hid (show ((bs.map Bx.row).flatten).length = n * 4 from hr1.2.2.1)
  clear hcell
  have HR := Lib.hid hr
  have HS := Lib.hid hs
  clear hr hs hr1
  subst hA
  go_wp2_with (at_builtin; refine wpList_append_own _ rfl _ _ 29 rfl w.heap.size 71 i0 _ 4 40 Try.underlying29 hi hz0 hz1 hz2 rfl (by decide) _ 0 _ rfl h0 ad n _ ((bs.map Bx.row).flatten) rfl HLL.out HC.out (by intro u hu; obtain ⟨r, h1, h2⟩ := List.mem_flatten.1 hu; obtain ⟨x, _, rfl⟩ := List.mem_map.1 h1; simp [Bx.row] at h2; rcases h2 with rfl | rfl | rfl | rfl <;> rfl) (by unfold maxLen; omega) (by omega) (by simp <;> (have := hb1.size; omega)) ?_)
  intro v' w2 hown hgrow _
  have hkb := below_grown h0 (by simp <;> (have := hb1.size; omega)) hgrow
  have hb2 : Below w.heap.size w w2 := (hb1.alloc hb1.size _).trans hkb
  have hown2 : w2.ownsRow w.heap.size 71 4 v' n ((bs.map Bx.row).flatten) := by simpa using hown
  obtain ⟨g, cap, rfl⟩ : ∃ g cap, v' = .slice (some ⟨g, 0, none⟩) n cap := by
    rcases hown2.2 with ⟨_, h2⟩ | ⟨g, cap, cur, h1, _⟩
    · omega
    · exact ⟨g, cap, h1⟩
  have hcap := own_cap hown2
  clear hown hgrow hkb h0 hb1
  go_wp2_with fail
  go_loopw [16] (fun u wr => ∃ (k : Nat) (l : List Bx), k ≤ m ∧ u = .int .i64 k ∧ wr.ownsRow w.heap.size 71 4 (.slice (some ⟨g, 0, none⟩) n cap) n ((l.map Bx.row).flatten) ∧ movF by_ (ss.drop k) l = movF by_ ss bs ∧ l.map Bx.code = bs.map Bx.code ∧ (∀ b ∈ l, -(k : Int) ≤ b.count ∧ b.count ≤ 9999 + (k : Int)) ∧ Below w.heap.size w wr) (fun u _ => m - (intOf u).toNat)
  case atStart => exact ⟨0, bs, Nat.zero_le _, rfl, hown2, rfl, rfl, HCT.out, hb2⟩
  case round =>
    clear hown2 hb2
    obtain ⟨k, l, hk, rfl, hown, hR, hcd, hct, hb⟩ := hrel
    have HO := Lib.hid hown
    have HCD := Lib.hid hcd
    have HCN := Lib.hid hct
    have hlen : l.length = n := (len_codes hcd).trans HL.out
    clear hct
    by_cases hlt : k < m
    · obtain ⟨ad2, s, rfl, _, hd, hy, hc⟩ := RStrs.at_ (RStrs.below HS.out hb) hlt
      obtain ⟨i, hfi, hil⟩ := find_nat (HFD.out s (List.mem_of_getElem? hy))
      have hfl : findL s l 0 = (i : Int) := (findL_codes hcd).trans hfi
      have HFI := Lib.hid hfi
      have HFL := Lib.hid hfl
      have hin : i < n := by have := HL.out; omega
      obtain ⟨b, hb4⟩ : ∃ b, l[i]? = some b := ⟨_, List.getElem?_eq_getElem (by omega)⟩
      have HB4 := Lib.hid hb4
      have HR2 := Lib.hid (show movF by_ (ss.drop (k + 1)) (addC by_ l i) = movF by_ ss bs by rw [← hR, hd, movF, hfl]; rfl)
      have hcb := HCN.out b (List.mem_of_getElem? hb4)
      clear hd hy hR hfi hfl hb4 hil
      go_wp2_with fail
      refine (caFind_any (RBxs.of_own hown) hn0).mono ?_
      rw [HFL.out]
      rintro e1 w3 ⟨rfl, hn⟩
      have ho3 := row_step HO.out hn
      have hb3 := hb.trans (hn.mono hb.size)
      have HY := Lib.hid ho3.1
      clear hc hown hcd hlen
      have d0 : w3.cell? ⟨g, i * 4 + 3, none⟩ = some (.int .i64 b.count) := (ho3.cellAt (i * 4 + 3) (by omega)).trans ((flatten_at (rows := l.map Bx.row) (k := i) (by simp [Bx.row]) (by rw [List.getElem?_map, HB4.out]; rfl) 3 (by omega)).trans rfl)
      have y0 := ho3.frozenAt (i * 4 + 3)
      have ew : IntKind.i64.wrap (b.count + by_) = b.count + by_ := wrapI (by omega) (by omega)
      go_wp2_with fail
      go_roundw
      case rel =>
        obtain ⟨s1, s2⟩ := ho3.stored (i * 4 + 3) (.int .i64 (b.count + by_))
        rw [flat_set HB4.out] at s1
        refine ⟨k + 1, addC by_ l i, by omega, by go_num, s1, HR2.out, addC_codes.trans HCD.out, addC_count hby HCN.out, hb3.trans ?_⟩
        exact below_grown ho3 hb3.size s2
      case measure => simp [intOf]; omega
    · have hM : l = movF by_ ss bs := by rw [← hR, drop_end HLs.out hlt]; rfl
      clear hR
      have HXl := Lib.hid (mem_codes (P := fun c => c.size ≤ 1048576) hcd HX.out)
      have HML := Lib.hid hM
      clear hM
      cases h2 : caseB l
      · have HF := Lib.hid (show caseB (movF by_ ss bs) = false by rw [← HML.out, h2])
        have HV := Lib.hid (show movV by_ bs ss = [] by rw [movV, HF.out]; rfl)
        go_wp2_with fail
        refine (caGood_any (RBxs.of_own hown) hn0 hcap HXl.out).mono ?_
        rintro e1 w3 ⟨rfl, hn⟩
        rw [h2]
        clear h2 hown hcd hlen
        have hb3 := hb.trans (hn.mono hb.size)
        go_wp2_with fail
        go_ret2
        exact ⟨none, 0, 0, by rw [HF.out]; rfl, by rw [HV.out]; exact World.ownsRow_nil _ _ _ _, by omega, hb3⟩
      · have HF := Lib.hid (show caseB (movF by_ ss bs) = true by rw [← HML.out, h2])
        have HV := Lib.hid (show movV by_ bs ss = l by rw [movV, HF.out, HML.out]; rfl)
        go_wp2_with fail
        refine (caGood_any (RBxs.of_own hown) hn0 hcap HXl.out).mono ?_
        rintro e1 w3 ⟨rfl, hn⟩
        rw [h2]
        clear h2 hown hcd hlen
        have ho3 := Lib.hid (row_step HO.out hn)
        have hb3 := hb.trans (hn.mono hb.size)
        go_wp2_with fail
        go_ret2
        exact ⟨some ⟨g, 0, none⟩, n, cap, by rw [HF.out]; rfl, by rw [HV.out]; exact ho3.out, hn32, hb3⟩
set_option maxRecDepth 100000 in
set_option maxHeartbeats 1000000 in
theorem changed_any {A A' : Option Addr} {n cp m cd : Nat} {bs : List Bx} {ss : List ByteArray} {by_ : Int} {w : World} (hr : RBxs w w.heap.size A n bs) (hn0 : n ≤ 1048576) (hcp : n ≤ cp) (hL : ∀ b ∈ bs, b.code.size ≤ 1048576) (hs : RStrs w w.heap.size A' m ss) (hm0 : m ≤ 1048576) (hby : by_ = 1 ∨ by_ = -1) (hask : askB bs ss = true) :
    Calls Try.prog 61 #[.slice A n cp, .slice A' m cd, .int .i64 by_] w fun e w' => ∃ V N C, e = .returned (.tuple #[.slice V N C, .bool (caseB (movF by_ ss bs))]) ∧ w'.ownsRow w.heap.size 71 4 (.slice V N C) N ((movV by_ bs ss).map Bx.row).flatten ∧ N ≤ 32 ∧ Below w.heap.size w w' := by
  obtain ⟨hfd, hcb, hss⟩ := askB_true hask
  have HFD := Lib.hid hfd
  obtain ⟨hcl, _⟩ := caseB_true hcb
  have hlr := hr.len
  have hm60 : m ≤ 60 := by have := hs.len; omega
  have hn32 : n ≤ 32 := by omega
  have hn1 : 1 ≤ n := by omega
  have HCT := Lib.hid (show ∀ b ∈ bs, -((0 : Nat) : Int) ≤ b.count ∧ b.count ≤ 9999 + ((0 : Nat) : Int) from fun b hb => by have := count_bd hcb b hb; omega)
  have HL := Lib.hid hlr
  have HLs := Lib.hid hs.len
  have HX := Lib.hid hL
  have hbyb : -1 ≤ by_ ∧ by_ ≤ 1 := by omega
  clear hfd hcb hss hcl hlr
  obtain ⟨i0, hi, hz0, hz1, hz2⟩ := info_parts infoBox
  have hask' := hask
  clear hask
  go_enter Try.func61, Try.ntmps61
  go_wp2_with fail
  refine (areCodes_any hr hn0 hcp hL hs hm0).mono ?_
  rintro e1 w1 ⟨rfl, hb1⟩
  rw [hask']
  clear hask'
  have hr1 := (RBxs.below hr hb1).more hb1.size
  have h0 := own_emptyB w1 w.heap.size hb1.size
  obtain ⟨ad, hA, hcell⟩ : ∃ ad, A = some ad ∧ ∀ j u, ((bs.map Bx.row).flatten)[j]? = some u → (w1.alloc (.cells #[] 71)).cell? (ad.add j) = some u := by
    obtain ⟨ad, e, hb, hc⟩ := hr1.2.2.2 (by omega)
    exact ⟨ad, e, fun j u hu => by rw [World.cell?_alloc_lt w1 _ _ (by rw [block_of_add]; exact hb)]; exact hc j u hu⟩
  have HC := Lib.hid hcell
  have HLL := Lib.hid (show ((bs.map Bx.row).flatten).length = n * 4 from hr1.2.2.1)
  clear hcell
  have HR := Lib.hid hr
  have HS := Lib.hid hs
  clear hr hs hr1
  subst hA
  go_wp2_with (at_builtin; refine wpList_append_own _ rfl _ _ 29 rfl w.heap.size 71 i0 _ 4 40 Try.underlying29 hi hz0 hz1 hz2 rfl (by decide) _ 0 _ rfl h0 ad n _ ((bs.map Bx.row).flatten) rfl HLL.out HC.out (by intro u hu; obtain ⟨r, h1, h2⟩ := List.mem_flatten.1 hu; obtain ⟨x, _, rfl⟩ := List.mem_map.1 h1; simp [Bx.row] at h2; rcases h2 with rfl | rfl | rfl | rfl <;> rfl) (by unfold maxLen; omega) (by omega) (by simp <;> (have := hb1.size; omega)) ?_)
  intro v' w2 hown hgrow _
  have hkb := below_grown h0 (by simp <;> (have := hb1.size; omega)) hgrow
  have hb2 : Below w.heap.size w w2 := (hb1.alloc hb1.size _).trans hkb
  have hown2 : w2.ownsRow w.heap.size 71 4 v' n ((bs.map Bx.row).flatten) := by simpa using hown
  obtain ⟨g, cap, rfl⟩ : ∃ g cap, v' = .slice (some ⟨g, 0, none⟩) n cap := by
    rcases hown2.2 with ⟨_, h2⟩ | ⟨g, cap, cur, h1, _⟩
    · omega
    · exact ⟨g, cap, h1⟩
  have hcap := own_cap hown2
  clear hown hgrow hkb h0 hb1
  go_wp2_with fail
  go_loopw [21] (fun u wr => ∃ (k : Nat) (l : List Bx), k ≤ m ∧ u = .int .i64 k ∧ wr.ownsRow w.heap.size 71 4 (.slice (some ⟨g, 0, none⟩) n cap) n ((l.map Bx.row).flatten) ∧ movF by_ (ss.drop k) l = movF by_ ss bs ∧ l.map Bx.code = bs.map Bx.code ∧ (∀ b ∈ l, -(k : Int) ≤ b.count ∧ b.count ≤ 9999 + (k : Int)) ∧ Below w.heap.size w wr) (fun u _ => m - (intOf u).toNat)
  case atStart => exact ⟨0, bs, Nat.zero_le _, rfl, hown2, rfl, rfl, HCT.out, hb2⟩
  case round =>
    clear hown2 hb2
    obtain ⟨k, l, hk, rfl, hown, hR, hcd, hct, hb⟩ := hrel
    have HO := Lib.hid hown
    have HCD := Lib.hid hcd
    have HCN := Lib.hid hct
    have hlen : l.length = n := (len_codes hcd).trans HL.out
    clear hct
    by_cases hlt : k < m
    · obtain ⟨ad2, s, rfl, _, hd, hy, hc⟩ := RStrs.at_ (RStrs.below HS.out hb) hlt
      obtain ⟨i, hfi, hil⟩ := find_nat (HFD.out s (List.mem_of_getElem? hy))
      have hfl : findL s l 0 = (i : Int) := (findL_codes hcd).trans hfi
      have HFI := Lib.hid hfi
      have HFL := Lib.hid hfl
      have hin : i < n := by have := HL.out; omega
      obtain ⟨b, hb4⟩ : ∃ b, l[i]? = some b := ⟨_, List.getElem?_eq_getElem (by omega)⟩
      have HB4 := Lib.hid hb4
      have HR2 := Lib.hid (show movF by_ (ss.drop (k + 1)) (addC by_ l i) = movF by_ ss bs by rw [← hR, hd, movF, hfl]; rfl)
      have hcb := HCN.out b (List.mem_of_getElem? hb4)
      clear hd hy hR hfi hfl hb4 hil
      go_wp2_with fail
      refine (boxAt_any ((RBxs.below HR.out hb).more hb.size) hn0).mono ?_
      rw [HFI.out]
      rintro e1 w3 ⟨rfl, hn⟩
      have ho3 := row_step HO.out hn
      have hb3 := hb.trans (hn.mono hb.size)
      have HY := Lib.hid ho3.1
      clear hc hown hcd hlen
      have d0 : w3.cell? ⟨g, i * 4 + 3, none⟩ = some (.int .i64 b.count) := (ho3.cellAt (i * 4 + 3) (by omega)).trans ((flatten_at (rows := l.map Bx.row) (k := i) (by simp [Bx.row]) (by rw [List.getElem?_map, HB4.out]; rfl) 3 (by omega)).trans rfl)
      have y0 := ho3.frozenAt (i * 4 + 3)
      have ew : IntKind.i64.wrap (b.count + by_) = b.count + by_ := wrapI (by omega) (by omega)
      go_wp2_with fail
      go_roundw
      case rel =>
        obtain ⟨s1, s2⟩ := ho3.stored (i * 4 + 3) (.int .i64 (b.count + by_))
        rw [flat_set HB4.out] at s1
        refine ⟨k + 1, addC by_ l i, by omega, by go_num, s1, HR2.out, addC_codes.trans HCD.out, addC_count hby HCN.out, hb3.trans ?_⟩
        exact below_grown ho3 hb3.size s2
      case measure => simp [intOf]; omega
    · have hM : l = movF by_ ss bs := by rw [← hR, drop_end HLs.out hlt]; rfl
      clear hR
      have HXl := Lib.hid (mem_codes (P := fun c => c.size ≤ 1048576) hcd HX.out)
      have HML := Lib.hid hM
      clear hM
      cases h2 : caseB l
      · have HF := Lib.hid (show caseB (movF by_ ss bs) = false by rw [← HML.out, h2])
        have HV := Lib.hid (show movV by_ bs ss = [] by rw [movV, HF.out]; rfl)
        go_wp2_with fail
        refine (isCase_any (RBxs.of_own hown) hn0 hcap HXl.out).mono ?_
        rintro e1 w3 ⟨rfl, hn⟩
        rw [h2]
        clear h2 hown hcd hlen
        have hb3 := hb.trans (hn.mono hb.size)
        go_wp2_with fail
        go_ret2
        exact ⟨some ⟨w3.heap.size, 0, none⟩, 0, 0, by rw [HF.out]; rfl, by rw [HV.out]; exact own_emptyB w3 w.heap.size hb3.size, by omega, hb3.alloc hb3.size _⟩
      · have HF := Lib.hid (show caseB (movF by_ ss bs) = true by rw [← HML.out, h2])
        have HV := Lib.hid (show movV by_ bs ss = l by rw [movV, HF.out, HML.out]; rfl)
        go_wp2_with fail
        refine (isCase_any (RBxs.of_own hown) hn0 hcap HXl.out).mono ?_
        rintro e1 w3 ⟨rfl, hn⟩
        rw [h2]
        clear h2 hown hcd hlen
        have ho3 := Lib.hid (row_step HO.out hn)
        have hb3 := hb.trans (hn.mono hb.size)
        go_wp2_with fail
        go_ret2
        exact ⟨some ⟨g, 0, none⟩, n, cap, by rw [HF.out]; rfl, by rw [HV.out]; exact ho3.out, hn32, hb3⟩
end Go.Proofs.Ytfdmenhnejfhjaa
