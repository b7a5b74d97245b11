/-
  An append to a row of the call's own as one step of a region that draws its order; copies of slices of strings.
-/
import Derived.Test.YtfdmenhnejfhjaaStrs
import Derived.Deep.RegionHeld3
namespace Go.Proofs.Ytfdmenhnejfhjaa
open Go.RowKit
section
variable {P : Program}
theorem step_append_any {ops : Array Oper} {o : Oper} {a : Act} {K : Act → World → Prop} {Q : Exit → Act → World → Prop} {E : Prop} (w : World) (hgd : o.guard = none) (s x : Operand) (t : TypeId)
    (ho : o.op = .call { callee := .builtin .append, args := #[s, x], argTypes := #[t, t] })
    (base : Nat) (e : TypeId) (i : TypeInfo) (z : Value) (size bytes : Nat) (ht : P.underlying t = some (.slice e)) (hi : P.info? e = some i) (hz : i.zero = some z)
    (hsize : i.size = size) (hby : i.bytes = bytes) (hzs : z.cells.size = size) (hsz : 0 < size)
    (v : Value) (n : Nat) (xs : List Value) (hs : a.eval s = v) (hown : w.ownsRow base e size v n xs)
    (ad : Addr) (m c : Nat) (news : List Value) (hx : a.eval x = .slice (some ad) m c) (hl : news.length = m * size) (hnews : ∀ j u, news[j]? = some u → w.cell? (ad.add j) = some u) (h1 : ∀ u ∈ news, u.oneCell' = true)
    (h63 : n + m ≤ maxLen) (hbytes : (n + m) * bytes ≤ 140737488355328) (hbase : base ≤ w.heap.size)
    (h : ∀ v' w', w'.ownsRow base e size v' (n + m) (xs ++ news) → w.grownBy w' v.ownBlock → K (a.put o.dst v') w') :
    if Region.wanted o (yielded ops a.tmps) = true then Oper.wp P o a w K Q else E := by
  have hw : Region.wanted o (yielded ops a.tmps) = true := by simp [Region.wanted, hgd]
  rw [if_pos hw]
  obtain ⟨v', w', hr, h2, h3, _⟩ := run_append_own (P := P) w base t o.type e i z size bytes ht hi hz hsize hby hzs hsz v n xs hown ad m c news hl hnews h1 h63 hbytes hbase
  unfold Oper.wp execOp
  simp only [ho, resolve, invoke, builtin, Sem.run_bind, Sem.run_pure, Result.andThen_ok, List.map_toArray, List.map_cons, List.map_nil, hs, hx, hr]
  exact h v' w' h2 h3
end
theorem cell_ad {w : World} (o : Obj) (p : Addr) (h : p.block < w.heap.size) : (w.alloc o).drew.cell? p = w.cell? p := World.cell?_alloc_lt w o p h
theorem frz_ad {w : World} (o : Obj) (p : Addr) (h : p.block < w.heap.size) : (w.alloc o).drew.frozen? p = w.frozen? p := World.frozen?_of_block (Below.heap_alloc w o p.block h)
theorem row_ad {w : World} {B n size : Nat} {e : TypeId} {v : Value} {xs : List Value} (h : w.ownsRow B e size v n xs) (o : Obj) : (w.alloc o).drew.ownsRow B e size v n xs := World.ownsRow.alloc h o
theorem own_emptyS (w : World) (B : Nat) (hB : B ≤ w.heap.size) : OwnT (w.alloc (.cells #[] 9)) B (.slice (some ⟨w.heap.size, 0, none⟩) 0 0) 0 [] :=
  (Blk.new' w 9 #[]).row (size := 1) (by simp) (by simp) hB
theorem own_emptySd (w : World) (B : Nat) (hB : B ≤ w.heap.size) : (w.alloc (.cells #[] 9)).drew.ownsRow B 9 1 (.slice (some ⟨w.heap.size, 0, none⟩) 0 0) 0 (([] : List ByteArray).map Value.string) := own_emptyS w B hB
theorem strs_one (xs : List ByteArray) : ∀ u ∈ xs.map Value.string, u.oneCell' = true := by
  intro u hu
  obtain ⟨x, _, rfl⟩ := List.mem_map.1 hu
  rfl
theorem RStrs_take {w : World} {B n k : Nat} {A : Option Addr} {xs : List ByteArray} (h : RStrs w B A n xs) (hk : k ≤ n) : RStrs w B A k (xs.take k) := by
  refine ⟨by have := h.len; simp; omega, fun hp => ?_⟩
  obtain ⟨ad, e, hb, hc⟩ := h.2 (by omega)
  refine ⟨ad, e, hb, fun j u hu => hc j u ?_⟩
  rw [List.map_take] at hu
  have hj : j < k := by
    have := (List.getElem?_eq_some_iff.1 hu).1
    rw [List.length_take] at this
    omega
  rwa [List.getElem?_take_of_lt hj] at hu
/-- The cells of a slice of strings that is not nil, in a world that keeps them. -/
theorem RStrs.cells {w : World} {B n : Nat} {ad : Addr} {xs : List ByteArray} (h : RStrs w B (some ad) n xs) : ∀ j u, (xs.map Value.string)[j]? = some u → w.cell? (ad.add j) = some u := by
  intro j u hu
  have hj : j < xs.length := by
    have := (List.getElem?_eq_some_iff.1 hu).1
    simpa using this
  obtain ⟨ad', e, hb, hc⟩ := h.2 (by have := h.len; omega)
  injection e with e
  subst e
  exact hc j u hu
theorem RStrs.cells_drop {w : World} {B n k : Nat} {ad : Addr} {xs : List ByteArray} (h : RStrs w B (some ad) n xs) : ∀ j u, ((xs.drop k).map Value.string)[j]? = some u → w.cell? ((ad.add k).add j) = some u := by
  intro j u hu
  rw [add_of_add]
  refine h.cells (k + j) u ?_
  rw [← hu, List.map_drop, List.getElem?_drop]
theorem RStrs.block {w : World} {B n : Nat} {ad : Addr} {xs : List ByteArray} (h : RStrs w B (some ad) n xs) (hn : 0 < n) : ad.block < B := by
  obtain ⟨ad', e, hb, _⟩ := h.2 hn
  injection e with e
  subst e
  exact hb
set_option maxRecDepth 100000 in
theorem l1OwnS_any {A : Option Addr} {n c : Nat} {xs : List ByteArray} {w : World} (hr : RStrs w w.heap.size A n xs) (hn : n ≤ 1048576) (hc : A = none → c = 0) :
    Calls Try.prog 44 #[.slice A n c] w fun e w' => ∃ V C, e = .returned (.slice V n C) ∧ OwnT w' w.heap.size (.slice V n C) n xs ∧ Below w.heap.size w w' := by
  obtain ⟨i0, hi, hz0, hz1, hz2⟩ := info_parts info9
  have h0 := own_emptyS w w.heap.size (Nat.le_refl _)
  cases A with
  | none =>
    have hn0 : n = 0 := by
      rcases Nat.eq_zero_or_pos n with h | h
      · exact h
      · obtain ⟨ad, e, _⟩ := hr.2 h
        cases e
    have hc0 := hc rfl
    subst hn0 hc0
    have hx : xs = [] := List.eq_nil_of_length_eq_zero hr.len
    subst hx
    clear hr hc
    have hrun := run_append_owned_none (P := Try.prog) (w.alloc (.cells #[] 9)) w.heap.size 24 24 9 i0 1 Try.underlying24 hi _ _ _ h0
    go_enter Try.func44, Try.ntmps44
    go_wp2_with fail
    go_ret
    exact ⟨_, _, rfl, h0, (by (repeat (first | exact Below.refl _ _ | exact hb | apply Below.drew | (refine Below.alloc ?_ (by first | (simp; done) | (simp; omega) | (have := hb.size; simp at this ⊢; omega)) _) | (refine Below.setCell ?_ (by simp) _))))⟩
  | some ad =>
    have hrc : ∀ j u, (xs.map Value.string)[j]? = some u → (w.alloc (.cells #[] 9)).cell? (ad.add j) = some u := by
      intro j u hu
      by_cases hn0 : 0 < n
      · obtain ⟨ad', e, hb, hcell⟩ := hr.2 hn0
        injection e with e
        subst e
        rw [World.cell?_alloc_lt w _ _ (by rw [block_of_add]; exact hb)]
        exact hcell j u hu
      · have : xs = [] := List.eq_nil_of_length_eq_zero (by have := hr.len; omega)
        subst this
        simp at hu
    have HC := Lib.hid hrc
    have hl : (xs.map Value.string).length = n * 1 := by simp [hr.len]
    have HL := Lib.hid hl
    clear hr hrc hl hc
    go_enter Try.func44, Try.ntmps44
    go_wp2_with (at_builtin; refine wpList_append_own _ rfl _ _ 24 rfl w.heap.size 9 i0 (.string ⟨#[]⟩) 1 16 Try.underlying24 hi hz0 hz1 hz2 rfl (by decide) _ _ _ rfl h0 ad n _ (xs.map Value.string) rfl HL.out HC.out (strs_one xs) (by unfold maxLen; omega) (by omega) (by simp) ?_)
    intro v' w1 hown' hgrow _
    have hkb := below_grown h0 (by simp) hgrow
    have ho2 : OwnT w1 w.heap.size v' n xs := by simpa [OwnT] using hown'
    have hb : Below w.heap.size w w1 := Below.trans (by (repeat (first | exact Below.refl _ _ | exact hb | apply Below.drew | (refine Below.alloc ?_ (by first | (simp; done) | (simp; omega) | (have := hb.size; simp at this ⊢; omega)) _) | (refine Below.setCell ?_ (by simp) _)))) hkb
    obtain ⟨V, C, rfl⟩ := own_slice ho2
    have HO := Lib.hid ho2
    clear hown' hgrow hkb h0 ho2
    go_wp2_with fail
    go_ret
    exact ⟨V, C, rfl, HO.out, hb⟩
end Go.Proofs.Ytfdmenhnejfhjaa
