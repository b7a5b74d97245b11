/-
  Piles of leaves: slices of slices of slices, read by their blocks' types.
-/
import Derived.Test.YtaalfmijpbnpkaaSFold
import Derived.Deep.RegionHeld3
import Derived.Deep.AppendLies
namespace Go.Proofs.Ytaalfmijpbnpkaa
open Go.RowKit
/-- A slice of n elements whose cells are xs, in a block of type e below B. -/
def TR (w : World) (B : Nat) (e : TypeId) (size : Nat) (A : Option Addr) (n : Nat) (xs : List Value) : Prop :=
  xs.length = n * size ∧ (0 < n → ∃ (g off : Nat) (cs : Array Value) (fr : Nat × Nat), A = some ⟨g, off, none⟩ ∧ g < B ∧ w.heap[g]? = some (.cells cs e fr) ∧ ∀ j u, xs[j]? = some u → cs[off + j]? = some u)
section
variable {w w' : World} {B B' size n : Nat} {e : TypeId} {A : Option Addr} {xs : List Value}
theorem TR.below (h : TR w B e size A n xs) (hb : Below B w w') : TR w' B e size A n xs :=
  ⟨h.1, fun hn => by
    obtain ⟨g, off, cs, fr, hA, hg, hh, hc⟩ := h.2 hn
    exact ⟨g, off, cs, fr, hA, hg, (hb.block g hg).trans hh, hc⟩⟩
theorem TR.more (h : TR w B e size A n xs) (hB : B ≤ B') : TR w B' e size A n xs :=
  ⟨h.1, fun hn => by
    obtain ⟨g, off, cs, fr, hA, hg, hh, hc⟩ := h.2 hn
    exact ⟨g, off, cs, fr, hA, by omega, hh, hc⟩⟩
theorem own_type {w : World} {base m sz : Nat} {e : TypeId} {v : Value} {ys : List Value} (h : w.ownsRow base e sz v m ys) {g : Nat} (hg : v.ownBlock = some g) : ∃ cur, w.heap[g]? = some (.cells cur e (0, 0)) := by
  rcases h.2 with ⟨rfl, _⟩ | ⟨k, cap, cur, rfl, _, hk, _⟩
  · cases hg
  · injection hg with hg
    simp at hg
    subst hg
    exact ⟨cur, hk⟩
theorem TR.grown {base m sz : Nat} {e' : TypeId} {v : Value} {ys : List Value} (h : TR w B e size A n xs) (ho : w.ownsRow base e' sz v m ys) (hne : e ≠ e') (hg : w.grownBy w' v.ownBlock) : TR w' B e size A n xs :=
  ⟨h.1, fun hn => by
    obtain ⟨g, off, cs, fr, hA, hlt, hh, hc⟩ := h.2 hn
    refine ⟨g, off, cs, fr, hA, hlt, (hg.block g ?_ ?_).trans hh, hc⟩
    · exact (Array.getElem?_eq_some_iff.1 hh).1
    · intro e9
      obtain ⟨cur, h9⟩ := own_type ho e9.symm
      rw [hh] at h9
      simp at h9
      exact hne h9.2.1⟩
theorem TR.of_own {base c : Nat} (h : w.ownsRow base e size (.slice A n c) n xs) : TR w w.heap.size e size A n xs :=
  ⟨h.1, fun hn => by
    rcases h.2 with ⟨_, h0⟩ | ⟨g, cap, cur, hv, _, hg, _, _, _, htk⟩
    · omega
    · have hA : A = some ⟨g, 0, none⟩ := by injection hv
      refine ⟨g, 0, cur, (0, 0), hA, (Array.getElem?_eq_some_iff.1 hg).1, hg, fun j u hu => ?_⟩
      rw [← htk, List.getElem?_take] at hu
      split at hu
      · rw [Nat.zero_add, ← Array.getElem?_toList]; exact hu
      · cases hu⟩
theorem TR.at_ (h : TR w B e size A n xs) {j : Nat} (hj : j < n * size) : ∃ g off u, A = some ⟨g, off, none⟩ ∧ g < B ∧ xs[j]? = some u ∧ w.cell? ⟨g, off + j, none⟩ = some u := by
  have hn : 0 < n := by
    rcases Nat.eq_zero_or_pos n with h0 | h0
    · subst h0; omega
    · exact h0
  obtain ⟨g, off, cs, fr, hA, hg, hh, hc⟩ := h.2 hn
  have hl : j < xs.length := by rw [h.1]; exact hj
  refine ⟨g, off, xs[j], hA, hg, List.getElem?_eq_getElem hl, ?_⟩
  rw [cell_of_row w g _ cs e fr hh]
  exact hc j _ (List.getElem?_eq_getElem hl)
theorem TR.cells (h : TR w B e size A n xs) {ad : Addr} (hA : A = some ad) : ∀ j u, xs[j]? = some u → w.cell? (ad.add j) = some u := by
  intro j u hu
  have hj : j < n * size := by rw [← h.1]; exact (List.getElem?_eq_some_iff.1 hu).1
  obtain ⟨g, off, u', e1, _, e2, e3⟩ := h.at_ hj
  rw [e1] at hA
  injection hA with hA
  subst hA
  rw [hu] at e2
  injection e2 with e2
  subst e2
  rw [Addr.add_lit]
  exact e3
end
structure Lf where
  c : Int
  up : Bool
def Lf.row (x : Lf) : List Value := [.int .i64 x.c, .bool x.up]
def lfs (ls : List Lf) : List Value := (ls.map Lf.row).flatten
theorem lfs_len (ls : List Lf) : (lfs ls).length = ls.length * 2 := by
  unfold lfs
  rw [flatten_len (size := 2) (by simp [Lf.row]), List.length_map]
theorem lfs_app (a b : List Lf) : lfs (a ++ b) = lfs a ++ lfs b := by simp [lfs]
theorem lfs_one (ls : List Lf) : ∀ u ∈ lfs ls, u.oneCell' = true := by
  intro u hu
  obtain ⟨r, hr, h⟩ := List.mem_flatten.1 hu
  obtain ⟨x, _, rfl⟩ := List.mem_map.1 hr
  simp [Lf.row] at h
  rcases h with rfl | rfl <;> rfl
theorem lfs_at {ls : List Lf} {k : Nat} (h : k < ls.length) : ∃ x : Lf, (lfs ls)[k * 2]? = some (.int .i64 x.c) ∧ (lfs ls)[k * 2 + 1]? = some (.bool x.up) := by
  have hf : ∀ j, j < 2 → (lfs ls)[k * 2 + j]? = (ls[k]).row[j]? := fun j hj => flatten_at (by simp [Lf.row]) (by rw [List.getElem?_map, List.getElem?_eq_getElem h]; rfl) j hj
  exact ⟨ls[k], by rw [← Nat.add_zero (k * 2), hf 0 (by omega)]; rfl, by rw [hf 1 (by omega)]; rfl⟩
/-- A pile of L leaves, a row of n piles, m rows. -/
def PileV (w : World) (B L : Nat) (v : Value) : Prop := ∃ A C ls, v = .slice A L C ∧ TR w B 69 2 A L (lfs ls) ∧ ls.length = L
def RowV (w : World) (B n L : Nat) (v : Value) : Prop := ∃ A C vs, v = .slice A n C ∧ TR w B 64 1 A n vs ∧ ∀ x ∈ vs, PileV w B L x
def GridV (w : World) (B m n L : Nat) (v : Value) : Prop := ∃ A C vs, v = .slice A m C ∧ TR w B 67 1 A m vs ∧ ∀ x ∈ vs, RowV w B n L x
section
variable {w w' : World} {B B' m n L : Nat} {v : Value}
theorem PileV.below (h : PileV w B L v) (hb : Below B w w') : PileV w' B L v := by
  obtain ⟨A, C, ls, e, ht, hl⟩ := h
  exact ⟨A, C, ls, e, ht.below hb, hl⟩
theorem PileV.more (h : PileV w B L v) (hB : B ≤ B') : PileV w B' L v := by
  obtain ⟨A, C, ls, e, ht, hl⟩ := h
  exact ⟨A, C, ls, e, ht.more hB, hl⟩
theorem RowV.below (h : RowV w B n L v) (hb : Below B w w') : RowV w' B n L v := by
  obtain ⟨A, C, vs, e, ht, hp⟩ := h
  exact ⟨A, C, vs, e, ht.below hb, fun x hx => (hp x hx).below hb⟩
theorem RowV.more (h : RowV w B n L v) (hB : B ≤ B') : RowV w B' n L v := by
  obtain ⟨A, C, vs, e, ht, hp⟩ := h
  exact ⟨A, C, vs, e, ht.more hB, fun x hx => (hp x hx).more hB⟩
theorem GridV.below (h : GridV w B m n L v) (hb : Below B w w') : GridV w' B m n L v := by
  obtain ⟨A, C, vs, e, ht, hp⟩ := h
  exact ⟨A, C, vs, e, ht.below hb, fun x hx => (hp x hx).below hb⟩
theorem GridV.more (h : GridV w B m n L v) (hB : B ≤ B') : GridV w B' m n L v := by
  obtain ⟨A, C, vs, e, ht, hp⟩ := h
  exact ⟨A, C, vs, e, ht.more hB, fun x hx => (hp x hx).more hB⟩
theorem GridV.at_ (h : GridV w B m n L v) {y : Nat} (hy : y < m) : ∃ g off C A' C', v = .slice (some ⟨g, off, none⟩) m C ∧ g < B ∧ w.cell? ⟨g, off + y, none⟩ = some (.slice A' n C') ∧ RowV w B n L (.slice A' n C') := by
  obtain ⟨A, C, vs, rfl, ht, hp⟩ := h
  obtain ⟨g, off, u, rfl, hg, hu, hc⟩ := ht.at_ (j := y) (by omega)
  have h1 := hp u (List.mem_of_getElem? hu)
  obtain ⟨A', C', _, e, _⟩ := id h1
  subst e
  exact ⟨g, off, C, A', C', rfl, hg, hc, h1⟩
theorem RowV.at_ (h : RowV w B n L v) {x : Nat} (hx : x < n) : ∃ g off C A' C', v = .slice (some ⟨g, off, none⟩) n C ∧ g < B ∧ w.cell? ⟨g, off + x, none⟩ = some (.slice A' L C') ∧ PileV w B L (.slice A' L C') := by
  obtain ⟨A, C, vs, rfl, ht, hp⟩ := h
  obtain ⟨g, off, u, rfl, hg, hu, hc⟩ := ht.at_ (j := x) (by omega)
  have h1 := hp u (List.mem_of_getElem? hu)
  obtain ⟨A', C', _, e, _⟩ := id h1
  subst e
  exact ⟨g, off, C, A', C', rfl, hg, hc, h1⟩
theorem PileV.grown {base k sz : Nat} {e' : TypeId} {u : Value} {ys : List Value} (h : PileV w B L v) (ho : w.ownsRow base e' sz u k ys) (hne : 69 ≠ e') (hg : w.grownBy w' u.ownBlock) : PileV w' B L v := by
  obtain ⟨A, C, ls, e, ht, hl⟩ := h
  exact ⟨A, C, ls, e, ht.grown ho hne hg, hl⟩
theorem RowV.grown {base k sz : Nat} {e' : TypeId} {u : Value} {ys : List Value} (h : RowV w B n L v) (ho : w.ownsRow base e' sz u k ys) (hne : 69 ≠ e') (hne2 : 64 ≠ e') (hg : w.grownBy w' u.ownBlock) : RowV w' B n L v := by
  obtain ⟨A, C, vs, e, ht, hp⟩ := h
  exact ⟨A, C, vs, e, ht.grown ho hne2 hg, fun x hx => (hp x hx).grown ho hne hg⟩
end
theorem infoLeaf : (Try.prog.info? 69).map (fun i => (i.zero, i.size, i.bytes)) = some (some (.agg #[.int .i64 0, .bool false]), 2, 16) := by kernel_rfl
theorem infoPile : (Try.prog.info? 64).map (fun i => (i.zero, i.size, i.bytes)) = some (some (.slice none 0 0), 1, 24) := by kernel_rfl
theorem infoRow : (Try.prog.info? 67).map (fun i => (i.zero, i.size, i.bytes)) = some (some (.slice none 0 0), 1, 24) := by kernel_rfl
theorem new_cells {w : World} {g : Nat} {cs : Array Value} {t : TypeId} (h : w.heap.size = g) : ∀ (j : Nat) (u : Value), cs.toList[j]? = some u → (w.alloc (.cells cs t)).cell? ((⟨g, 0, none⟩ : Addr).add j) = some u := by
  subst h
  intro j u hj
  rw [Addr.add_lit, Nat.zero_add, cell_of_row _ _ _ _ _ _ (heap_alloc_new w _)]
  simpa using hj
theorem new_cellsD {w : World} {g : Nat} {cs : Array Value} {t : TypeId} (h : w.heap.size = g) : ∀ (j : Nat) (u : Value), cs.toList[j]? = some u → (w.alloc (.cells cs t)).drew.cell? ((⟨g, 0, none⟩ : Addr).add j) = some u := new_cells h
theorem row_empty (w : World) (B : Nat) (t : TypeId) (size : Nat) (hB : B ≤ w.heap.size) : (w.alloc (.cells #[] t)).ownsRow B t size (.slice (some ⟨w.heap.size, 0, none⟩) 0 0) 0 [] :=
  (Blk.new' w t #[]).row (size := size) (by simp) (by simp) hB
theorem own_n {w : World} {B size n n' : Nat} {e : TypeId} {v : Value} {xs : List Value} (h : w.ownsRow B e size v n xs) (hn : n = n') : w.ownsRow B e size v n' xs := hn ▸ h
set_option maxRecDepth 100000 in
theorem lay_any {vp vo : Value} {L : Nat} {ov : Bool} {w : World} (hp : PileV w w.heap.size L vp) (ho : PileV w w.heap.size L vo) (hL0 : 0 < L) (hL : L ≤ 1048576) :
    Calls Try.prog 49 #[vp, vo, .bool ov] w fun e w' => ∃ V C, e = .returned (.slice V (L + L) C) ∧ PileV w' w'.heap.size (L + L) (.slice V (L + L) C) ∧ Below w.heap.size w w' := by
  obtain ⟨i0, hi, hz0, hz1, hz2⟩ := info_parts infoLeaf
  obtain ⟨Ap, Cp, lp, rfl, tp, hlp⟩ := hp
  obtain ⟨Ao, Co, lo, rfl, to, hlo⟩ := ho
  have HLO := Lib.hid hlo
  have HLP := Lib.hid hlp
  have h0 := row_empty w w.heap.size 69 2 (Nat.le_refl _)
  clear hlp hlo
  go_enter Try.func49, Try.ntmps49
  go_wp2_with fail
  go_loopw [7, 8] (fun v u wr => ∃ (j : Nat) (ls : List Lf), j ≤ L ∧ u = .int .i64 ((j : Int) - 1) ∧ wr.ownsRow w.heap.size 69 2 v (L - j) (lfs ls) ∧ Below w.heap.size w wr) (fun _ u _ => (intOf u + 1).toNat)
  case atStart => exact ⟨L, [], Nat.le_refl _, rfl, by rw [Nat.sub_self]; exact h0, (Below.refl _ _).alloc (Nat.le_refl _) _⟩
  case round =>
    clear h0
    obtain ⟨j, ls, hj, rfl, hrow, hb⟩ := hrel
    rcases Nat.eq_zero_or_pos j with hj0 | hj0
    · subst hj0
      have e0 : (((0 : Nat) : Int) - 1) = -1 := by omega
      rw [e0]
      clear e0
      rw [Nat.sub_zero] at hrow
      obtain ⟨gl, cl, hv, _, hgl⟩ := hrow.form hL0
      subst hv
      have HRW := Lib.hid hrow
      have hln := hrow.1
      have hll : (lfs ls).length = L * 2 := by omega
      have hsz := hb.size
      have tp1 := tp.below hb
      obtain ⟨gp, op, _, eA, hgp, _, _⟩ := tp1.at_ (j := 0) (by omega)
      have HP := Lib.hid (tp1.cells eA)
      have HLL := Lib.hid hll
      have HA := Lib.hid eA
      clear hln hll
      rw [eA]
      clear eA
      cases ov
      · have h0 := row_empty wr wr.heap.size 69 2 (Nat.le_refl _)
        go_wp2_with (first
          | (at_builtin; refine wpList_append_lies _ rfl (.tmp 36) (.tmp 37) 64 rfl wr.heap.size 69 i0 (.agg #[.int .i64 0, .bool false]) 2 16 Try.underlying64 hi hz0 hz1 hz2 rfl (by decide) _ 0 _ rfl h0 _ L _ (lfs lp) rfl (by rw [lfs_len, HLP.out]) (fun j u hu => (World.cell?_alloc_lt wr _ _ (by rw [block_of_add]; simp <;> omega)).trans (HP.out j u hu)) (lfs_one _) hL0 (by unfold maxLen; omega) (by omega) (by simp) _ rfl ?_; intro g1 c1 w1 hown1 hgr1 _ _; have hkb1 : Below wr.heap.size wr w1 := (Below.alloc (Below.refl wr.heap.size wr) (Nat.le_refl _) (.cells #[] 69)).trans (grown_below hgr1 (by simp) (fun q hq => (h0.lt q hq).1)); have hrow1 := row_step HRW.out hkb1; have HC1 := Lib.hid (hrow1.cells (g := gl) rfl); simp only [Nat.zero_add, List.nil_append] at hown1)
          | (at_builtin; refine wpList_append_lies _ rfl (.tmp 38) (.tmp 39) 64 rfl wr.heap.size 69 i0 (.agg #[.int .i64 0, .bool false]) 2 16 Try.underlying64 hi hz0 hz1 hz2 rfl (by decide) _ L _ rfl hown1 _ L _ (lfs ls) rfl HLL.out HC1.out (lfs_one _) hL0 (by unfold maxLen; omega) (by omega) hkb1.size _ rfl ?_; intro g2 c2 w2 hown2 hgr2 _ _))
        have hb2 := hb.trans ((hkb1.trans (grown_below hgr2 hkb1.size (fun q hq => (hown1.lt q hq).1))).mono hsz)
        rw [← lfs_app] at hown2
        have HN := Lib.hid (TR.of_own hown2)
        clear hown2 hgr2 hown1 hgr1 hrow1 h0
        go_wp2_with fail
        go_ret
        refine ⟨_, _, rfl, ⟨_, _, lp ++ ls, rfl, HN.out, ?_⟩, hb2⟩
        have h1 := HN.out.1
        rw [lfs_len] at h1
        omega
      · go_wp2_with (at_builtin; refine wpList_append_lies _ rfl (.tmp 33) (.tmp 34) 64 rfl w.heap.size 69 i0 (.agg #[.int .i64 0, .bool false]) 2 16 Try.underlying64 hi hz0 hz1 hz2 rfl (by decide) _ L _ rfl HRW.out _ L _ (lfs lp) rfl (by rw [lfs_len, HLP.out]) HP.out (lfs_one _) hL0 (by unfold maxLen; omega) (by omega) hsz _ rfl ?_)
        intro g2 c2 w2 hown2 hgr2 _ _
        have hb2 := hb.trans (grown_below hgr2 hsz (fun q hq => (HRW.out.lt q hq).1))
        rw [← lfs_app] at hown2
        have HN := Lib.hid (TR.of_own hown2)
        clear hown2 hgr2 hrow
        go_wp2_with fail
        go_ret
        refine ⟨_, _, rfl, ⟨_, _, ls ++ lp, rfl, HN.out, ?_⟩, hb2⟩
        have h1 := HN.out.1
        rw [lfs_len] at h1
        omega
    · obtain ⟨i, rfl⟩ : ∃ i, j = i + 1 := ⟨j - 1, by omega⟩
      have ei : (((i + 1 : Nat) : Int) - 1) = (i : Int) := by omega
      rw [ei]
      clear ei hj0
      have to1 := to.below hb
      obtain ⟨x, hx0, hx1⟩ := lfs_at (ls := lo) (k := i) (by have := HLO.out; omega)
      obtain ⟨g, off, u0, eA, hg, hu0, hc0⟩ := to1.at_ (j := i * 2) (by omega)
      obtain ⟨g', off', u1, eA', _, hu1, hc1⟩ := to1.at_ (j := i * 2 + 1) (by omega)
      rw [hx0] at hu0; injection hu0 with hu0; subst hu0
      rw [hx1] at hu1; injection hu1 with hu1; subst hu1
      rw [eA] at eA'
      injection eA' with eA'
      injection eA' with e1 e2
      subst e1 e2
      rw [← Nat.add_assoc] at hc1
      have HA := Lib.hid eA
      clear hx0 hx1
      rw [eA]
      clear eA
      have hsz := hb.size
      have l0 : (0 : Int) ≤ (i : Int) := by omega
      have l1 : (i : Int) < (L : Int) := by omega
      have hS0 : Below w.heap.size w wr.drew ∧ wr.cell? ⟨g, off + i * 2, none⟩ = some (.int .i64 x.c) ∧ wr.cell? ⟨g, off + i * 2 + 1, none⟩ = some (.bool x.up) := ⟨hb.drew, hc0, hc1⟩
      have HRW := Lib.hid hrow
      go_wp2_with fail
      go_region_held3 (fun wx => Below w.heap.size w wx ∧ wx.cell? ⟨g, off + i * 2, none⟩ = some (.int .i64 x.c) ∧ wx.cell? ⟨g, off + i * 2 + 1, none⟩ = some (.bool x.up)) ((first | exact hS0 | exact ⟨hS0.1.alloc (by simp <;> omega) _, (World.cell?_alloc_lt _ _ _ (by simp <;> omega)).trans hS0.2.1, (World.cell?_alloc_lt _ _ _ (by simp <;> omega)).trans hS0.2.2⟩ | exact hS9 | assumption | go_keep)) (first
        | (refine step_append_lies _ rfl (.tmp 17) (.tmp 30) 64 rfl w.heap.size 69 i0 (.agg #[.int .i64 0, .bool false]) 2 16 Try.underlying64 hi hz0 hz1 hz2 rfl (by decide) _ (L - (i + 1)) _ rfl (World.ownsRow.alloc HRW.out _) _ 1 1 [.int .i64 x.c, .bool (!x.up)] rfl rfl (new_cellsD (by simp)) (by intro u hu; simp at hu; rcases hu with rfl | rfl <;> rfl) (by omega) (by unfold maxLen; omega) (by omega) (by simp <;> omega) _ rfl ?_; intro g9 cap w9 hown9 hgr9 _ _; (have hh : Below _ _ _ ∧ _ ∧ _ := (by assumption)); have hkb : Below w.heap.size _ w9 := grown_below hgr9 (by simp <;> omega) (fun q hq => (HRW.out.lt q hq).1); have hS9 : Below w.heap.size w w9 ∧ w9.cell? ⟨g, off + i * 2, none⟩ = some (.int .i64 x.c) ∧ w9.cell? ⟨g, off + i * 2 + 1, none⟩ = some (.bool x.up) := ⟨hh.1.trans hkb, (hkb.cell (p := ⟨g, off + i * 2, none⟩) hg).trans hh.2.1, (hkb.cell (p := ⟨g, off + i * 2 + 1, none⟩) hg).trans hh.2.2⟩; have HN := Lib.hid hown9; clear hown9 hgr9))
      have hb9 := hS9.1
      clear hS0 hS9 hrow hc0 hc1
      go_wp2_with fail
      (try rw [← HA.out])
      go_roundw
      case rel => exact ⟨i, ls ++ [⟨x.c, !x.up⟩], by omega, by go_num, by rw [lfs_app]; exact own_n HN.out (by omega), hb9⟩
      case measure => simp [intOf] <;> omega
end Go.Proofs.Ytaalfmijpbnpkaa
