/-
  Slices of forms: how they lie in memory, and the contracts of the laws' own helpers on them.
-/
import Derived.Test.YtfemacefkaehjaaIn
import Derived.Deep.RegionHeld3
namespace Go.Proofs.Ytfemacefkaehjaa
open Go.RowKit
structure Frm where
  held : List Int
  wanted : List Int
/-- A form with its places. -/
structure FV where
  a1 : Option Addr
  c1 : Nat
  a2 : Option Addr
  c2 : Nat
  f : Frm
def FV.v1 (x : FV) : Value := .slice x.a1 x.f.held.length x.c1
def FV.v2 (x : FV) : Value := .slice x.a2 x.f.wanted.length x.c2
def FV.row (x : FV) : List Value := [.slice x.a1 x.f.held.length x.c1, .slice x.a2 x.f.wanted.length x.c2]
def FV.In (w : World) (B : Nat) (x : FV) : Prop := RInts w B x.a1 x.f.held.length x.f.held ∧ RInts w B x.a2 x.f.wanted.length x.f.wanted
def RForms (w : World) (B : Nat) (A : Option Addr) (n : Nat) (xs : List FV) : Prop := RRow w B 2 A n (xs.map FV.row) ∧ ∀ x ∈ xs, x.In w B
section
variable {w w' : World} {B B' n k : Nat} {A : Option Addr} {xs : List FV}
theorem RForms.len (h : RForms w B A n xs) : xs.length = n := by have := h.1.1; simpa using this
theorem RForms.below (h : RForms w B A n xs) (hb : Below B w w') : RForms w' B A n xs := ⟨RRow.below h.1 hb, fun x hx => ⟨(h.2 x hx).1.below hb, (h.2 x hx).2.below hb⟩⟩
theorem RForms.more (h : RForms w B A n xs) (hB : B ≤ B') : RForms w B' A n xs := ⟨RRow.more h.1 hB, fun x hx => ⟨(h.2 x hx).1.more hB, (h.2 x hx).2.more hB⟩⟩
theorem RForms.alloc (h : RForms w B A n xs) (hB : B ≤ w.heap.size) (o : Obj) : RForms (w.alloc o) B A n xs := ⟨RRow.alloc h.1 hB o, fun x hx => ⟨Reads.alloc (h.2 x hx).1 hB o, Reads.alloc (h.2 x hx).2 hB o⟩⟩
theorem RForms.at_ (h : RForms w B A n xs) (hk : k < n) : ∃ b off x, A = some ⟨b, off, none⟩ ∧ b < B ∧ xs.drop k = x :: xs.drop (k + 1) ∧ xs[k]? = some x ∧
    w.cell? ⟨b, off + k * 2, none⟩ = some (.slice x.a1 x.f.held.length x.c1) ∧ w.cell? ⟨b, off + k * 2 + 1, none⟩ = some (.slice x.a2 x.f.wanted.length x.c2) ∧ x.In w B := by
  obtain ⟨b, off, row, hA, hb, _, hr, _, hc⟩ := RRow.at_ h.1 hk (by omega)
  have hl : k < xs.length := by have := h.len; omega
  rw [List.getElem?_map, List.getElem?_eq_getElem hl] at hr
  injection hr with hr
  subst hr
  exact ⟨b, off, xs[k], hA, hb, List.drop_eq_getElem_cons hl, List.getElem?_eq_getElem hl, hc 0 _ rfl, hc 1 _ rfl, h.2 _ (List.getElem_mem hl)⟩
end
def nq (a b : Value) : Prop := ∀ k, a.ownBlock = some k → b.ownBlock ≠ some k
/-- The inner slices of forms, all own, no two in one block. -/
def OIn (w : World) (lo : Nat) (ys : List FV) : Prop :=
  (∀ (i : Nat) (y : FV), ys[i]? = some y → Own w lo y.v1 y.f.held.length y.f.held ∧ Own w lo y.v2 y.f.wanted.length y.f.wanted) ∧
  ∀ (i : Nat) (y : FV), ys[i]? = some y → nq y.v1 y.v2 ∧ ∀ (i' : Nat) (y' : FV), ys[i']? = some y' → i < i' → nq y.v1 y'.v1 ∧ nq y.v1 y'.v2 ∧ nq y.v2 y'.v1 ∧ nq y.v2 y'.v2
theorem OIn.nil (w : World) (lo : Nat) : OIn w lo [] := ⟨by simp, by simp⟩
theorem OIn.step {w w' : World} {lo : Nat} {ys : List FV} (h : OIn w lo ys) (hb : Below w.heap.size w w') : OIn w' lo ys :=
  ⟨fun i y hy => ⟨row_step (h.1 i y hy).1 hb, row_step (h.1 i y hy).2 hb⟩, h.2⟩
theorem OIn.alloc {w : World} {lo : Nat} {ys : List FV} (h : OIn w lo ys) (o : Obj) : OIn (w.alloc o) lo ys :=
  ⟨fun i y hy => ⟨row_alloc (h.1 i y hy).1 o, row_alloc (h.1 i y hy).2 o⟩, h.2⟩
/-- A store into a block below lo. -/
theorem OIn.low {w : World} {lo : Nat} {ys : List FV} (h : OIn w lo ys) {p : Addr} (hp : p.block < lo) (u : Value) : OIn (w.setCell p u) lo ys :=
  ⟨fun i y hy => ⟨ownsRow_setCell_below (h.1 i y hy).1 hp u, ownsRow_setCell_below (h.1 i y hy).2 hp u⟩, h.2⟩
theorem OIn.lt {w : World} {lo : Nat} {ys : List FV} (h : OIn w lo ys) {i : Nat} {y : FV} (hy : ys[i]? = some y) : (∀ k, y.v1.ownBlock = some k → lo ≤ k ∧ k < w.heap.size) ∧ (∀ k, y.v2.ownBlock = some k → lo ≤ k ∧ k < w.heap.size) :=
  ⟨fun k hk => (h.1 i y hy).1.lt k hk, fun k hk => (h.1 i y hy).2.lt k hk⟩
/-- One more form, its slices made later than all the others. -/
theorem OIn.snoc {w w' : World} {lo : Nat} {ys : List FV} {y : FV} (h : OIn w lo ys) (hb : Below w.heap.size w w') (h1 : Own w' w.heap.size y.v1 y.f.held.length y.f.held) (h2 : Own w' w.heap.size y.v2 y.f.wanted.length y.f.wanted) (hne : nq y.v1 y.v2) (hlo : lo ≤ w.heap.size) : OIn w' lo (ys ++ [y]) := by
  have up : ∀ {v : Value} {n : Nat} {zs : List Int}, Own w' w.heap.size v n zs → Own w' lo v n zs := by
    intro v n zs ho
    refine ⟨ho.1, ?_⟩
    rcases ho.2 with hn | ⟨g, cap, cur, rfl, hB, rest⟩
    · exact .inl hn
    · exact .inr ⟨g, cap, cur, rfl, by omega, rest⟩
  have hs := h.step hb
  have cs : ∀ {i : Nat} {z : FV}, (ys ++ [y])[i]? = some z → ys[i]? = some z ∨ (i = ys.length ∧ z = y) := by
    intro i z hz
    rcases Nat.lt_or_ge i ys.length with hi | hi
    · left; rwa [List.getElem?_append_left hi] at hz
    · right
      rw [List.getElem?_append_right hi] at hz
      have : i - ys.length = 0 := by
        rcases Nat.eq_zero_or_pos (i - ys.length) with h0 | h0
        · exact h0
        · rw [List.getElem?_eq_none (by simp; omega)] at hz; cases hz
      rw [this] at hz
      simp at hz
      exact ⟨by omega, hz.symm⟩
  have far : ∀ {a b : Value} , (∀ k, a.ownBlock = some k → lo ≤ k ∧ k < w.heap.size) → (∀ k, b.ownBlock = some k → w.heap.size ≤ k ∧ k < w'.heap.size) → nq a b := by
    intro a b ha hb' k hk hk'
    have := ha k hk
    have := hb' k hk'
    omega
  refine ⟨fun i z hz => ?_, fun i z hz => ⟨?_, fun i' z' hz' hii => ?_⟩⟩
  · rcases cs hz with hz | ⟨_, rfl⟩
    · exact hs.1 i z hz
    · exact ⟨up h1, up h2⟩
  · rcases cs hz with hz | ⟨_, rfl⟩
    · exact (h.2 i z hz).1
    · exact hne
  · rcases cs hz' with q1 | ⟨e1, e2⟩
    · have l1 := (List.getElem?_eq_some_iff.1 q1).1
      rcases cs hz with q2 | ⟨e3, e4⟩
      · exact (h.2 i z q2).2 i' z' q1 hii
      · omega
    · rcases cs hz with q2 | ⟨e3, e4⟩
      · have l := h.lt q2
        subst e2
        exact ⟨far l.1 h1.lt, far l.1 h2.lt, far l.2 h1.lt, far l.2 h2.lt⟩
      · omega
/-- A copy of forms reads as forms. -/
theorem RForms.of_copy {w : World} {g n lo : Nat} {ys : List FV} (h : Blk w g 40 (ys.map FV.row).flatten) (ho : OIn w lo ys) (hl : ys.length = n) : RForms w w.heap.size (some ⟨g, 0, none⟩) n ys := by
  refine ⟨⟨by simpa using hl, by simp [FV.row], h.reads (by rw [flatten_len (size := 2) (by simp [FV.row]), List.length_map, hl])⟩, fun x hx => ?_⟩
  obtain ⟨i, hi⟩ := List.getElem?_of_mem hx
  have := ho.1 i x hi
  exact ⟨own_rints this.1, own_rints this.2⟩

theorem toForm_any (x : FV) (B : Nat) (w : World) (hx : x.In w B) (hB : B ≤ w.heap.size) (hl1 : x.f.held.length ≤ 1048576) (hl2 : x.f.wanted.length ≤ 1048576) :
    Calls Try.prog 20 #[.agg #[.slice x.a1 x.f.held.length x.c1, .slice x.a2 x.f.wanted.length x.c2]] w fun e w' => ∃ g1 g2, e = .returned (.agg #[.slice (some ⟨g1, 0, none⟩) x.f.held.length x.f.held.length, .slice (some ⟨g2, 0, none⟩) x.f.wanted.length x.f.wanted.length]) ∧ w.heap.size ≤ g1 ∧ g1 < g2 ∧ Blk w' g1 3 (x.f.held.map (Value.int .i64)) ∧ Blk w' g2 3 (x.f.wanted.map (Value.int .i64)) ∧ Below w.heap.size w w' := by
  have i1 := (((hx.1.more hB).alloc (Nat.le_refl _) (.cells #[.slice x.a1 x.f.held.length x.c1, .slice x.a2 x.f.wanted.length x.c2] 39)).alloc (by simp) (.cells #[.slice none 0 0, .slice none 0 0] 40)).alloc (by simp <;> omega) (.cells #[.slice none 0 0, .slice none 0 0] 40)
  have i2 := (((hx.2.more hB).alloc (Nat.le_refl _) (.cells #[.slice x.a1 x.f.held.length x.c1, .slice x.a2 x.f.wanted.length x.c2] 39)).alloc (by simp) (.cells #[.slice none 0 0, .slice none 0 0] 40)).alloc (by simp <;> omega) (.cells #[.slice none 0 0, .slice none 0 0] 40)
  have hz1 := ((Blk.new' w 39 #[.slice x.a1 x.f.held.length x.c1, .slice x.a2 x.f.wanted.length x.c2]).alloc (.cells #[.slice none 0 0, .slice none 0 0] 40)).alloc (.cells #[.slice none 0 0, .slice none 0 0] 40)
  have hz2 : Blk (((w.alloc (.cells #[.slice x.a1 x.f.held.length x.c1, .slice x.a2 x.f.wanted.length x.c2] 39)).alloc (.cells #[.slice none 0 0, .slice none 0 0] 40)).alloc (.cells #[.slice none 0 0, .slice none 0 0] 40)) (w.heap.size + 1) 40 [.slice none 0 0, .slice none 0 0] := Blk.alloc (by simpa using Blk.new' (w.alloc (.cells #[.slice x.a1 x.f.held.length x.c1, .slice x.a2 x.f.wanted.length x.c2] 39)) 40 #[.slice none 0 0, .slice none 0 0]) _
  have hz3 : Blk (((w.alloc (.cells #[.slice x.a1 x.f.held.length x.c1, .slice x.a2 x.f.wanted.length x.c2] 39)).alloc (.cells #[.slice none 0 0, .slice none 0 0] 40)).alloc (.cells #[.slice none 0 0, .slice none 0 0] 40)) (w.heap.size + 2) 40 [.slice none 0 0, .slice none 0 0] := by simpa using Blk.new' ((w.alloc (.cells #[.slice x.a1 x.f.held.length x.c1, .slice x.a2 x.f.wanted.length x.c2] 39)).alloc (.cells #[.slice none 0 0, .slice none 0 0] 40)) 40 #[.slice none 0 0, .slice none 0 0]
  have hb : Below w.heap.size w (((w.alloc (.cells #[.slice x.a1 x.f.held.length x.c1, .slice x.a2 x.f.wanted.length x.c2] 39)).alloc (.cells #[.slice none 0 0, .slice none 0 0] 40)).alloc (.cells #[.slice none 0 0, .slice none 0 0] 40)) := (((Below.refl _ _).alloc (Nat.le_refl _) _).alloc (by simp) _).alloc (by simp <;> omega) _
  go_enter Try.func20, Try.ntmps20
  go_wp2_with fail
  refine (toIntS_any _ _ _ _ x.f.held _ i1 (by simp <;> omega) hl1).mono ?_
  rintro e1 w1 ⟨g1, rfl, hg1, hk1, hn⟩
  simp only [World.size_alloc] at hg1
  replace hz1 := hz1.below hn hz1.lt
  replace hz2 := hz2.below hn hz2.lt
  replace hz3 := hz3.below hn hz3.lt
  replace hb := hb.trans (hn.mono hb.size)
  have i3 := ((RInts.below i2 (hn.mono (by simp <;> omega))).more (by have := hn.size; simp at this; omega : w.heap.size ≤ w1.heap.size))
  have hs1 := hn.size
  simp only [World.size_alloc] at hs1
  clear hn i1 i2
  have a0 : _ = some (.slice x.a1 x.f.held.length x.c1 : Value) := hz1.cell 0
  have a1 : _ = some (.slice x.a2 x.f.wanted.length x.c2 : Value) := hz1.cell 1
  have c0 : _ = some (.slice none 0 0 : Value) := hz3.cell 0
  have c1 : _ = some (.slice none 0 0 : Value) := hz3.cell 1
  have f0 := hz3.frozen 0
  have f1 := hz3.frozen 1
  go_wp2_with fail
  refine (toIntS_any _ _ _ _ x.f.wanted _ (Reads.setCell ((hx.2.more hB).below hb) (by simp <;> omega) _) (by simp <;> omega) hl2).mono ?_
  rintro e1 w2 ⟨g2, rfl, hg2, hk2, hn⟩
  have hz4 := hz3.set_ 0 (.slice (some ⟨g1, 0, none⟩) x.f.held.length x.f.held.length)
  have hk3 := hk1.far (p := ⟨w.heap.size + 2, 0, none⟩) (by simp <;> omega) (.slice (some ⟨g1, 0, none⟩) x.f.held.length x.f.held.length)
  have hz5 := hz2.far (p := ⟨w.heap.size + 2, 0, none⟩) (by simp) (.slice (some ⟨g1, 0, none⟩) x.f.held.length x.f.held.length)
  have hs2 := hn.size
  have hgg : g1 < g2 := by have h1 := hk1.lt; have h2 : w1.heap.size ≤ g2 := (by simpa [World.setCell] using hg2); omega
  replace hz4 := hz4.below hn hz4.lt
  replace hz5 := hz5.below hn hz5.lt
  replace hk3 := hk3.below hn hk3.lt
  replace hb := (hb.setCell (p := ⟨w.heap.size + 2, 0, none⟩) (by simp) (.slice (some ⟨g1, 0, none⟩) x.f.held.length x.f.held.length)).trans (hn.mono (by have := hb.size; simp; omega))
  clear hn hz1 hz2 hz3 hk1 a0 a1 c0 c1 f0 f1
  have c0 : _ = some (.slice (some ⟨g1, 0, none⟩) x.f.held.length x.f.held.length : Value) := hz4.cell 0
  have c1 : _ = some (.slice none 0 0 : Value) := hz4.cell 1
  have f0 := hz4.frozen 0
  have f1 := hz4.frozen 1
  have d0 : _ = some (.slice none 0 0 : Value) := hz5.cell 0
  have d1 : _ = some (.slice none 0 0 : Value) := hz5.cell 1
  have y0 := hz5.frozen 0
  have y1 := hz5.frozen 1
  go_wp2_with fail
  clear c0 c1 f0 f1 d0 d1 y0 y1
  have hz6 := ((hz5.far (p := ⟨w.heap.size + 2, 1, none⟩) (by simp) (.slice (some ⟨g2, 0, none⟩) x.f.wanted.length x.f.wanted.length)).set_ 0 (.slice (some ⟨g1, 0, none⟩) x.f.held.length x.f.held.length)).set_ 1 (.slice (some ⟨g2, 0, none⟩) x.f.wanted.length x.f.wanted.length)
  have q0 : _ = some (.slice (some ⟨g1, 0, none⟩) x.f.held.length x.f.held.length : Value) := hz6.cell 0
  have q1 : _ = some (.slice (some ⟨g2, 0, none⟩) x.f.wanted.length x.f.wanted.length : Value) := hz6.cell 1
  exact bodyPost_ret (v := .agg #[.slice (some ⟨g1, 0, none⟩) x.f.held.length x.f.held.length, .slice (some ⟨g2, 0, none⟩) x.f.wanted.length x.f.wanted.length]) (by simp [results, Try.results20, go_sem, q0, q1]) rfl ⟨g1, g2, rfl, by omega, hgg, ((hk3.far (by simp <;> omega) _).far (by simp <;> omega) _).far (by simp <;> omega) _, ((hk2.far (by simp <;> omega) _).far (by simp <;> omega) _).far (by simp <;> omega) _, ((hb.setCell (by simp <;> omega) _).setCell (by simp <;> omega) _).setCell (by simp <;> omega) _⟩
end Go.Proofs.Ytfemacefkaehjaa
