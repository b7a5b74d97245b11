/-
  General words, no program in them: slices that read as lists of cells, small facts on integers, strings and results.
-/
import Derived.WalkKit
import Derived.Below
import Derived.Laws.OwnMore
import Derived.Deep.AppendLies
import Derived.Deep.Draws
import Derived.Lib.Hide
import Derived.Laws.Rows
import Derived.IntWalk
namespace Go.Proofs.YtoclndbenpagnaaDoor
open Go.RowKit

theorem block_of_add (a : Addr) (n : Nat) : (a.add n).block = a.block := by unfold Addr.add; split <;> rfl
theorem add_of_add (a : Addr) (i j : Nat) : (a.add i).add j = a.add (i + j) := by
  unfold Addr.add
  by_cases hi : i = 0 <;> by_cases hj : j = 0 <;> simp [hi, hj, Nat.add_assoc]

/-- The slice of length n at A holds the cells xs, below block B. -/
def Reads (w : World) (B size : Nat) (A : Option Addr) (n : Nat) (xs : List Value) : Prop :=
  xs.length = n * size ∧ (0 < n → ∃ ad, A = some ad ∧ ad.block < B ∧ ∀ j u, xs[j]? = some u → w.cell? (ad.add j) = some u)

section
variable {w w' : World} {B B' size n : Nat} {A : Option Addr} {xs : List Value}
theorem Reads.none_ : Reads w B size A 0 [] := ⟨by simp, fun h => absurd h (by omega)⟩
theorem Reads.at_ {k : Nat} (h : Reads w B 1 A n xs) (hk : k < n) : ∃ ad u, A = some ad ∧ ad.block < B ∧ xs[k]? = some u ∧ w.cell? (ad.add k) = some u := by
  obtain ⟨ad, e, hb, hc⟩ := h.2 (by omega)
  have hl : k < xs.length := by have := h.1; omega
  exact ⟨ad, xs[k], e, hb, List.getElem?_eq_getElem hl, hc k _ (List.getElem?_eq_getElem hl)⟩
theorem Reads.keep (h : Reads w B size A n xs) (hk : ∀ p : Addr, p.block < B → w'.cell? p = w.cell? p) : Reads w' B size A n xs :=
  ⟨h.1, fun hn => by
    obtain ⟨ad, e, hb, hc⟩ := h.2 hn
    exact ⟨ad, e, hb, fun j u hu => (hk _ (by rw [block_of_add]; exact hb)).trans (hc j u hu)⟩⟩
theorem Reads.more (h : Reads w B size A n xs) (hB : B ≤ B') : Reads w B' size A n xs :=
  ⟨h.1, fun hn => by
    obtain ⟨ad, e, hb, hc⟩ := h.2 hn
    exact ⟨ad, e, by omega, hc⟩⟩
theorem Reads.below (h : Reads w B size A n xs) (hb : Below B w w') : Reads w' B size A n xs := h.keep fun _ hp => hb.cell hp
theorem Reads.drew (h : Reads w B size A n xs) : Reads w.drew B size A n xs := h
theorem Reads.drewN (h : Reads w B size A n xs) (k : Nat) : Reads (w.drewN k) B size A n xs := h
theorem Reads.alloc (h : Reads w B size A n xs) (hB : B ≤ w.heap.size) (o : Obj) : Reads (w.alloc o) B size A n xs := h.keep fun p hp => World.cell?_alloc_lt w o p (by omega)
theorem Reads.setCell (h : Reads w B size A n xs) {p : Addr} (hB : B ≤ p.block) (u : Value) : Reads (w.setCell p u) B size A n xs :=
  h.keep fun q hq => World.cell?_setCell_other w p q u (fun e => by subst e; omega)
theorem Reads.grown (h : Reads w B size A n xs) {row : Option Nat} (hg : w.grownBy w' row) (hB : B ≤ w.heap.size) (hr : ∀ g, row = some g → B ≤ g) : Reads w' B size A n xs :=
  h.keep fun p hp => World.cell?_of_block (hg.block p.block (by omega) (fun e => by have := hr _ e.symm; omega))
theorem Reads.cut (h : Reads w B size A n xs) {k cap : Nat} (hk : k ≤ n) (hc : n ≤ cap) :
    Reads w B size (if cap = k then A else A.map (·.add (k * size))) (n - k) (xs.drop (k * size)) := by
  refine ⟨by rw [List.length_drop, h.1, Nat.sub_mul], fun hn => ?_⟩
  obtain ⟨ad, rfl, hb, hcell⟩ := h.2 (by omega)
  rw [if_neg (by omega)]
  refine ⟨ad.add (k * size), rfl, by rw [block_of_add]; exact hb, fun j u hu => ?_⟩
  rw [add_of_add]
  exact hcell _ u (by rw [← hu, List.getElem?_drop])
theorem Reads.of_own {base : Nat} {e : TypeId} {c : Nat} (h : w.ownsRow base e size (.slice A n c) n xs) : Reads w w.heap.size size A n xs := by
  refine ⟨h.1, fun hn => ?_⟩
  obtain ⟨g, cap, hv, _, hlt⟩ := h.form hn
  have hA : A = some ⟨g, 0, none⟩ := by injection hv
  subst hA
  exact ⟨_, rfl, hlt, h.cells (g := g) rfl⟩
end

section
variable {w w' : World} {B B' size n : Nat} {A : Option Addr} {xs : List Int}
/-- A slice of ints. -/
def RInts (w : World) (B : Nat) (A : Option Addr) (n : Nat) (xs : List Int) : Prop := Reads w B 1 A n (xs.map (Value.int .i64))
theorem RInts.len (h : RInts w B A n xs) : xs.length = n := by have := h.1; simpa using this
theorem RInts.at_ {k : Nat} (h : RInts w B A n xs) (hk : k < n) : ∃ ad y, A = some ad ∧ ad.block < B ∧ xs.drop k = y :: xs.drop (k + 1) ∧ xs[k]? = some y ∧ w.cell? (ad.add k) = some (.int .i64 y) := by
  obtain ⟨ad, u, hA, hb, hx, hc⟩ := Reads.at_ h hk
  rw [List.getElem?_map] at hx
  have hl : k < xs.length := by rw [h.len]; exact hk
  rw [List.getElem?_eq_getElem hl] at hx
  injection hx with hx
  exact ⟨ad, xs[k], hA, hb, List.drop_eq_getElem_cons hl, List.getElem?_eq_getElem hl, by rw [hx]; exact hc⟩
theorem RInts.below (h : RInts w B A n xs) (hb : Below B w w') : RInts w' B A n xs := Reads.below h hb
theorem RInts.more (h : RInts w B A n xs) (hB : B ≤ B') : RInts w B' A n xs := Reads.more h hB
end

/-- The cells of a literal slice of ints. -/
theorem rints_new {w : World} {e : TypeId} (xs : List Int) (cs : Array Value) (hcs : cs.toList = xs.map (Value.int .i64)) :
    RInts (w.alloc (.cells cs e)) (w.heap.size + 1) (some ⟨w.heap.size, 0, none⟩) xs.length xs := by
  refine ⟨by simp, fun _ => ⟨_, rfl, by simp, fun j u hu => ?_⟩⟩
  rw [Addr.add_lit, cell_of_row _ _ _ cs e (0, 0) (heap_alloc_new w _), ← hu, ← hcs]
  simp

/-- A slice of rows of some cells each (structs). -/
def RRow (w : World) (B size : Nat) (A : Option Addr) (n : Nat) (rows : List (List Value)) : Prop :=
  rows.length = n ∧ (∀ r ∈ rows, r.length = size) ∧ Reads w B size A n rows.flatten
theorem flatten_at {α : Type _} {size : Nat} : ∀ {rows : List (List α)} {k : Nat} {row : List α}, (∀ r ∈ rows, r.length = size) → rows[k]? = some row → ∀ j, j < size → rows.flatten[k * size + j]? = row[j]?
  | [], _, _, _, h, _, _ => by simp at h
  | r :: rows, 0, row, hl, h, j, hj => by
    simp at h
    subst h
    rw [List.flatten_cons, Nat.zero_mul, Nat.zero_add, List.getElem?_append_left (by rw [hl r (by simp)]; exact hj)]
  | r :: rows, k + 1, row, hl, h, j, hj => by
    have hr := hl r (by simp)
    have e : (k + 1) * size + j = r.length + (k * size + j) := by rw [hr, Nat.add_mul]; omega
    rw [List.flatten_cons, e, List.getElem?_append_right (by omega), Nat.add_sub_cancel_left]
    exact flatten_at (fun r' hr' => hl r' (List.mem_cons_of_mem _ hr')) (by simpa using h) j hj
section
variable {w w' : World} {B B' size n : Nat} {A : Option Addr} {rows : List (List Value)}
theorem spot_none {ad : Addr} {u : Value} (h : w.cell? ad = some u) : ad = ⟨ad.block, ad.off, none⟩ := by
  obtain ⟨b, o, s⟩ := ad
  cases s with
  | none => rfl
  | some x =>
    unfold World.cell? at h
    simp at h
    split at h <;> simp_all
theorem RRow.at_ {k : Nat} (h : RRow w B size A n rows) (hk : k < n) (hsz : 0 < size) : ∃ b off row, A = some ⟨b, off, none⟩ ∧ b < B ∧ rows.drop k = row :: rows.drop (k + 1) ∧ rows[k]? = some row ∧ row.length = size ∧ ∀ j u, row[j]? = some u → w.cell? ⟨b, off + k * size + j, none⟩ = some u := by
  obtain ⟨hl, hs, hlen, hr⟩ := h
  obtain ⟨ad, hA, hb, hc⟩ := hr (by omega)
  have hkl : k < rows.length := by omega
  have hrow : rows[k]? = some rows[k] := List.getElem?_eq_getElem hkl
  have h0 : 0 < rows.flatten.length := by rw [hlen]; exact Nat.mul_pos (by omega) hsz
  have hc0 := hc 0 _ (List.getElem?_eq_getElem h0)
  have hsp := spot_none (by simpa [Addr.add] using hc0)
  refine ⟨ad.block, ad.off, rows[k], by rw [← hsp]; exact hA, hb, List.drop_eq_getElem_cons hkl, hrow, hs _ (List.getElem_mem hkl), fun j u hu => ?_⟩
  have hj : j < size := by
    have := (List.getElem?_eq_some_iff.1 hu).1
    rwa [hs _ (List.getElem_mem hkl)] at this
  have := hc (k * size + j) u (by rw [flatten_at hs hrow j hj, hu])
  rwa [hsp, Addr.add_lit, ← Nat.add_assoc] at this
theorem RRow.below (h : RRow w B size A n rows) (hb : Below B w w') : RRow w' B size A n rows := ⟨h.1, h.2.1, h.2.2.below hb⟩
theorem RRow.more (h : RRow w B size A n rows) (hB : B ≤ B') : RRow w B' size A n rows := ⟨h.1, h.2.1, h.2.2.more hB⟩
theorem RRow.alloc (h : RRow w B size A n rows) (hB : B ≤ w.heap.size) (o : Obj) : RRow (w.alloc o) B size A n rows := ⟨h.1, h.2.1, h.2.2.alloc hB o⟩
end

/-- Block g is just the cells cs of element type t, none frozen. -/
def Blk (w : World) (g : Nat) (t : TypeId) (cs : List Value) : Prop := w.heap[g]? = some (.cells cs.toArray t (0, 0))
section
variable {w w' : World} {g : Nat} {t : TypeId} {cs : List Value}
theorem Blk.lt (h : Blk w g t cs) : g < w.heap.size := by
  rcases Nat.lt_or_ge g w.heap.size with hlt | hge
  · exact hlt
  · unfold Blk at h; rw [Array.getElem?_eq_none hge] at h; cases h
theorem Blk.cell (h : Blk w g t cs) (i : Nat) : w.cell? ⟨g, i, none⟩ = cs[i]? := by rw [cell_of_row w g i cs.toArray t (0, 0) h]; simp
theorem Blk.frozen (h : Blk w g t cs) (i : Nat) : w.frozen? ⟨g, i, none⟩ = false := by
  unfold Blk at h
  simp [World.frozen?, h]
theorem Blk.new (w : World) (t : TypeId) (cs : List Value) : Blk (w.alloc (.cells cs.toArray t)) w.heap.size t cs := heap_alloc_new w _
theorem Blk.new' (w : World) (t : TypeId) (cs : Array Value) : Blk (w.alloc (.cells cs t)) w.heap.size t cs.toList := heap_alloc_new w _
theorem Blk.drew (h : Blk w g t cs) : Blk w.drew g t cs := h
theorem Blk.drewN (h : Blk w g t cs) (n : Nat) : Blk (w.drewN n) g t cs := h
theorem Blk.alloc (h : Blk w g t cs) (o : Obj) : Blk (w.alloc o) g t cs := (Below.heap_alloc w o g h.lt).trans h
theorem Blk.set_ (h : Blk w g t cs) (i : Nat) (u : Value) : Blk (w.setCell ⟨g, i, none⟩ u) g t (cs.set i u) := by
  unfold Blk at h ⊢
  simp [World.setCell, Array.getElem?_modify, h]
theorem Blk.far (h : Blk w g t cs) {p : Addr} (hp : g ≠ p.block) (u : Value) : Blk (w.setCell p u) g t cs := (Below.heap_setCell w p u g hp).trans h
theorem Blk.below {B : Nat} (h : Blk w g t cs) (hb : Below B w w') (hg : g < B) : Blk w' g t cs := (hb.block g hg).trans h
theorem Blk.reads (h : Blk w g t cs) {size n : Nat} (hn : cs.length = n * size) : Reads w w.heap.size size (some ⟨g, 0, none⟩) n cs :=
  ⟨hn, fun _ => ⟨_, rfl, h.lt, fun j u hu => by rw [Addr.add_lit, Nat.zero_add, h.cell]; exact hu⟩⟩
theorem Blk.rintsN {xs : List Int} {n : Nat} (h : Blk w g t (xs.map (Value.int .i64))) (hl : xs.length = n) : RInts w w.heap.size (some ⟨g, 0, none⟩) n xs := h.reads (by simp [hl])
theorem Blk.rints {xs : List Int} (h : Blk w g t (xs.map (Value.int .i64))) : RInts w w.heap.size (some ⟨g, 0, none⟩) xs.length xs := h.reads (by simp)
end
theorem fill_step {cs F : List Value} {k : Nat} {v : Value} (h : cs.take k = F.take k) (hk : k < cs.length) (hv : F[k]? = some v) : (cs.set k v).take (k + 1) = F.take (k + 1) := by
  rw [List.take_add_one, List.take_add_one, hv, List.take_set_of_le (Nat.le_refl k), h, List.getElem?_set_self hk]
theorem below_drewN {B : Nat} {a w : World} (h : Below B a w) (n : Nat) : Below B a (w.drewN n) := ⟨h.os, h.tape, h.output, h.size, h.block⟩

theorem wrapI {n : Int} (h1 : -9223372036854775808 ≤ n) (h2 : n ≤ 9223372036854775807) : IntKind.i64.wrap n = n := IntWalk.i64_in n ⟨h1, h2⟩

/-- What a box held when it was laid it holds as long as all below it is kept. -/
theorem box_at {w w1 : World} {cs : Array Value} {t : TypeId} {fr : Nat × Nat} (hb : Below (w.alloc (.cells cs t fr)).heap.size (w.alloc (.cells cs t fr)) w1) (i : Nat) : w1.cell? ⟨w.heap.size, i, none⟩ = cs[i]? := by
  rw [hb.cell (by simp), cell_of_row _ _ _ cs t fr (heap_alloc_new w _)]
theorem box4 {w w1 : World} {x0 x1 x2 x3 : Value} {t : TypeId} (hb : Below (w.alloc (.cells #[x0, x1, x2, x3] t)).heap.size (w.alloc (.cells #[x0, x1, x2, x3] t)) w1) :
    w1.cell? ⟨w.heap.size, 0, none⟩ = some x0 ∧ w1.cell? ⟨w.heap.size, 1, none⟩ = some x1 ∧ w1.cell? ⟨w.heap.size, 2, none⟩ = some x2 ∧ w1.cell? ⟨w.heap.size, 3, none⟩ = some x3 :=
  ⟨box_at hb 0, box_at hb 1, box_at hb 2, box_at hb 3⟩

/-- A bool test, kept shut while the walk runs. -/
def inB (n lo hi : Int) : Bool := decide (lo ≤ n) && decide (n ≤ hi)
theorem inB_true {n lo hi : Int} : inB n lo hi = true ↔ lo ≤ n ∧ n ≤ hi := by simp [inB]
theorem inB_false {n lo hi : Int} : inB n lo hi = false ↔ ¬ (lo ≤ n ∧ n ≤ hi) := by rw [← inB_true]; simp

def allB (lo hi : Int) : List Int → Bool
  | [] => true
  | x :: r => inB x lo hi && allB lo hi r

theorem ret_bool {a b : Bool} (h : a = b) : Ending.returned (.bool a) = .returned (.bool b) := by rw [h]
theorem ret_int {k : IntKind} {a b : Int} (h : a = b) : Ending.returned (.int k a) = .returned (.int k b) := by rw [h]

theorem bcell {W w1 : World} (hb : Below W.heap.size W w1) : (∀ b o, b < W.heap.size → w1.cell? ⟨b, o, none⟩ = W.cell? ⟨b, o, none⟩) ∧ (∀ b o, b < W.heap.size → w1.frozen? ⟨b, o, none⟩ = W.frozen? ⟨b, o, none⟩) :=
  ⟨fun b o h => hb.cell (p := ⟨b, o, none⟩) h, fun b o h => hb.frozen (p := ⟨b, o, none⟩) h⟩

end Go.Proofs.YtoclndbenpagnaaDoor
