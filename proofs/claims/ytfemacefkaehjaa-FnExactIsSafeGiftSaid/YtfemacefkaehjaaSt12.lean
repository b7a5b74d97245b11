/-
  Contracts: FinishForm.
-/
import Derived.Test.YtfemacefkaehjaaSt11
import Derived.Test.YtfemacefkaehjaaSt7
namespace Go.Proofs.Ytfemacefkaehjaa
open Go.RowKit
def dropAt (fs : List Frm) (j : Nat) : List Frm := fs.take j ++ fs.drop (j + 1)
def restF (fs : List Frm) (j k : Nat) : List Frm := if k ≤ j then (fs.take j).drop k ++ fs.drop (j + 1) else fs.drop k
theorem restF_start (fs : List Frm) (j : Nat) : restF fs j 0 = dropAt fs j := by rw [restF, if_pos (Nat.zero_le _), dropAt]; rfl
theorem restF_eq {fs : List Frm} {j : Nat} : restF fs j j = restF fs j (j + 1) := by
  rw [restF, restF, if_pos (Nat.le_refl _), if_neg (by omega), List.drop_of_length_le (by rw [List.length_take]; omega)]; rfl
theorem restF_ne {fs : List Frm} {j k : Nat} {f : Frm} (hf : fs[k]? = some f) (hne : k ≠ j) : restF fs j k = f :: restF fs j (k + 1) := by
  have hk := (List.getElem?_eq_some_iff.1 hf).1
  have hg := (List.getElem?_eq_some_iff.1 hf).2
  by_cases h : k ≤ j
  · rw [restF, restF, if_pos h, if_pos (by omega)]
    have h1 : k < (fs.take j).length := by rw [List.length_take]; omega
    rw [List.drop_eq_getElem_cons h1, List.getElem_take, hg]; rfl
  · rw [restF, restF, if_neg h, if_neg (by omega), List.drop_eq_getElem_cons hk, hg]
theorem restF_end {fs : List Frm} {j k : Nat} (h1 : fs.length ≤ k) (h2 : j < k) : restF fs j k = [] := by
  rw [restF, if_neg (by omega), List.drop_of_length_le h1]
def ffG (fr : List Int) (fs : List Frm) (i : Int) : Bool := askG fr fs i && canL fr (frmAt fs i).wanted
def ffF (fr : List Int) (fs : List Frm) (i : Int) : List Int := if ffG fr fs i then sumL fr (frmAt fs i).held else []
def ffL (fr : List Int) (fs : List Frm) (i : Int) : List Frm := if ffG fr fs i then dropAt fs i.toNat else []
theorem ff_no {fr : List Int} {fs : List Frm} {i : Int} (h : ffG fr fs i = false) : ffF fr fs i = [] ∧ ffL fr fs i = [] := by rw [ffF, ffL, h]; exact ⟨rfl, rfl⟩
theorem ff_yes {fr : List Int} {fs : List Frm} {i : Int} (h : ffG fr fs i = true) : ffF fr fs i = sumL fr (frmAt fs i).held ∧ ffL fr fs i = dropAt fs i.toNat := by rw [ffF, ffL, h]; exact ⟨rfl, rfl⟩
theorem mem_dropAt {fs : List Frm} {j : Nat} {f : Frm} (h : f ∈ dropAt fs j) : f ∈ fs := by
  rcases List.mem_append.1 h with h | h
  · exact List.mem_of_mem_take h
  · exact List.mem_of_mem_drop h
theorem tot_bd {n : Nat} : ∀ {ys : List FV}, (∀ y ∈ ys, y.f.held.length ≤ n ∧ y.f.wanted.length ≤ n) → totF ys ≤ 2 * n * ys.length
  | [], _ => by simp [totF]
  | y :: r, h => by
    have h1 := h y (by simp)
    have ih := tot_bd (ys := r) fun z hz => h z (List.mem_cons_of_mem _ hz)
    have e : 2 * n * (y :: r).length = 2 * n * r.length + 2 * n := by rw [List.length_cons, Nat.mul_add]; omega
    rw [totF, e]
    omega
/-- Forms handed back. -/
structure RF (w : World) (B : Nat) (v : Value) (M : Nat) (ys : List FV) (fs : List Frm) : Prop where
  row : OwnF w B v M ys
  inn : OIn w B ys
  eq : ys.map FV.f = fs
  le : M ≤ 1048576
  tot : totF ys ≤ 1048576
  bd : ∀ y ∈ ys, y.f.held.length ≤ 1048576 ∧ y.f.wanted.length ≤ 1048576
theorem RF.nil (w : World) (B : Nat) : RF w B (.slice none 0 0) 0 [] [] := ⟨World.ownsRow_nil _ _ _ _, OIn.nil _ _, rfl, by omega, by simp [totF], by simp⟩
theorem RF.empty (w : World) (B : Nat) (hB : B ≤ w.heap.size) : RF (w.alloc (.cells #[] 40)) B (.slice (some ⟨w.heap.size, 0, none⟩) 0 0) 0 [] [] :=
  ⟨(Blk.new' w 40 #[]).row (size := 2) (by simp) (by simp) hB, OIn.nil _ _, rfl, by omega, by simp [totF], by simp⟩
theorem RF.mk' {w : World} {B : Nat} {v : Value} {M : Nat} {ys : List FV} {fs : List Frm} {n : Nat} (row : OwnF w B v M ys) (inn : OIn w B ys) (eq : ys.map FV.f = fs) (hn : n ≤ 6) (hM : M ≤ 8) (hf : ∀ f ∈ fs, f.held.length = n ∧ f.wanted.length = n) : RF w B v M ys fs := by
  have hy : ∀ y ∈ ys, y.f.held.length ≤ n ∧ y.f.wanted.length ≤ n := fun y hy => by
    have := hf y.f (by rw [← eq]; exact List.mem_map_of_mem hy)
    omega
  have ht := tot_bd hy
  have hl := row.len
  have h3 : 2 * n * ys.length ≤ 12 * 8 := Nat.mul_le_mul (by omega) (by omega)
  exact ⟨row, inn, eq, by omega, by omega, fun y h => by have := hy y h; omega⟩
theorem Nin.of_new {w w' : World} {lo n size : Nat} {v : Value} {cs : List Value} {ys : List FV} {e : TypeId} (ho : OIn w lo ys) (h : w'.ownsRow w.heap.size e size v n cs) : Nin v ys := by
  intro k hk hin
  have h1 := (h.lt k hk).1
  have h2 := (inBlk_lt ho k hin).2
  omega
theorem Nin.nil (v : Value) : Nin v [] := by
  intro k _ ⟨i, y, hy, _⟩
  simp at hy
theorem some_of_pos {w : World} {B n : Nat} {A : Option Addr} {xs : List Int} (h : RInts w B A n xs) (hn : 0 < n) : A ≠ none := by
  obtain ⟨ad, e, _⟩ := h.2 hn
  rw [e]
  simp
theorem ne_t' {a b : Int} (h : a ≠ b) : (a != b) = true ∧ (a == b) = false := by simp [h]
theorem ne_f' {a b : Int} (h : a = b) : (a != b) = false ∧ (a == b) = true := by simp [h]
theorem RInts.alloc' {w : World} {n : Nat} {A : Option Addr} {xs : List Int} (h : RInts w w.heap.size A n xs) (o : Obj) : RInts (w.alloc o) (w.alloc o).heap.size A n xs := RInts.more (Reads.alloc h (Nat.le_refl _) o) (by simp)

theorem flat_take : ∀ {ys : List FV} {k : Nat}, (ys.map FV.row).flatten.take (k * 2) = ((ys.take k).map FV.row).flatten
  | [], k => by simp
  | y :: r, 0 => by simp
  | y :: r, k + 1 => by
    have e : (k + 1) * 2 = k * 2 + 1 + 1 := by omega
    rw [List.map_cons, List.flatten_cons, List.take_succ_cons, List.map_cons, List.flatten_cons, ← flat_take (ys := r) (k := k), e]
    simp [FV.row]
theorem flat_drop : ∀ {ys : List FV} {k : Nat}, (ys.map FV.row).flatten.drop (k * 2) = ((ys.drop k).map FV.row).flatten
  | [], k => by simp
  | y :: r, 0 => by simp
  | y :: r, k + 1 => by
    have e : (k + 1) * 2 = k * 2 + 1 + 1 := by omega
    rw [List.map_cons, List.flatten_cons, List.drop_succ_cons, ← flat_drop (ys := r) (k := k), e]
    simp [FV.row]
def eraseV (ys : List FV) (j : Nat) : List FV := ys.take j ++ ys.drop (j + 1)
theorem eraseV_at {ys : List FV} {j k : Nat} {y : FV} (h : (eraseV ys j)[k]? = some y) : ys[if k < j then k else k + 1]? = some y := by
  unfold eraseV at h
  by_cases hk : k < (ys.take j).length
  · rw [List.getElem?_append_left hk] at h
    have hkj : k < j := by rw [List.length_take] at hk; omega
    rw [List.getElem?_take_of_lt hkj] at h
    rw [if_pos hkj]
    exact h
  · rw [List.getElem?_append_right (by omega), List.getElem?_drop] at h
    have hl := (List.getElem?_eq_some_iff.1 h).1
    rw [List.length_take] at h hk hl
    rw [if_neg (by omega), ← h]
    congr 1
    omega
theorem OIn.erase {w : World} {lo : Nat} {ys : List FV} (h : OIn w lo ys) (j : Nat) : OIn w lo (eraseV ys j) := by
  refine ⟨fun i y hy => h.1 _ y (eraseV_at hy), fun i y hy => ⟨(h.2 _ y (eraseV_at hy)).1, fun i' y' hy' hii => (h.2 _ y (eraseV_at hy)).2 _ y' (eraseV_at hy') ?_⟩⟩
  split <;> split <;> omega
theorem Nin.erase {v : Value} {ys : List FV} (h : Nin v ys) (j : Nat) : Nin v (eraseV ys j) := by
  intro k hk ⟨i, y, hy, hin⟩
  exact h k hk ⟨_, y, eraseV_at hy, hin⟩
theorem row_erase {ys : List FV} {j : Nat} : (ys.map FV.row).flatten.take (j * 2) ++ (ys.map FV.row).flatten.drop ((j + 1) * 2) = ((eraseV ys j).map FV.row).flatten := by
  rw [flat_take, flat_drop, eraseV, List.map_append, List.flatten_append]
theorem map_erase {ys : List FV} {j : Nat} : (eraseV ys j).map FV.f = dropAt (ys.map FV.f) j := by
  rw [eraseV, dropAt, List.map_append, List.map_take, List.map_drop]
/-- The first elements of an own row are one. -/
theorem own_prefix {w : World} {B n k c size g : Nat} {e : TypeId} {cs : List Value} (h : w.ownsRow B e size (.slice (some ⟨g, 0, none⟩) n c) n cs) (hk : k ≤ n) : w.ownsRow B e size (.slice (some ⟨g, 0, none⟩) k c) k (cs.take (k * size)) := by
  obtain ⟨h1, h2⟩ := h
  rcases h2 with ⟨h2, _⟩ | ⟨g', cap, cur, hv, hB, hg, hnc, hcm, hcs, htk⟩
  · cases h2
  · injection hv with hv1 hv2 hv3
    injection hv1 with hv1
    injection hv1 with hv1
    subst hv1 hv3
    refine ⟨by rw [List.length_take, h1]; exact Nat.min_eq_left (Nat.mul_le_mul_right _ hk), .inr ⟨g, c, cur, rfl, hB, hg, by omega, hcm, hcs, ?_⟩⟩
    rw [← htk, List.take_take, Nat.min_eq_left (Nat.mul_le_mul_right _ hk)]
theorem own_capF {w : World} {B n c size : Nat} {e : TypeId} {V : Option Addr} {cs : List Value} (h : w.ownsRow B e size (.slice V n c) n cs) : n ≤ c := by
  rcases h.2 with ⟨h1, h2⟩ | ⟨g, cap, cur, h1, _, _, h3, _⟩
  · omega
  · injection h1 with _ _ h1; omega
theorem rows_cells (ys : List FV) : ∀ u ∈ (ys.map FV.row).flatten, u.oneCell' = true := by
  intro u hu
  obtain ⟨r, hr, hu⟩ := List.mem_flatten.1 hu
  obtain ⟨x, _, rfl⟩ := List.mem_map.1 hr
  simp [FV.row] at hu
  rcases hu with rfl | rfl <;> rfl
theorem step_append_g {P : Program} {ops : Array Oper} {o : Oper} {a : Act} {K : Act → World → Prop} {Q : Exit → Act → World → Prop} {E : Prop} (w : World) (hgd : o.guard = none) (s x : Operand) (t : TypeId)
    (ho : o.op = .call { callee := .builtin .append, args := #[s, x], argTypes := #[t, t] })
    (base : Nat) (e : TypeId) (i : TypeInfo) (z : Value) (size bytes : Nat) (ht : P.underlying t = some (.slice e)) (hi : P.info? e = some i) (hz : i.zero = some z)
    (hsize : i.size = size) (hby : i.bytes = bytes) (hzs : z.cells.size = size) (hsz : 0 < size)
    (v : Value) (n : Nat) (xs : List Value) (hs : a.eval s = v) (hown : w.ownsRow base e size v n xs)
    (ad : Addr) (m c : Nat) (news : List Value) (hx : a.eval x = .slice (some ad) m c) (hl : news.length = m * size) (hnews : ∀ j u, news[j]? = some u → w.cell? (ad.add j) = some u) (h1 : ∀ u ∈ news, u.oneCell' = true)
    (h63 : n + m ≤ maxLen) (hbytes : (n + m) * bytes ≤ 140737488355328) (hbase : base ≤ w.heap.size)
    (h : ∀ v' w', w'.ownsRow base e size v' (n + m) (xs ++ news) → w.grownBy w' v.ownBlock → K (a.put o.dst v') w') :
    if Region.wanted o (yielded ops a.tmps) = true then Oper.wp P o a w K Q else E := by
  have hw : Region.wanted o (yielded ops a.tmps) = true := by simp [Region.wanted, hgd]
  rw [if_pos hw]
  obtain ⟨v', w', hr, h2, h3, _⟩ := run_append_own (P := P) w base t o.type e i z size bytes ht hi hz hsize hby hzs hsz v n xs hown ad m c news hl hnews h1 h63 hbytes hbase
  unfold Oper.wp execOp
  simp only [ho, resolve, invoke, builtin, Sem.run_bind, Sem.run_pure, Result.andThen_ok, List.map_toArray, List.map_cons, List.map_nil, hs, hx, hr]
  exact h v' w' h2 h3
theorem plus1_q {A B : Option Addr} {n q c d : Nat} {xs ys : List Int} {w : World} (hr : RInts w w.heap.size A n xs) (hs : RInts w w.heap.size B q ys) (hn : n ≤ 1048576) (h1 : ∀ x ∈ xs, 0 ≤ x ∧ x ≤ 1000000) (h2 : ∀ x ∈ ys, 0 ≤ x ∧ x ≤ 1000000) (hq : q = n) :
    Calls Try.prog 22 #[.slice A n c, .slice B q d, .int .i64 1] w fun e w' => ∃ V C, e = .returned (.slice V n C) ∧ Own w' w.heap.size (.slice V n C) n (sumL xs ys) ∧ Below w.heap.size w w' := by
  subst hq
  exact plus1_any hr hs hn h1 h2
end Go.Proofs.Ytfemacefkaehjaa
