/-
  Contracts: FinishForm.
-/
import Derived.Test.YtljefnfekbajkaaSt11
import Derived.Test.YtljefnfekbajkaaSt7
namespace Go.Proofs.Ytljefnfekbajkaa
open Go.RowKit
def dropAt (fs : List Frm) (j : Nat) : List Frm := fs.take j ++ fs.drop (j + 1)
def restF (fs : List Frm) (j k : Nat) : List Frm := if k ≤ j then (fs.take j).drop k ++ fs.drop (j + 1) else fs.drop k
theorem restF_start (fs : List Frm) (j : Nat) : restF fs j 0 = dropAt fs j := by rw [restF, if_pos (Nat.zero_le _), dropAt]; rfl
theorem restF_eq {fs : List Frm} {j : Nat} : restF fs j j = restF fs j (j + 1) := by
  rw [restF, restF, if_pos (Nat.le_refl _), if_neg (by omega), List.drop_of_length_le (by rw [List.length_take]; omega)]; rfl
theorem restF_ne {fs : List Frm} {j k : Nat} {f : Frm} (hf : fs[k]? = some f) (hne : k ≠ j) : restF fs j k = f :: restF fs j (k + 1) := by
  have hk := (List.getElem?_eq_some_iff.1 hf).1
  have hg := (List.getElem?_eq_some_iff.1 hf).2
  by_cases h : k ≤ j
  · rw [restF, restF, if_pos h, if_pos (by omega)]
    have h1 : k < (fs.take j).length := by rw [List.length_take]; omega
    rw [List.drop_eq_getElem_cons h1, List.getElem_take, hg]; rfl
  · rw [restF, restF, if_neg h, if_neg (by omega), List.drop_eq_getElem_cons hk, hg]
theorem restF_end {fs : List Frm} {j k : Nat} (h1 : fs.length ≤ k) (h2 : j < k) : restF fs j k = [] := by
  rw [restF, if_neg (by omega), List.drop_of_length_le h1]
def ffG (fr : List Int) (fs : List Frm) (i : Int) : Bool := askG fr fs i && canL fr (frmAt fs i).wanted
def ffF (fr : List Int) (fs : List Frm) (i : Int) : List Int := if ffG fr fs i then sumL fr (frmAt fs i).held else []
def ffL (fr : List Int) (fs : List Frm) (i : Int) : List Frm := if ffG fr fs i then dropAt fs i.toNat else []
theorem ff_no {fr : List Int} {fs : List Frm} {i : Int} (h : ffG fr fs i = false) : ffF fr fs i = [] ∧ ffL fr fs i = [] := by rw [ffF, ffL, h]; exact ⟨rfl, rfl⟩
theorem ff_yes {fr : List Int} {fs : List Frm} {i : Int} (h : ffG fr fs i = true) : ffF fr fs i = sumL fr (frmAt fs i).held ∧ ffL fr fs i = dropAt fs i.toNat := by rw [ffF, ffL, h]; exact ⟨rfl, rfl⟩
theorem mem_dropAt {fs : List Frm} {j : Nat} {f : Frm} (h : f ∈ dropAt fs j) : f ∈ fs := by
  rcases List.mem_append.1 h with h | h
  · exact List.mem_of_mem_take h
  · exact List.mem_of_mem_drop h
theorem tot_bd {n : Nat} : ∀ {ys : List FV}, (∀ y ∈ ys, y.f.held.length ≤ n ∧ y.f.wanted.length ≤ n) → totF ys ≤ 2 * n * ys.length
  | [], _ => by simp [totF]
  | y :: r, h => by
    have h1 := h y (by simp)
    have ih := tot_bd (ys := r) fun z hz => h z (List.mem_cons_of_mem _ hz)
    have e : 2 * n * (y :: r).length = 2 * n * r.length + 2 * n := by rw [List.length_cons, Nat.mul_add]; omega
    rw [totF, e]
    omega
/-- Forms handed back. -/
structure RF (w : World) (B : Nat) (v : Value) (M : Nat) (ys : List FV) (fs : List Frm) : Prop where
  row : OwnF w B v M ys
  inn : OIn w B ys
  eq : ys.map FV.f = fs
  le : M ≤ 1048576
  tot : totF ys ≤ 1048576
  bd : ∀ y ∈ ys, y.f.held.length ≤ 1048576 ∧ y.f.wanted.length ≤ 1048576
theorem RF.nil (w : World) (B : Nat) : RF w B (.slice none 0 0) 0 [] [] := ⟨World.ownsRow_nil _ _ _ _, OIn.nil _ _, rfl, by omega, by simp [totF], by simp⟩
theorem RF.empty (w : World) (B : Nat) (hB : B ≤ w.heap.size) : RF (w.alloc (.cells #[] 44)) B (.slice (some ⟨w.heap.size, 0, none⟩) 0 0) 0 [] [] :=
  ⟨(Blk.new' w 44 #[]).row (size := 2) (by simp) (by simp) hB, OIn.nil _ _, rfl, by omega, by simp [totF], by simp⟩
theorem RF.mk' {w : World} {B : Nat} {v : Value} {M : Nat} {ys : List FV} {fs : List Frm} {n : Nat} (row : OwnF w B v M ys) (inn : OIn w B ys) (eq : ys.map FV.f = fs) (hn : n ≤ 6) (hM : M ≤ 8) (hf : ∀ f ∈ fs, f.held.length = n ∧ f.wanted.length = n) : RF w B v M ys fs := by
  have hy : ∀ y ∈ ys, y.f.held.length ≤ n ∧ y.f.wanted.length ≤ n := fun y hy => by
    have := hf y.f (by rw [← eq]; exact List.mem_map_of_mem hy)
    omega
  have ht := tot_bd hy
  have hl := row.len
  have h3 : 2 * n * ys.length ≤ 12 * 8 := Nat.mul_le_mul (by omega) (by omega)
  exact ⟨row, inn, eq, by omega, by omega, fun y h => by have := hy y h; omega⟩
theorem Nin.of_new {w w' : World} {lo n size : Nat} {v : Value} {cs : List Value} {ys : List FV} {e : TypeId} (ho : OIn w lo ys) (h : w'.ownsRow w.heap.size e size v n cs) : Nin v ys := by
  intro k hk hin
  have h1 := (h.lt k hk).1
  have h2 := (inBlk_lt ho k hin).2
  omega
theorem Nin.nil (v : Value) : Nin v [] := by
  intro k _ ⟨i, y, hy, _⟩
  simp at hy
theorem some_of_pos {w : World} {B n : Nat} {A : Option Addr} {xs : List Int} (h : RInts w B A n xs) (hn : 0 < n) : A ≠ none := by
  obtain ⟨ad, e, _⟩ := h.2 hn
  rw [e]
  simp
theorem ne_t' {a b : Int} (h : a ≠ b) : (a != b) = true ∧ (a == b) = false := by simp [h]
theorem ne_f' {a b : Int} (h : a = b) : (a != b) = false ∧ (a == b) = true := by simp [h]
theorem RInts.alloc' {w : World} {n : Nat} {A : Option Addr} {xs : List Int} (h : RInts w w.heap.size A n xs) (o : Obj) : RInts (w.alloc o) (w.alloc o).heap.size A n xs := RInts.more (Reads.alloc h (Nat.le_refl _) o) (by simp)

theorem flat_take : ∀ {ys : List FV} {k : Nat}, (ys.map FV.row).flatten.take (k * 2) = ((ys.take k).map FV.row).flatten
  | [], k => by simp
  | y :: r, 0 => by simp
  | y :: r, k + 1 => by
    have e : (k + 1) * 2 = k * 2 + 1 + 1 := by omega
    rw [List.map_cons, List.flatten_cons, List.take_succ_cons, List.map_cons, List.flatten_cons, ← flat_take (ys := r) (k := k), e]
    simp [FV.row]
theorem flat_drop : ∀ {ys : List FV} {k : Nat}, (ys.map FV.row).flatten.drop (k * 2) = ((ys.drop k).map FV.row).flatten
  | [], k => by simp
  | y :: r, 0 => by simp
  | y :: r, k + 1 => by
    have e : (k + 1) * 2 = k * 2 + 1 + 1 := by omega
    rw [List.map_cons, List.flatten_cons, List.drop_succ_cons, ← flat_drop (ys := r) (k := k), e]
    simp [FV.row]
def eraseV (ys : List FV) (j : Nat) : List FV := ys.take j ++ ys.drop (j + 1)
theorem eraseV_at {ys : List FV} {j k : Nat} {y : FV} (h : (eraseV ys j)[k]? = some y) : ys[if k < j then k else k + 1]? = some y := by
  unfold eraseV at h
  by_cases hk : k < (ys.take j).length
  · rw [List.getElem?_append_left hk] at h
    have hkj : k < j := by rw [List.length_take] at hk; omega
    rw [List.getElem?_take_of_lt hkj] at h
    rw [if_pos hkj]
    exact h
  · rw [List.getElem?_append_right (by omega), List.getElem?_drop] at h
    have hl := (List.getElem?_eq_some_iff.1 h).1
    rw [List.length_take] at h hk hl
    rw [if_neg (by omega), ← h]
    congr 1
    omega
theorem OIn.erase {w : World} {lo : Nat} {ys : List FV} (h : OIn w lo ys) (j : Nat) : OIn w lo (eraseV ys j) := by
  refine ⟨fun i y hy => h.1 _ y (eraseV_at hy), fun i y hy => ⟨(h.2 _ y (eraseV_at hy)).1, fun i' y' hy' hii => (h.2 _ y (eraseV_at hy)).2 _ y' (eraseV_at hy') ?_⟩⟩
  split <;> split <;> omega
theorem Nin.erase {v : Value} {ys : List FV} (h : Nin v ys) (j : Nat) : Nin v (eraseV ys j) := by
  intro k hk ⟨i, y, hy, hin⟩
  exact h k hk ⟨_, y, eraseV_at hy, hin⟩
theorem row_erase {ys : List FV} {j : Nat} : (ys.map FV.row).flatten.take (j * 2) ++ (ys.map FV.row).flatten.drop ((j + 1) * 2) = ((eraseV ys j).map FV.row).flatten := by
  rw [flat_take, flat_drop, eraseV, List.map_append, List.flatten_append]
theorem map_erase {ys : List FV} {j : Nat} : (eraseV ys j).map FV.f = dropAt (ys.map FV.f) j := by
  rw [eraseV, dropAt, List.map_append, List.map_take, List.map_drop]
/-- The first elements of an own row are one. -/
theorem own_prefix {w : World} {B n k c size g : Nat} {e : TypeId} {cs : List Value} (h : w.ownsRow B e size (.slice (some ⟨g, 0, none⟩) n c) n cs) (hk : k ≤ n) : w.ownsRow B e size (.slice (some ⟨g, 0, none⟩) k c) k (cs.take (k * size)) := by
  obtain ⟨h1, h2⟩ := h
  rcases h2 with ⟨h2, _⟩ | ⟨g', cap, cur, hv, hB, hg, hnc, hcm, hcs, htk⟩
  · cases h2
  · injection hv with hv1 hv2 hv3
    injection hv1 with hv1
    injection hv1 with hv1
    subst hv1 hv3
    refine ⟨by rw [List.length_take, h1]; exact Nat.min_eq_left (Nat.mul_le_mul_right _ hk), .inr ⟨g, c, cur, rfl, hB, hg, by omega, hcm, hcs, ?_⟩⟩
    rw [← htk, List.take_take, Nat.min_eq_left (Nat.mul_le_mul_right _ hk)]
theorem own_capF {w : World} {B n c size : Nat} {e : TypeId} {V : Option Addr} {cs : List Value} (h : w.ownsRow B e size (.slice V n c) n cs) : n ≤ c := by
  rcases h.2 with ⟨h1, h2⟩ | ⟨g, cap, cur, h1, _, _, h3, _⟩
  · omega
  · injection h1 with _ _ h1; omega
theorem rows_cells (ys : List FV) : ∀ u ∈ (ys.map FV.row).flatten, u.oneCell' = true := by
  intro u hu
  obtain ⟨r, hr, hu⟩ := List.mem_flatten.1 hu
  obtain ⟨x, _, rfl⟩ := List.mem_map.1 hr
  simp [FV.row] at hu
  rcases hu with rfl | rfl <;> rfl
theorem step_append_g {P : Program} {ops : Array Oper} {o : Oper} {a : Act} {K : Act → World → Prop} {Q : Exit → Act → World → Prop} {E : Prop} (w : World) (hgd : o.guard = none) (s x : Operand) (t : TypeId)
    (ho : o.op = .call { callee := .builtin .append, args := #[s, x], argTypes := #[t, t] })
    (base : Nat) (e : TypeId) (i : TypeInfo) (z : Value) (size bytes : Nat) (ht : P.underlying t = some (.slice e)) (hi : P.info? e = some i) (hz : i.zero = some z)
    (hsize : i.size = size) (hby : i.bytes = bytes) (hzs : z.cells.size = size) (hsz : 0 < size)
    (v : Value) (n : Nat) (xs : List Value) (hs : a.eval s = v) (hown : w.ownsRow base e size v n xs)
    (ad : Addr) (m c : Nat) (news : List Value) (hx : a.eval x = .slice (some ad) m c) (hl : news.length = m * size) (hnews : ∀ j u, news[j]? = some u → w.cell? (ad.add j) = some u) (h1 : ∀ u ∈ news, u.oneCell' = true)
    (h63 : n + m ≤ maxLen) (hbytes : (n + m) * bytes ≤ 140737488355328) (hbase : base ≤ w.heap.size)
    (h : ∀ v' w', w'.ownsRow base e size v' (n + m) (xs ++ news) → w.grownBy w' v.ownBlock → K (a.put o.dst v') w') :
    if Region.wanted o (yielded ops a.tmps) = true then Oper.wp P o a w K Q else E := by
  have hw : Region.wanted o (yielded ops a.tmps) = true := by simp [Region.wanted, hgd]
  rw [if_pos hw]
  obtain ⟨v', w', hr, h2, h3, _⟩ := run_append_own (P := P) w base t o.type e i z size bytes ht hi hz hsize hby hzs hsz v n xs hown ad m c news hl hnews h1 h63 hbytes hbase
  unfold Oper.wp execOp
  simp only [ho, resolve, invoke, builtin, Sem.run_bind, Sem.run_pure, Result.andThen_ok, List.map_toArray, List.map_cons, List.map_nil, hs, hx, hr]
  exact h v' w' h2 h3
theorem plus1_q {A B : Option Addr} {n q c d : Nat} {xs ys : List Int} {w : World} (hr : RInts w w.heap.size A n xs) (hs : RInts w w.heap.size B q ys) (hn : n ≤ 1048576) (h1 : ∀ x ∈ xs, 0 ≤ x ∧ x ≤ 1000000) (h2 : ∀ x ∈ ys, 0 ≤ x ∧ x ≤ 1000000) (hq : q = n) :
    Calls Try.prog 30 #[.slice A n c, .slice B q d, .int .i64 1] w fun e w' => ∃ V C, e = .returned (.slice V n C) ∧ Own w' w.heap.size (.slice V n C) n (sumL xs ys) ∧ Below w.heap.size w w' := by
  subst hq
  exact plus1_any hr hs hn h1 h2
set_option maxRecDepth 100000 in
set_option maxHeartbeats 4000000 in
theorem finishForm_spec {A B : Option Addr} {n c m d : Nat} {fr : List Int} {fs : List Frm} {i : Int} {w : World} (hr : RInts w w.heap.size A n fr) (hn0 : n ≤ 1048576) (hs : AForms w B m fs) (hm0 : m ≤ 1048576) (hI : -9223372036854775808 ≤ i ∧ i ≤ 9223372036854775807) :
    Calls Try.prog 7 #[.slice A n c, .slice B m d, .int .i64 i] w fun e w' => ∃ V N C U M E ys, e = .returned (.tuple #[.slice V N C, .slice U M E, .bool (ffG fr fs i)]) ∧ Own w' w.heap.size (.slice V N C) N (ffF fr fs i) ∧ RF w' w.heap.size (.slice U M E) M ys (ffL fr fs i) ∧ Nin (.slice V N C) ys ∧ N ≤ 1048576 ∧ Below w.heap.size w w' := by
  cases h1 : askG fr fs i
  · have HG := Lib.hid (show ffG fr fs i = false by rw [ffG, h1]; rfl)
    (go_enter Try.func7, Try.ntmps7; go_wp2_with fail; refine (stAsked_any hr hn0 hs hm0).mono ?_; rintro e w1 ⟨rfl, hb1⟩)
    rw [h1]
    clear h1
    go_wp2_with fail
    go_ret3
    exact ⟨none, 0, 0, none, 0, 0, [], by rw [HG.out]; rfl, by rw [(ff_no HG.out).1]; exact own_nil _ _, by rw [(ff_no HG.out).2]; exact RF.nil _ _, Nin.nil _, by omega, hb1⟩
  obtain ⟨q1, q2, q3⟩ := ask_true h1
  obtain ⟨t1, t2, t3, t4⟩ := stG_true q1
  have HF := Lib.hid t4
  have HFR := Lib.hid hr.len
  have HM := Lib.hid hs.len
  have HT2 := Lib.hid t2
  have q4 : i < m := by have := HM.out; omega
  have hm8 : m ≤ 8 := by have := HM.out; omega
  have hn6 : n ≤ 6 := by have := HFR.out; omega
  have hn1 : 1 ≤ n := by have := HFR.out; omega
  have HH1 := Lib.hid h1
  clear t2 t4 q1 t1 t3
  obtain ⟨ys0, hs0, rfl, hL0⟩ := hs
  have HL0 := Lib.hid hL0
  have HS0 := Lib.hid hs0
  have hsA : AForms w B m (ys0.map FV.f) := ⟨ys0, hs0, rfl, hL0⟩
  obtain ⟨b, off, y, eB, hbb, _, hy, c0, c1, hin⟩ := RForms.at_ hs0 (k := i.toNat) (by omega)
  subst eB
  have hf := HF.out y.f (List.mem_map_of_mem (List.mem_of_getElem? hy))
  have HY := Lib.hid (frmAt_map hy)
  have HY0 := Lib.hid hy
  have hlw := Lib.hid (show y.f.wanted.length = n by have := HFR.out; omega)
  have hlh := Lib.hid (show y.f.held.length = n by have := HFR.out; omega)
  have HHB := Lib.hid (show ∀ x ∈ y.f.held, 0 ≤ x ∧ x ≤ 1000000 from fun x hx => by have := hf.1.2 x hx; omega)
  have HFB := Lib.hid (show ∀ x ∈ fr, 0 ≤ x ∧ x ≤ 1000000 from fun x hx => by have := HT2.out x hx; omega)
  have HIN := Lib.hid hin
  have HC0 := Lib.hid c0
  have HC1 := Lib.hid c1
  have HR := Lib.hid hr
  clear hy hf hL0 hs0 c0 c1 hin
  cases h2 : canL fr y.f.wanted
  · have HG := Lib.hid (show ffG fr (ys0.map FV.f) i = false by rw [ffG, HY.out, h2]; simp)
    have hs := hsA
    ((go_enter Try.func7, Try.ntmps7; go_wp2_with fail; refine (stAsked_any hr hn0 hs hm0).mono ?_; rintro e w1 ⟨rfl, hb1⟩); rw [h1]; clear h1 hsA hr; (have c0 := (hb1.cell (p := ⟨b, off + i.toNat * 2, none⟩) hbb).trans HC0.out); (have c1 := (hb1.cell (p := ⟨b, off + i.toNat * 2 + 1, none⟩) hbb).trans HC1.out); go_wp2_with fail; refine (stCan_any (y := y) ((RInts.below HR.out hb1).more hb1.size) ⟨(RInts.below HIN.out.1 hb1).more hb1.size, (RInts.below HIN.out.2 hb1).more hb1.size⟩ (Nat.le_refl _) hn0 hlw.out).mono ?_; rintro e w2 ⟨rfl, hn⟩; replace hb1 := hb1.trans (hn.mono hb1.size); clear hn c0 c1; rw [h2])
    clear h2
    go_wp2_with fail
    go_ret3
    exact ⟨none, 0, 0, none, 0, 0, [], by rw [HG.out]; rfl, by rw [(ff_no HG.out).1]; exact own_nil _ _, by rw [(ff_no HG.out).2]; exact RF.nil _ _, Nin.nil _, by omega, hb1⟩
  have HG := Lib.hid (show ffG fr (ys0.map FV.f) i = true by rw [ffG, HH1.out, HY.out, h2]; rfl)
  have HV := Lib.hid (ff_yes HG.out)
  obtain ⟨j, hij⟩ : ∃ j : Nat, i = (j : Int) := ⟨i.toNat, by omega⟩
  have HIJ := Lib.hid hij
  have hjm : j < m := by omega
  have HYJ := Lib.hid (show ys0[j]? = some y by have := HY0.out; rw [hij, Int.toNat_natCast] at this; exact this)
  have HLE := Lib.hid (show ys0.length = m from HS0.out.len)
  have HVL := Lib.hid (show ffL fr (ys0.map FV.f) i = dropAt (ys0.map FV.f) j by rw [HV.out.2, hij, Int.toNat_natCast])
  have HBF := Lib.hid (show ∀ f ∈ dropAt (ys0.map FV.f) j, f.held.length = n ∧ f.wanted.length = n from fun f h => by have := HF.out f (mem_dropAt h); have := HFR.out; omega)
  clear hij
  have hs := hsA
  ((go_enter Try.func7, Try.ntmps7; go_wp2_with fail; refine (stAsked_any hr hn0 hs hm0).mono ?_; rintro e w1 ⟨rfl, hb1⟩); rw [h1]; clear h1 hsA hr; (have c0 := (hb1.cell (p := ⟨b, off + i.toNat * 2, none⟩) hbb).trans HC0.out); (have c1 := (hb1.cell (p := ⟨b, off + i.toNat * 2 + 1, none⟩) hbb).trans HC1.out); go_wp2_with fail; refine (stCan_any (y := y) ((RInts.below HR.out hb1).more hb1.size) ⟨(RInts.below HIN.out.1 hb1).more hb1.size, (RInts.below HIN.out.2 hb1).more hb1.size⟩ (Nat.le_refl _) hn0 hlw.out).mono ?_; rintro e w2 ⟨rfl, hn⟩; replace hb1 := hb1.trans (hn.mono hb1.size); clear hn c0 c1; rw [h2])
  clear h2
  obtain ⟨j0, hj, hy0, hy1, hy2⟩ := info_parts infoForm
  go_wp2_with fail
  go_loopw [9, 28] (fun v u wr => ∃ (k c2 : Nat) (zs : List FV), k ≤ m ∧ c2 ≤ k ∧ u = .int .i64 k ∧ OwnF wr w.heap.size v c2 zs ∧ OIn wr w.heap.size zs ∧ zs.map FV.f ++ restF (ys0.map FV.f) j k = dropAt (ys0.map FV.f) j ∧ Below w.heap.size w wr) (fun _ u _ => m - (intOf u).toNat)
  case atStart => exact ⟨0, 0, [], Nat.zero_le _, Nat.zero_le _, rfl, World.ownsRow_nil _ _ _ _, OIn.nil _ _, by rw [restF_start]; rfl, hb1⟩
  case round =>
    clear hb1
    obtain ⟨k, c2, zs, hk, hck, rfl, hoo, hoi, hR, hb⟩ := hrel
    obtain ⟨VO, CO, rfl⟩ := own_slice hoo
    have HOO := Lib.hid hoo
    have HOI := Lib.hid hoi
    have hlo := hb.size
    clear hoo hoi
    by_cases hlt : k < m
    · obtain ⟨bb, off2, x, eA, _, _, hx, d0, d1, hinx⟩ := RForms.at_ (HS0.out.below hb) hlt
      injection eA with eA
      injection eA with ea1 ea2
      subst ea1 ea2
      have hfx := HF.out x.f (List.mem_map_of_mem (List.mem_of_getElem? hx))
      have hxl := HL0.out x (List.mem_of_getElem? hx)
      have hxf : (ys0.map FV.f)[k]? = some x.f := by rw [List.getElem?_map, hx]; rfl
      by_cases hkj : k = j
      · have e1 := (ne_f' (show (k : Int) = i by rw [HIJ.out, hkj])).1
        have HR2 := Lib.hid (show zs.map FV.f ++ restF (ys0.map FV.f) j (k + 1) = dropAt (ys0.map FV.f) j by rw [← hR, hkj, restF_eq])
        clear hR hx hfx hxf hkj hinx
        go_wp2_with fail
        go_roundw
        case rel => exact ⟨k + 1, c2, zs, by omega, by omega, by go_num, row_alloc HOO.out _, OIn.alloc HOI.out _, HR2.out, hb.alloc hb.size _⟩
        case measure => simp [intOf]; omega
      · have e1 := (ne_t' (show (k : Int) ≠ i by rw [HIJ.out]; omega)).1
        have HR2 := Lib.hid (show (zs.map FV.f ++ [x.f]) ++ restF (ys0.map FV.f) j (k + 1) = dropAt (ys0.map FV.f) j by rw [← hR, restF_ne hxf hkj, List.append_assoc]; rfl)
        have hp1 : 0 < x.f.held.length := by have := HFR.out; omega
        have hp2 : 0 < x.f.wanted.length := by have := HFR.out; omega
        have hbx := hb.alloc hb.size (.cells #[.slice x.a1 x.f.held.length x.c1, .slice x.a2 x.f.wanted.length x.c2] 44)
        have i1 := (RInts.alloc' (hinx.1.more hb.size) (.cells #[.slice x.a1 x.f.held.length x.c1, .slice x.a2 x.f.wanted.length x.c2] 44))
        have i2 := (RInts.alloc' (hinx.2.more hb.size) (.cells #[.slice x.a1 x.f.held.length x.c1, .slice x.a2 x.f.wanted.length x.c2] 44))
        have hc1 : x.a1 = none → x.c1 = 0 := fun e => absurd e (some_of_pos hinx.1 hp1)
        have hc2 : x.a2 = none → x.c2 = 0 := fun e => absurd e (some_of_pos hinx.2 hp2)
        clear hR hx hfx hxf hinx
        go_wp2_with fail
        refine (stOwn_any x _ ⟨i1, i2⟩ hxl.1 hxl.2 hc1 hc2).mono ?_
        rintro e w4 ⟨V1, C1, V2, C2, rfl, hO1, hO2, hne, hn⟩
        have hb4 := hbx.trans (hn.mono hbx.size)
        have HI4 := Lib.hid (OIn.snoc (y := ⟨V1, C1, V2, C2, x.f⟩) (OIn.alloc HOI.out (.cells #[.slice x.a1 x.f.held.length x.c1, .slice x.a2 x.f.wanted.length x.c2] 44)) hn hO1 hO2 hne hbx.size)
        have HO4 := Lib.hid (show OwnF w4 w.heap.size (.slice VO c2 CO) c2 zs from row_step (row_alloc HOO.out (.cells #[.slice x.a1 x.f.held.length x.c1, .slice x.a2 x.f.wanted.length x.c2] 44)) hn)
        clear i1 i2 hc1 hc2 hO1 hO2 hne hn
        go_wp2_with (at_builtin; refine wpList_append_own _ rfl (.tmp 36) (.tmp 39) 25 rfl w.heap.size 44 j0 (.agg #[.slice none 0 0, .slice none 0 0]) 2 48 Try.underlying25 hj hy0 hy1 hy2 rfl (by decide) _ c2 _ rfl (row_alloc HO4.out _) ⟨w4.heap.size, 0, none⟩ 1 1 [.slice V1 x.f.held.length C1, .slice V2 x.f.wanted.length C2] rfl rfl (new_two rfl) (by intro u hu; simp at hu; rcases hu with rfl | rfl <;> rfl) (by unfold maxLen; omega) (by omega) (by have := hb4.size; simp; omega) ?_)
        intro v9 w9 hO9 hgr9 _
        have HN9 := Lib.hid (app_form (y := ⟨V1, C1, V2, C2, x.f⟩) hO9)
        have HI9 := Lib.hid (OIn.grew (OIn.alloc HI4.out _) hgr9 (Nin.of_type HO4.out HI4.out (by decide)))
        have HB9 := Lib.hid ((hb4.alloc hb4.size _).trans (grown_below hgr9 (by have := hb4.size; simp; omega) (fun z hz => (HO4.out.lt z hz).1)))
        clear hO9 hgr9 hb4 hbx
        go_wp2_with fail
        go_roundw
        case rel => exact ⟨k + 1, c2 + 1, _, by omega, by omega, by go_num, HN9.out, HI9.out, by rw [← HR2.out]; simp, HB9.out⟩
        case measure => simp [intOf]; omega
    · have HD := Lib.hid (show zs.map FV.f = dropAt (ys0.map FV.f) j by rw [← hR, restF_end (by have := HLE.out; simp; omega) (by omega), List.append_nil])
      clear hR
      have c0 := (hb.cell (p := ⟨b, off + i.toNat * 2, none⟩) hbb).trans HC0.out
      have l0 : (0 : Int) ≤ i := q2
      have l1 : i < (m : Int) := q4
      go_wp2_with fail
      refine (stSum_q ((RInts.below HR.out hb).more hb.size) ((RInts.below HIN.out.1 hb).more hb.size) hn0 (fun e => absurd e (some_of_pos HR.out (by omega))) HFB.out HHB.out (by omega) hlh.out).mono ?_
      rintro e w5 ⟨V, C, rfl, hO5, hn⟩
      have P1 := Lib.hid (show Own w5 w.heap.size (.slice V n C) n (ffF fr (ys0.map FV.f) i) by rw [HV.out.1, HY.out]; exact own_lower hO5 hb.size)
      have P2 := Lib.hid (RF.mk' (row_step HOO.out hn) (OIn.step HOI.out hn) HD.out hn6 (show c2 ≤ 8 by omega) HBF.out)
      have P3 := Lib.hid (Nin.of_new HOI.out hO5)
      have hb5 := hb.trans (hn.mono hb.size)
      clear hO5 hn c0
      go_wp2_with fail
      go_ret3
      exact ⟨V, n, C, VO, c2, CO, zs, by rw [HG.out]; simp, P1.out, by rw [HVL.out]; exact P2.out, P3.out, hn0, hb5⟩
set_option maxRecDepth 100000 in
set_option maxHeartbeats 4000000 in
theorem finishForm_impl {A B : Option Addr} {n c m d : Nat} {fr : List Int} {fs : List Frm} {i : Int} {w : World} (hr : RInts w w.heap.size A n fr) (hn0 : n ≤ 1048576) (hs : AForms w B m fs) (hm0 : m ≤ 1048576) (hI : -9223372036854775808 ≤ i ∧ i ≤ 9223372036854775807) :
    Calls Try.prog 10 #[.slice A n c, .slice B m d, .int .i64 i] w fun e w' => ∃ V N C U M E ys, e = .returned (.tuple #[.slice V N C, .slice U M E, .bool (ffG fr fs i)]) ∧ Own w' w.heap.size (.slice V N C) N (ffF fr fs i) ∧ RF w' w.heap.size (.slice U M E) M ys (ffL fr fs i) ∧ Nin (.slice V N C) ys ∧ N ≤ 1048576 ∧ Below w.heap.size w w' := by
  cases h1 : askG fr fs i
  · have HG := Lib.hid (show ffG fr fs i = false by rw [ffG, h1]; rfl)
    (go_enter Try.func10, Try.ntmps10; go_wp2_with fail; refine (isForm_any hr hn0 hs hm0).mono ?_; rintro e w1 ⟨rfl, hb1⟩)
    rw [h1]
    clear h1
    go_wp2_with fail
    go_ret3
    exact ⟨some ⟨w1.heap.size, 0, none⟩, 0, 0, some ⟨w1.heap.size + 1, 0, none⟩, 0, 0, [], by rw [HG.out]; simp, by rw [(ff_no HG.out).1]; exact row_alloc (own_empty w1 w.heap.size hb1.size) _, by rw [(ff_no HG.out).2]; simpa using RF.empty (w1.alloc (.cells #[] 3)) w.heap.size (by have := hb1.size; simp; omega), Nin.nil _, by omega, (hb1.alloc hb1.size _).alloc (by have := hb1.size; simp; omega) _⟩
  obtain ⟨q1, q2, q3⟩ := ask_true h1
  obtain ⟨t1, t2, t3, t4⟩ := stG_true q1
  have HF := Lib.hid t4
  have HFR := Lib.hid hr.len
  have HM := Lib.hid hs.len
  have HT2 := Lib.hid t2
  have q4 : i < m := by have := HM.out; omega
  have hm8 : m ≤ 8 := by have := HM.out; omega
  have hn6 : n ≤ 6 := by have := HFR.out; omega
  have hn1 : 1 ≤ n := by have := HFR.out; omega
  have HH1 := Lib.hid h1
  clear t2 t4 q1 t1 t3
  obtain ⟨ys0, hs0, rfl, hL0⟩ := hs
  have HL0 := Lib.hid hL0
  have HS0 := Lib.hid hs0
  have hsA : AForms w B m (ys0.map FV.f) := ⟨ys0, hs0, rfl, hL0⟩
  obtain ⟨b, off, y, eB, hbb, _, hy, c0, c1, hin⟩ := RForms.at_ hs0 (k := i.toNat) (by omega)
  subst eB
  have hf := HF.out y.f (List.mem_map_of_mem (List.mem_of_getElem? hy))
  have HY := Lib.hid (frmAt_map hy)
  have HY0 := Lib.hid hy
  have hlw := Lib.hid (show y.f.wanted.length = n by have := HFR.out; omega)
  have hlh := Lib.hid (show y.f.held.length = n by have := HFR.out; omega)
  have HHB := Lib.hid (show ∀ x ∈ y.f.held, 0 ≤ x ∧ x ≤ 1000000 from fun x hx => by have := hf.1.2 x hx; omega)
  have HFB := Lib.hid (show ∀ x ∈ fr, 0 ≤ x ∧ x ≤ 1000000 from fun x hx => by have := HT2.out x hx; omega)
  have HIN := Lib.hid hin
  have HC0 := Lib.hid c0
  have HC1 := Lib.hid c1
  have HR := Lib.hid hr
  clear hy hf hL0 hs0 c0 c1 hin
  cases h2 : canL fr y.f.wanted
  · have HG := Lib.hid (show ffG fr (ys0.map FV.f) i = false by rw [ffG, HY.out, h2]; simp)
    have hs := hsA
    ((go_enter Try.func10, Try.ntmps10; go_wp2_with fail; refine (isForm_any hr hn0 hs hm0).mono ?_; rintro e w1 ⟨rfl, hb1⟩); rw [h1]; clear h1 hsA hr; (have c0 := (hb1.cell (p := ⟨b, off + i.toNat * 2, none⟩) hbb).trans HC0.out); (have c1 := (hb1.cell (p := ⟨b, off + i.toNat * 2 + 1, none⟩) hbb).trans HC1.out); go_wp2_with fail; refine (canFinish_any (y := y) ((RInts.below HR.out hb1).more hb1.size) ⟨(RInts.below HIN.out.1 hb1).more hb1.size, (RInts.below HIN.out.2 hb1).more hb1.size⟩ (Nat.le_refl _) hn0 hlw.out).mono ?_; rintro e w2 ⟨rfl, hn⟩; replace hb1 := hb1.trans (hn.mono hb1.size); clear hn c0 c1; rw [h2])
    clear h2
    go_wp2_with fail
    go_ret3
    exact ⟨some ⟨w2.heap.size, 0, none⟩, 0, 0, some ⟨w2.heap.size + 1, 0, none⟩, 0, 0, [], by rw [HG.out]; simp, by rw [(ff_no HG.out).1]; exact row_alloc (own_empty w2 w.heap.size hb1.size) _, by rw [(ff_no HG.out).2]; simpa using RF.empty (w2.alloc (.cells #[] 3)) w.heap.size (by have := hb1.size; simp; omega), Nin.nil _, by omega, (hb1.alloc hb1.size _).alloc (by have := hb1.size; simp; omega) _⟩
  have HG := Lib.hid (show ffG fr (ys0.map FV.f) i = true by rw [ffG, HH1.out, HY.out, h2]; rfl)
  have HV := Lib.hid (ff_yes HG.out)
  obtain ⟨j, hij⟩ : ∃ j : Nat, i = (j : Int) := ⟨i.toNat, by omega⟩
  have HIJ := Lib.hid hij
  have hjm : j < m := by omega
  have HYJ := Lib.hid (show ys0[j]? = some y by have := HY0.out; rw [hij, Int.toNat_natCast] at this; exact this)
  have HLE := Lib.hid (show ys0.length = m from HS0.out.len)
  have HVL := Lib.hid (show ffL fr (ys0.map FV.f) i = dropAt (ys0.map FV.f) j by rw [HV.out.2, hij, Int.toNat_natCast])
  have HBF := Lib.hid (show ∀ f ∈ dropAt (ys0.map FV.f) j, f.held.length = n ∧ f.wanted.length = n from fun f h => by have := HF.out f (mem_dropAt h); have := HFR.out; omega)
  clear hij
  have hs := hsA
  ((go_enter Try.func10, Try.ntmps10; go_wp2_with fail; refine (isForm_any hr hn0 hs hm0).mono ?_; rintro e w1 ⟨rfl, hb1⟩); rw [h1]; clear h1 hsA hr; (have c0 := (hb1.cell (p := ⟨b, off + i.toNat * 2, none⟩) hbb).trans HC0.out); (have c1 := (hb1.cell (p := ⟨b, off + i.toNat * 2 + 1, none⟩) hbb).trans HC1.out); go_wp2_with fail; refine (canFinish_any (y := y) ((RInts.below HR.out hb1).more hb1.size) ⟨(RInts.below HIN.out.1 hb1).more hb1.size, (RInts.below HIN.out.2 hb1).more hb1.size⟩ (Nat.le_refl _) hn0 hlw.out).mono ?_; rintro e w2 ⟨rfl, hn⟩; replace hb1 := hb1.trans (hn.mono hb1.size); clear hn c0 c1; rw [h2])
  clear h2
  obtain ⟨j0, hj, hy0, hy1, hy2⟩ := info_parts infoForm
  go_wp2_with fail
  refine (cloneForms_any (xs := ys0) ((HS0.out.below hb1).more hb1.size) hm0 (fun z hz => by have h8 := HF.out z.f (List.mem_map_of_mem hz); have h9 := HFR.out; omega)).mono ?_
  rintro e w3 ⟨VC, CC, zs, rfl, hoo, hoi, hmp, hn⟩
  have hb3 := hb1.trans (hn.mono hb1.size)
  have hlo3 := hb1.size
  obtain ⟨g, rfl⟩ : ∃ g, VC = some ⟨g, 0, none⟩ := by
    rcases own_form hoo with ⟨_, h8, _⟩ | h8
    · omega
    · exact h8
  have HOO := Lib.hid (show OwnF w3 w.heap.size (.slice (some ⟨g, 0, none⟩) m CC) m zs from row_lw hoo hlo3)
  have HOI := Lib.hid (show OIn w3 w.heap.size zs from ⟨fun q z hz => ⟨row_lw (hoi.1 q z hz).1 hlo3, row_lw (hoi.1 q z hz).2 hlo3⟩, hoi.2⟩)
  have hmc : m ≤ CC := own_capF hoo
  have hgl := HOO.out.lt g rfl
  have HD := Lib.hid (show (eraseV zs j).map FV.f = dropAt (ys0.map FV.f) j by rw [map_erase, hmp])
  have HZL := Lib.hid (show zs.length = m from HOO.out.len)
  have c0 := (hb3.cell (p := ⟨b, off + i.toNat * 2, none⟩) hbb).trans HC0.out
  have hij := HIJ.out
  subst hij
  rw [Int.toNat_natCast] at c0
  have hb3s := hb3.size
  clear hoo hoi hmp hn hb1 hlo3
  have l0 : (0 : Int) ≤ (j : Int) := by omega
  have l1 : (j : Int) < (m : Int) := by omega
  have l2 : (j : Int) ≤ (CC : Int) := by omega
  have ej : IntKind.i64.wrap ((j : Int) + 1) = (j : Int) + 1 := wrapI (by omega) (by omega)
  have ejn : ((j : Int) + 1).toNat = j + 1 := by omega
  have l3 : (0 : Int) ≤ (j : Int) + 1 := by omega
  have l4 : (j : Int) + 1 ≤ (m : Int) := by omega
  have l5 : (m : Int) ≤ (CC : Int) := by omega
  have hRR := Lib.hid (show RInts w3.drew w3.drew.heap.size A n fr from (RInts.below HR.out hb3).more hb3.size)
  have hRH := Lib.hid (show RInts w3.drew w3.drew.heap.size y.a1 y.f.held.length y.f.held from (RInts.below HIN.out.1 hb3).more hb3.size)
  have HNE := Lib.hid (Nin.of_type HOO.out HOI.out (by decide))
  have lq1 : (j : Int) < (j : Int) + 1 := by omega
  have lq2 : (j : Int) ≤ (j : Int) + 1 := by omega
  have hS0 : w3.cell? ⟨b, off + j * 2, none⟩ = some (.slice y.a1 y.f.held.length y.c1) := c0
  clear c0
  by_cases hcap : CC = j + 1
  · have hmj : m = j + 1 := by omega
    subst hcap hmj
    go_wp2_with fail
    go_region_held3 (fun wq => wq.cell? ⟨b, off + j * 2, none⟩ = some (.slice y.a1 y.f.held.length y.c1)) ((first | exact hS0 | exact hS5 | exact hS9 | assumption | go_keep)) (first
      | (go_at_call 30; refine (plus1_q (w := w3.drew) hRR.out hRH.out hn0 HFB.out HHB.out hlh.out).mono ?_; rintro e w5 ⟨V, C, rfl, hO5, hn5⟩; replace hn5 : Below w3.heap.size w3 w5 := (show Below w3.heap.size w3 w3.drew from (Below.refl _ _).drew).trans hn5; have hS5 : w5.cell? ⟨b, off + j * 2, none⟩ = some (.slice y.a1 y.f.held.length y.c1) := (hn5.cell (p := ⟨b, off + j * 2, none⟩) (by simp <;> omega)).trans hS0)
      | (apply step_append_g (w := w5) (s := .tmp 37) (x := .tmp 41) (t := 25) (base := w.heap.size) (e := 44) (i := j0) (z := .agg #[.slice none 0 0, .slice none 0 0]) (size := 2) (bytes := 48) (v := .slice (some ⟨g, 0, none⟩) j (j + 1)) (n := j) (xs := (zs.map FV.row).flatten.take (j * 2)) (ad := ⟨g, 0, none⟩) (m := 0) (news := ([] : List Value)); exact rfl; exact rfl; exact Try.underlying25; exact hj; exact hy0; exact hy1; exact hy2; exact rfl; decide; exact rfl; exact own_prefix (row_step HOO.out hn5) (by omega); exact rfl; exact rfl; exact (fun q u hu => by simp at hu); exact (fun u hu => by simp at hu); (unfold maxLen; omega); omega; (have h9 := hn5.size; omega); intro v9 w9 hO9 hgr9; have hS9 : w9.cell? ⟨b, off + j * 2, none⟩ = some (.slice y.a1 y.f.held.length y.c1) := (hgr9.cell_far ⟨b, off + j * 2, none⟩ (show b < w5.heap.size by have h9 := hn5.size; omega) (fun e => by have := own_at e.symm; dsimp only at this; omega)).trans hS5; obtain ⟨V9, C9, rfl⟩ := own_slice hO9))
    have hsz5 : w3.heap.size ≤ w5.heap.size := hn5.size
    have P1 := Lib.hid (show Own w9 w.heap.size (.slice V n C) n (ffF fr (ys0.map FV.f) (j : Int)) by rw [HV.out.1, HY.out]; exact own_lower (row_grew hO5 hgr9 (fun z hz e => by dsimp only at e; have h9 := (World.ownsRow.lt hO5 z hz).1; simp at h9; omega)) (by simp; omega))
    have HI5 := Lib.hid (show OIn w5 w.heap.size zs from OIn.step HOI.out hn5)
    have HI9 := Lib.hid (OIn.erase (OIn.grew HI5.out hgr9 (fun z hz => HNE.out z hz)) j)
    have hrow : OwnF w9 w.heap.size (.slice V9 j C9) j (eraseV zs j) := by
      unfold OwnF
      rw [← row_erase, List.drop_of_length_le (by rw [flat_rows, HZL.out]; omega)]
      exact hO9
    have P2 := Lib.hid (RF.mk' hrow HI9.out HD.out hn6 (show j ≤ 8 by omega) HBF.out)
    have P3 := Lib.hid (Nin.erase (Nin.of_new (w := w3) HOI.out hO5) j)
    have hb9 := hb3.trans (hn5.mono hb3s) |>.trans (grown_below hgr9 (by omega) (fun z hz => by have := own_at hz; omega))
    clear hS0 hS5 hS9 hO5 hn5 hO9 hgr9 hrow
    go_wp2_with fail
    go_ret3
    exact ⟨V, n, C, V9, j, C9, eraseV zs j, by rw [HG.out]; simp, P1.out, by rw [HVL.out]; exact P2.out, P3.out, hn0, hb9⟩
  · have hcap2 : ¬ CC = j + 1 := hcap
    have HNL := Lib.hid (show ((zs.map FV.row).flatten.drop ((j + 1) * 2)).length = (m - (j + 1)) * 2 by rw [List.length_drop, flat_rows, HZL.out]; omega)
    go_wp2_with fail
    go_region_held3 (fun wq => wq.cell? ⟨b, off + j * 2, none⟩ = some (.slice y.a1 y.f.held.length y.c1)) ((first | exact hS0 | exact hS5 | exact hS9 | assumption | go_keep)) (first
      | (go_at_call 30; refine (plus1_q (w := w3.drew) hRR.out hRH.out hn0 HFB.out HHB.out hlh.out).mono ?_; rintro e w5 ⟨V, C, rfl, hO5, hn5⟩; replace hn5 : Below w3.heap.size w3 w5 := (show Below w3.heap.size w3 w3.drew from (Below.refl _ _).drew).trans hn5; have hS5 : w5.cell? ⟨b, off + j * 2, none⟩ = some (.slice y.a1 y.f.held.length y.c1) := (hn5.cell (p := ⟨b, off + j * 2, none⟩) (by simp <;> omega)).trans hS0)
      | (apply step_append_g (w := w5) (s := .tmp 37) (x := .tmp 41) (t := 25) (base := w.heap.size) (e := 44) (i := j0) (z := .agg #[.slice none 0 0, .slice none 0 0]) (size := 2) (bytes := 48) (v := .slice (some ⟨g, 0, none⟩) j CC) (n := j) (xs := (zs.map FV.row).flatten.take (j * 2)) (ad := ⟨g, (j + 1) * 2, none⟩) (m := (m - (j + 1))) (news := ((zs.map FV.row).flatten.drop ((j + 1) * 2))); exact rfl; exact rfl; exact Try.underlying25; exact hj; exact hy0; exact hy1; exact hy2; exact rfl; decide; exact rfl; exact own_prefix (row_step HOO.out hn5) (by omega); exact rfl; exact HNL.out; exact (fun q u hu => by rw [Addr.add_lit]; exact (World.ownsRow.cellAt (row_step HOO.out hn5) ((j + 1) * 2 + q) (by rw [List.getElem?_drop] at hu; have h9 := (List.getElem?_eq_some_iff.1 hu).1; rw [flat_rows] at h9; have h8 := HZL.out; omega)).trans (by rw [← hu, List.getElem?_drop])); exact (fun u hu => rows_cells zs u (List.mem_of_mem_drop hu)); (unfold maxLen; omega); omega; (have h9 := hn5.size; omega); intro v9 w9 hO9 hgr9; have hS9 : w9.cell? ⟨b, off + j * 2, none⟩ = some (.slice y.a1 y.f.held.length y.c1) := (hgr9.cell_far ⟨b, off + j * 2, none⟩ (show b < w5.heap.size by have h9 := hn5.size; omega) (fun e => by have := own_at e.symm; dsimp only at this; omega)).trans hS5; obtain ⟨V9, C9, rfl⟩ := own_slice hO9))
    have hsz5 : w3.heap.size ≤ w5.heap.size := hn5.size
    have P1 := Lib.hid (show Own w9 w.heap.size (.slice V n C) n (ffF fr (ys0.map FV.f) (j : Int)) by rw [HV.out.1, HY.out]; exact own_lower (row_grew hO5 hgr9 (fun z hz e => by dsimp only at e; have h9 := (World.ownsRow.lt hO5 z hz).1; simp at h9; omega)) (by simp; omega))
    have HI5 := Lib.hid (show OIn w5 w.heap.size zs from OIn.step HOI.out hn5)
    have HI9 := Lib.hid (OIn.erase (OIn.grew HI5.out hgr9 (fun z hz => HNE.out z hz)) j)
    have hrow : OwnF w9 w.heap.size (.slice V9 (j + (m - (j + 1))) C9) (j + (m - (j + 1))) (eraseV zs j) := by
      unfold OwnF
      rw [← row_erase]
      exact hO9
    have P2 := Lib.hid (RF.mk' hrow HI9.out HD.out hn6 (show (j + (m - (j + 1))) ≤ 8 by omega) HBF.out)
    have P3 := Lib.hid (Nin.erase (Nin.of_new (w := w3) HOI.out hO5) j)
    have hb9 := hb3.trans (hn5.mono hb3s) |>.trans (grown_below hgr9 (by omega) (fun z hz => by have := own_at hz; omega))
    clear hS0 hS5 hS9 hO5 hn5 hO9 hgr9 hrow
    go_wp2_with fail
    go_ret3
    exact ⟨V, n, C, V9, (j + (m - (j + 1))), C9, eraseV zs j, by rw [HG.out]; simp, P1.out, by rw [HVL.out]; exact P2.out, P3.out, hn0, hb9⟩
end Go.Proofs.Ytljefnfekbajkaa
