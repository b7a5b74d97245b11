/-
  The frame of every law's statement: a law that returns true and leaves all that was there as it was, meets its row. And how arguments are opened.
-/
import Derived.Test.YtoclndbenpagnaaDoorWords
import Derived.Test.YtoclndbenpagnaaDoorChecked
import Derived.ProofKit
import Derived.OpenShut
import Derived.Lib.SmallJoins
import Derived.Deep.Slices
import Derived.Deep.Fields
namespace Go.Proofs.YtoclndbenpagnaaDoor
set_option maxRecDepth 100000
open Go.ChangeShapes Go.WideShapes Go.ChangeAt Go.RowKit

theorem own : ownKnob Tryd.prog.godebug = none := by kernel_rfl
theorem laidOut : laidOutB Tryd.prog = true := by kernel_rfl

section
variable {H : Type} {enc : TypeId × Value → H} {P : Program}
theorem trodAll_length {w : World} {base : Nat} {sp : Nat → Bool} {hd : Bool} : ∀ {ts : List TypeId} {vs : List Value} {ds : List (DataW H)} {ps : List MemPlace},
    DataW.TrodAll enc P w base sp hd ts vs ds ps → ds.length = ts.length ∧ vs.length = ts.length
  | [], [], [], _, _ => ⟨rfl, rfl⟩
  | _ :: _, _ :: _, _ :: _, _, ⟨_, _, _, h, _⟩ => by have := trodAll_length h; simp [this.1, this.2]
  | [], [], _ :: _, _, h => h.elim
  | [], _ :: _, _, _, h => h.elim
  | _ :: _, [], _, _, h => h.elim
  | _ :: _, _ :: _, [], _, h => h.elim

theorem trodAll_below (hl : laidOutB P = true) {W W' : World} (hb : Below W.heap.size W W') {sp : Nat → Bool} : ∀ {ts : List TypeId} {vs : List Value} {ds : List (DataW H)} {ps : List MemPlace},
    (∀ t ∈ ts, P.readableRec t = true ∧ t < P.types.size) → (∀ x ∈ ps, x.block < W.heap.size) → (∀ x ∈ ps, sp x.block = true) →
    DataW.TrodAll enc P W 0 (fun _ => true) true ts vs ds ps → DataW.TrodAll enc P W' 0 sp true ts vs ds ps
  | [], [], [], _, _, _, _, h => h
  | t :: _, _ :: _, _ :: _, _, hr, hlt, hs, ⟨p, q, h, h', e⟩ => by
    subst e
    refine ⟨p, q, ?_, trodAll_below hl hb (fun t ht => hr t (List.mem_cons_of_mem _ ht)) (fun x hx => hlt x (List.mem_append_right _ hx)) (fun x hx => hs x (List.mem_append_right _ hx)) h', rfl⟩
    exact WideElems.Trod_stays hl (hr t (List.mem_cons_self)).1 (hr t (List.mem_cons_self)).2 h (fun x hx => hb.same (hlt x (List.mem_append_left _ hx))) (fun x hx => hs x (List.mem_append_left _ hx))
  | [], [], _ :: _, _, _, _, _, h => h.elim
  | [], _ :: _, _, _, _, _, _, h => h.elim
  | _ :: _, [], _, _, _, _, _, h => h.elim
  | _ :: _, _ :: _, [], _, _, _, _, h => h.elim

theorem post_of_below {f : Func} {s : ChangeSpec} {apart fresh handsOn again : Bool} {W W' : World} {args : Array Value} {v : Value} {ds gs : List (DataW H)} {before pa pv : List MemPlace}
    (hW : DataW.Whole enc P f.params.toList s.vars apart W args.toList ds gs before)
    (hres : ∀ (b : Nat) (sp : Nat → Bool) (hd : Bool), DataW.TrodAll enc P W' b sp hd f.resultTypes.toList (v.resultList f.resultTypes.size) (s.fn H (ds ++ gs)).results [])
    (hargs : ∀ sp : Nat → Bool, (∀ p ∈ before, sp p.block = true) → DataW.TrodAll enc P W' 0 sp true f.params.toList args.toList (s.fn H (ds ++ gs)).args pa)
    (hvars : ∀ sp : Nat → Bool, (∀ p ∈ before, sp p.block = true) → DataW.TrodVars enc P W' sp s.vars (s.fn H (ds ++ gs)).vars pv)
    (hps : before = pa ++ pv) (hb : Below W.heap.size W W')
    (hok : ∀ (j : Nat) (t : TypeId) (r : Value), f.resultTypes[j]? = some t → (v.resultList f.resultTypes.size)[j]? = some r → Value.okWide P W' .any 0 t r) :
    s.post enc P f apart fresh handsOn again W args v W' := by
  have hlt : ∀ p ∈ before, p.block < W.heap.size := fun p hp => hW.lt p hp
  have hold : ∀ p ∈ before, (fun b => decide (b < W.heap.size)) p.block = true := fun p hp => by simpa using hlt p hp
  refine ⟨ds, gs, before, [], pa, pv, hW, hres _ _ _, hargs _ hold, hvars _ hold, World.keptBut_mono (fun p hp => ⟨hp, ?_⟩) (hb.frame (· ∈ before)), fun _ => ?_⟩
  · rw [hps, List.mem_append] at hp
    exact Or.inr hp
  · obtain ⟨_, _, _, _, _, hz, hn⟩ := hW
    refine ⟨hok, _, _, ([] ++ pa) ++ pv, ⟨[] ++ pa, pv, trodAll_append (hargs _ (fun _ _ => rfl)) (hres _ _ _), hvars _ (fun _ _ => rfl), rfl, ?_, ?_⟩, ?_⟩
    · intro b off hp
      have hin : MemPlace.cell b off ∈ before := by rw [hps]; simpa using hp
      rw [hb.frozen (hlt _ hin)]
      exact hz b off hin
    · intro ha
      have := hn ha
      rw [hps] at this
      simpa using this
    · intro p hp _
      rw [hps]
      simpa using hp
end

theorem list1 {α : Type _} {l : List α} (h : l.length = 1) : ∃ a, l = [a] := by
  match l, h with
  | [a], _ => exact ⟨a, rfl⟩
theorem list2 {α : Type _} {l : List α} (h : l.length = 2) : ∃ a b, l = [a, b] := by
  match l, h with
  | [a, b], _ => exact ⟨a, b, rfl⟩
theorem list3 {α : Type _} {l : List α} (h : l.length = 3) : ∃ a b c, l = [a, b, c] := by
  match l, h with
  | [a, b, c], _ => exact ⟨a, b, c, rfl⟩
theorem list4 {α : Type _} {l : List α} (h : l.length = 4) : ∃ a b c d, l = [a, b, c, d] := by
  match l, h with
  | [a, b, c, d], _ => exact ⟨a, b, c, d, rfl⟩

/-- A law's row, out of its contract. -/
theorem law_lift {H : Type} {enc : TypeId × Value → H} {os : Os} (started : os.Started) {f : FuncId} {fn : Func} {s : ChangeSpec} (ts : List TypeId)
    (hvars : s.vars = []) (noInit : Tryd.checked.prog.inits.idxOf? f = none) (hfn : Tryd.checked.prog.funcs[f]? = some fn) (hrt : fn.resultTypes = #[4]) (hpar : fn.params.toList = ts)
    (hspec : ∀ ds : List (DataW H), ds.length = ts.length → s.fn H ds = { results := [.lit (.bool true)], args := ds })
    (hp0 : (ts.all fun t => Tryd.prog.readableRec t && decide (t < Tryd.prog.types.size)) = true)
    (witness : ∃ (w : World) (tape : Tape) (i : Input), w.os = os ∧ (w.forCall tape i).Shaped Tryd.checked.prog ∧ i.vars = [] ∧ Input.okWide Tryd.checked.prog (w.forCall tape i) .any w.heap.size f i ∧
      s.pre6 enc Tryd.checked.prog fn [] false (w.forCall tape i).memory i.args ∧ ({} : Assume).holds Tryd.checked.prog (lone (Frame.enter Tryd.checked.prog f i.args .normal) [] (w.forCall tape i)))
    (contract : ∀ (W : World) (base : Nat) (vs : List Value) (ds : List (DataW H)) (p : List MemPlace),
      (∀ (j : Nat) t v, ts[j]? = some t → vs[j]? = some v → Value.okWide Tryd.prog W .any base t v) →
      DataW.TrodAll enc Tryd.prog W 0 (fun _ => true) true ts vs ds p →
      Calls Tryd.prog f vs.toArray W fun e W' => e = .returned (.bool true) ∧ Below W.heap.size W W') :
    ReturnsInHanded {} Tryd.checked os f .any (s.pre6 enc Tryd.checked.prog fn [] false) (s.post enc Tryd.checked.prog fn false true false false) := by
  have hp : ∀ t ∈ ts, Tryd.prog.readableRec t = true ∧ t < Tryd.prog.types.size := fun t ht => by simpa using List.all_eq_true.1 hp0 t ht
  refine returnsInHanded_of_change (C := Tryd.checked) own started noInit hfn witness ?_
  intro W base args ds gs before hval hW _ _
  have hW' := hW
  obtain ⟨p, q, hA, hV, rfl, hfz, hnd⟩ := hW
  rw [hvars] at hV
  obtain ⟨rfl, rfl⟩ := trodVars_none hV
  have hlt : ∀ x ∈ p, x.block < W.heap.size := fun x hx => by simpa using hW'.lt x (by simpa using hx)
  rw [hpar] at hA
  have hlen : ds.length = ts.length := (trodAll_length hA).1
  have C := contract W base args.toList ds p (fun j t v ht hv => hval j t v (by rw [← Array.getElem?_toList, hpar]; exact ht) (by rw [← Array.getElem?_toList]; exact hv)) hA
  rw [Array.toArray_toList] at C
  refine C.mono fun e W' ⟨he, hb⟩ => ?_
  subst he
  refine ⟨_, rfl, post_of_below (pa := p) (pv := []) hW' ?_ ?_ ?_ rfl hb ?_⟩
  · intro b sp hd
    rw [List.append_nil, hspec ds hlen, hrt]
    exact trodAll_mk1 (shut_bool Tryd.underlying4 _)
  · intro sp hsp
    rw [List.append_nil, hspec ds hlen, hpar]
    exact trodAll_below laidOut hb hp hlt (fun x hx => hsp x (by simpa using hx)) hA
  · intro sp _
    rw [hvars, List.append_nil, hspec ds hlen]
    rfl
  · exact ok_one hrt rfl (okWide_bool_mk Tryd.underlying4 _)

/-- An integer's bounds. -/
theorem i64_of_wf {n : Int} (h : (Lit.int .i64 n).wf = true) : -9223372036854775808 ≤ n ∧ n ≤ 9223372036854775807 := by
  simp [Lit.wf, IntKind.min, IntKind.max, IntKind.signed, IntKind.bits] at h
  exact ⟨by omega, by omega⟩

section
variable {H : Type} {enc : TypeId × Value → H} {w : World} {d : DataW H} {p : List MemPlace} {base : Nat} {v : Value}
/-- An argument that is a slice of ints. -/
theorem open_rints {t : TypeId} (ht : Tryd.prog.underlying t = some (.slice 3)) (hv : Value.okWide Tryd.prog w .any base t v) (h : DataW.Trod enc Tryd.prog w 0 (fun _ => true) true t v d p) :
    ∃ A n c xs, v = .slice A n c ∧ RInts w w.heap.size A n xs ∧ n ≤ maxLen ∧ (∀ x ∈ xs, (Lit.int .i64 x).wf = true) := by
  obtain ⟨a0, len, cap, rfl⟩ := okWide_slice ht hv
  obtain ⟨fuel, hf⟩ := h
  rcases open_ints ht Tryd.underlying3 (by kernel_rfl) hf with ⟨hcs, _⟩ | ⟨a, len', cap', zs, hcs, _, hl, hm, hz, _, hcell, hwf⟩
  · simp [Value.cells] at hcs
    obtain ⟨rfl, rfl, rfl⟩ := hcs
    exact ⟨none, 0, 0, [], rfl, Reads.none_, by simp, by simp⟩
  · simp [Value.cells] at hcs
    obtain ⟨rfl, rfl, rfl⟩ := hcs
    simp at hz
    refine ⟨some a, len, cap, zs.take len, rfl, ⟨by simp; omega, fun hn => ?_⟩, by omega, fun x hx => hwf x (List.mem_of_mem_take hx)⟩
    have h0 := hcell 0 (by omega)
    refine ⟨a, rfl, ?_, fun j u hu => ?_⟩
    · have := World.block_lt_of_cell? w _ h0
      rwa [block_of_add] at this
    · have hj : j < len := by
        have := (List.getElem?_eq_some_iff.1 hu).1
        simp at this
        omega
      rw [hcell j (by omega)]
      rw [← hu]
      simp [hj, show j < zs.length by omega]
open Go.Joins Go.Deep in
/-- A struct of three ints by value. -/
theorem open_i3 {t : TypeId} {f0 f1 f2 : Field} (hs : Tryd.prog.underlying t = some (.struct #[f0, f1, f2])) (hone : oneCellFields Tryd.prog #[f0, f1, f2] = true) (hC : Tryd.prog.cellsOf t = 3)
    (e0 : f0.type = 3) (e1 : f1.type = 3) (e2 : f2.type = 3)
    (hv : Value.okWide Tryd.prog w .any base t v) (h : DataW.Trod enc Tryd.prog w 0 (fun _ => true) true t v d p) :
    ∃ a b c : Int, v = .agg #[.int .i64 a, .int .i64 b, .int .i64 c] ∧ (Lit.int .i64 a).wf = true ∧ (Lit.int .i64 b).wf = true ∧ (Lit.int .i64 c).wf = true := by
  obtain ⟨v0, v1, v2, y0, y1, y2, n, rfl, _, _, h0, h1, h2⟩ := open_agg3 hs hone hC hv h
  rw [e0] at h0; rw [e1] at h1; rw [e2] at h2
  obtain ⟨a, k0, _, wa⟩ := DataW.trod_int Tryd.underlying3 h0
  obtain ⟨b, k1, _, wb⟩ := DataW.trod_int Tryd.underlying3 h1
  obtain ⟨c, k2, _, wc⟩ := DataW.trod_int Tryd.underlying3 h2
  simp only [List.cons.injEq, and_true] at k0 k1 k2
  subst k0 k1 k2
  exact ⟨a, b, c, rfl, wa, wb, wc⟩
open Go.Joins Go.Deep in
/-- A struct of four ints by value. -/
theorem open_i4 {t : TypeId} {f0 f1 f2 f3 : Field} (hs : Tryd.prog.underlying t = some (.struct #[f0, f1, f2, f3])) (hone : oneCellFields Tryd.prog #[f0, f1, f2, f3] = true) (hC : Tryd.prog.cellsOf t = 4)
    (e0 : f0.type = 3) (e1 : f1.type = 3) (e2 : f2.type = 3) (e3 : f3.type = 3)
    (hv : Value.okWide Tryd.prog w .any base t v) (h : DataW.Trod enc Tryd.prog w 0 (fun _ => true) true t v d p) :
    ∃ a b c e : Int, v = .agg #[.int .i64 a, .int .i64 b, .int .i64 c, .int .i64 e] ∧ (Lit.int .i64 a).wf = true ∧ (Lit.int .i64 b).wf = true ∧ (Lit.int .i64 c).wf = true ∧ (Lit.int .i64 e).wf = true := by
  obtain ⟨v0, v1, v2, v3, y0, y1, y2, y3, n, rfl, _, _, h0, h1, h2, h3⟩ := open_agg4 hs hone hC hv h
  rw [e0] at h0; rw [e1] at h1; rw [e2] at h2; rw [e3] at h3
  obtain ⟨a, k0, _, wa⟩ := DataW.trod_int Tryd.underlying3 h0
  obtain ⟨b, k1, _, wb⟩ := DataW.trod_int Tryd.underlying3 h1
  obtain ⟨c, k2, _, wc⟩ := DataW.trod_int Tryd.underlying3 h2
  obtain ⟨e, k3, _, we⟩ := DataW.trod_int Tryd.underlying3 h3
  simp only [List.cons.injEq, and_true] at k0 k1 k2 k3
  subst k0 k1 k2 k3
  exact ⟨a, b, c, e, rfl, wa, wb, wc, we⟩
theorem flatten_len {α : Type _} {size : Nat} : ∀ {rows : List (List α)}, (∀ r ∈ rows, r.length = size) → rows.flatten.length = rows.length * size
  | [], _ => by simp
  | r :: rows, h => by
    rw [List.flatten_cons, List.length_append, flatten_len (fun r' hr' => h r' (List.mem_cons_of_mem _ hr')), h r (by simp), List.length_cons, Nat.add_mul]
    omega
/-- Each row is one of a kind: the rows are those of a list. -/
theorem rows_of {α : Type _} {f : α → List Value} : ∀ {rows : List (List Value)}, (∀ r ∈ rows, ∃ x, r = f x) → ∃ xs, rows = List.map f xs
  | [], _ => ⟨[], rfl⟩
  | r :: rows, h => by
    obtain ⟨x, rfl⟩ := h r (by simp)
    obtain ⟨xs, rfl⟩ := rows_of (fun r' hr' => h r' (List.mem_cons_of_mem _ hr'))
    exact ⟨x :: xs, rfl⟩
theorem rows_ofP {α : Type _} {f : α → List Value} {Q : α → Prop} : ∀ {rows : List (List Value)}, (∀ r ∈ rows, ∃ x, r = f x ∧ Q x) → ∃ xs, rows = List.map f xs ∧ ∀ x ∈ xs, Q x
  | [], _ => ⟨[], rfl, by simp⟩
  | r :: rows, h => by
    obtain ⟨x, rfl, hx⟩ := h r (by simp)
    obtain ⟨xs, rfl, hxs⟩ := rows_ofP (fun r' hr' => h r' (List.mem_cons_of_mem _ hr'))
    refine ⟨x :: xs, rfl, fun y hy => ?_⟩
    rcases List.mem_cons.1 hy with rfl | hy
    · exact hx
    · exact hxs y hy
open Go.Deep in
/-- An argument that is a slice of structs: its rows of cells. -/
theorem open_rows {t e : TypeId} {size : Nat} (ht : Tryd.prog.underlying t = some (.slice e)) (hC : Tryd.prog.cellsOf e = size) (hpos : 0 < size)
    (hv : Value.okWide Tryd.prog w .any base t v) (h : DataW.Trod enc Tryd.prog w 0 (fun _ => true) true t v d p) :
    ∃ A n c rows, v = .slice A n c ∧ RRow w w.heap.size size A n rows ∧ n ≤ maxLen ∧ ∀ r ∈ rows, ∃ m y, DataW.trod enc Tryd.prog w 0 (fun _ => true) true m e r = some y := by
  obtain ⟨a0, len, cap, rfl⟩ := okWide_slice ht hv
  obtain ⟨fuel, hf⟩ := h
  rcases open_slice ht hf with ⟨hcs, _⟩ | ⟨a, len', cap', m, n, D, Pl, hcs, hb, hl, hm, hmm, hx, hi⟩
  · simp [Value.cells] at hcs
    obtain ⟨rfl, rfl, rfl⟩ := hcs
    exact ⟨none, 0, 0, [], rfl, ⟨rfl, by simp, Reads.none_⟩, by simp, by simp⟩
  · simp [Value.cells] at hcs
    obtain ⟨rfl, rfl, rfl⟩ := hcs
    simp at hmm
    subst hmm
    rw [hC] at hi
    obtain ⟨R, hR⟩ := choose_lt (α := List Value) (p := fun i r => w.cells? 0 (a.add (i * size)) size = some r ∧ DataW.trod enc Tryd.prog w 0 (fun _ => true) true n e r = some (D i, Pl i)) hi
    have hlen : ∀ r ∈ (List.range len).map R, r.length = size := by
      intro r hr
      obtain ⟨i, hi', rfl⟩ := List.mem_map.1 hr
      have := List.mem_range.1 hi'
      exact (World.cells?_some (hR i (by omega)).1).2.1
    have hflat := flatten_len hlen
    rw [List.length_map, List.length_range] at hflat
    refine ⟨some a, len, _, (List.range len).map R, rfl, ⟨by simp, hlen, hflat, fun hn => ⟨a, rfl, ?_, fun j u hu => ?_⟩⟩, by omega, fun r hr => ?_⟩
    · have h0 := (hR 0 (by omega)).1
      obtain ⟨_, hl0, hc0⟩ := World.cells?_some h0
      have := hc0 0 hpos
      rw [List.getElem?_eq_getElem (by omega)] at this
      have := World.block_lt_of_cell? w _ this
      rwa [block_of_add, block_of_add] at this
    · have hj : j < len * size := by
        have := (List.getElem?_eq_some_iff.1 hu).1
        rwa [hflat] at this
      have hq : j / size < len := Nat.div_lt_of_lt_mul (by rw [Nat.mul_comm]; exact hj)
      have hr : j % size < size := Nat.mod_lt _ hpos
      have e1 : j = j / size * size + j % size := by rw [Nat.mul_comm]; exact (Nat.div_add_mod j size).symm
      have h1 := flatten_at (rows := (List.range len).map R) (k := j / size) hlen (by rw [List.getElem?_map, List.getElem?_range hq]; rfl) (j % size) hr
      rw [← e1, hu] at h1
      obtain ⟨_, hl0, hc0⟩ := World.cells?_some (hR (j / size) (by omega)).1
      have h2 := hc0 (j % size) hr
      rw [add_of_add, ← e1] at h2
      rw [h2, ← h1]
    · obtain ⟨i, hi', rfl⟩ := List.mem_map.1 hr
      have := List.mem_range.1 hi'
      exact ⟨n, _, (hR i (by omega)).2⟩
open Go.Deep in
/-- The fields of a struct's row of cells. -/
theorem row_fields {e : TypeId} {fs : Array Field} {m : Nat} {r : List Value} {y : DataW H × List MemPlace} (he : Tryd.prog.underlying e = some (.struct fs)) (hone : oneCellFields Tryd.prog fs = true) (hl : r.length = fs.size)
    (h : DataW.trod enc Tryd.prog w 0 (fun _ => true) true m e r = some y) (j : Nat) (f : Field) (hj : fs[j]? = some f) :
    ∃ u y n, r[j]? = some u ∧ DataW.trod enc Tryd.prog w 0 (fun _ => true) true n f.type [u] = some y := by
  obtain ⟨ys, n', hn', hy, hlen, hyl, hf⟩ := DataW.trod_struct he h
  obtain ⟨ho, hk⟩ := hone_of hone j f hj
  have hjl : j < fs.size := (Array.getElem?_eq_some_iff.1 hj).1
  have h1 := hf j f hj
  rw [ho, hk] at h1
  have hone' : (r.drop j).take 1 = [r[j]'(by omega)] := by
    rw [List.drop_eq_getElem_cons (by omega)]
    rfl
  rw [hone'] at h1
  have hys : ys[j]? = some (ys[j]'(by omega)) := List.getElem?_eq_getElem (by omega)
  exact ⟨_, _, n', List.getElem?_eq_getElem (by omega), h1.trans hys⟩
theorem row_int {e : TypeId} {fs : Array Field} {m : Nat} {r : List Value} {y : DataW H × List MemPlace} (he : Tryd.prog.underlying e = some (.struct fs)) (hone : Go.Deep.oneCellFields Tryd.prog fs = true) (hl : r.length = fs.size)
    (h : DataW.trod enc Tryd.prog w 0 (fun _ => true) true m e r = some y) (j : Nat) (f : Field) (hj : fs[j]? = some f) (hf : f.type = 3) : ∃ n : Int, r[j]? = some (.int .i64 n) ∧ (Lit.int .i64 n).wf = true := by
  obtain ⟨u, y', n, hu, hy⟩ := row_fields he hone hl h j f hj
  rw [hf] at hy
  obtain ⟨x, k0, _, wx⟩ := DataW.trod_int Tryd.underlying3 hy
  injection k0 with k0
  subst k0
  exact ⟨x, hu, wx⟩
theorem row_string {e : TypeId} {fs : Array Field} {m : Nat} {r : List Value} {y : DataW H × List MemPlace} (he : Tryd.prog.underlying e = some (.struct fs)) (hone : Go.Deep.oneCellFields Tryd.prog fs = true) (hl : r.length = fs.size)
    (h : DataW.trod enc Tryd.prog w 0 (fun _ => true) true m e r = some y) (j : Nat) (f : Field) (hj : fs[j]? = some f) (hf : f.type = 9) : ∃ n : ByteArray, r[j]? = some (.string n) ∧ n.size ≤ maxLen := by
  obtain ⟨u, y', n, hu, hy⟩ := row_fields he hone hl h j f hj
  rw [hf] at hy
  obtain ⟨x, k0, _, wx⟩ := DataW.trod_string Tryd.underlying9 hy
  injection k0 with k0
  subst k0
  exact ⟨x, hu, wx⟩
theorem row_bool {e : TypeId} {fs : Array Field} {m : Nat} {r : List Value} {y : DataW H × List MemPlace} (he : Tryd.prog.underlying e = some (.struct fs)) (hone : Go.Deep.oneCellFields Tryd.prog fs = true) (hl : r.length = fs.size)
    (h : DataW.trod enc Tryd.prog w 0 (fun _ => true) true m e r = some y) (j : Nat) (f : Field) (hj : fs[j]? = some f) (hf : f.type = 4) : ∃ n : Bool, r[j]? = some (.bool n) ∧ True := by
  obtain ⟨u, y', n, hu, hy⟩ := row_fields he hone hl h j f hj
  rw [hf] at hy
  obtain ⟨x, k0, _⟩ := DataW.trod_bool Tryd.underlying4 hy
  injection k0 with k0
  subst k0
  exact ⟨x, hu, trivial⟩
end
end Go.Proofs.YtoclndbenpagnaaDoor
