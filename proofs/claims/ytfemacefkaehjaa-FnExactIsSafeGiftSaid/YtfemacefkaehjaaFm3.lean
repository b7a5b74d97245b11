/-
  Contracts of the laws' marks on slices of forms.
-/
import Derived.Test.YtfemacefkaehjaaFm2
namespace Go.Proofs.Ytfemacefkaehjaa
open Go.RowKit
theorem row_nq {w w' : World} {B n size : Nat} {e : TypeId} {u v : Value} {cs : List Value} (h : w.ownsRow B e size v n cs) (hg : w.grownBy w' u.ownBlock) (hne : nq u v ∨ nq v u) : w'.ownsRow B e size v n cs := by
  refine h.kept hg ?_
  cases hv : v.ownBlock with
  | none => exact .inl rfl
  | some k =>
    right
    intro e
    rcases hne with hne | hne
    · exact hne k e.symm hv
    · exact hne k hv e.symm
def offF (ys : List FV) (i : Nat) : Nat := totF (ys.take i)
theorem offF_succ {ys : List FV} {i : Nat} {y : FV} (h : ys[i]? = some y) : offF ys (i + 1) = offF ys i + (y.f.held.length + y.f.wanted.length) := by
  have tot_app : ∀ (a b : List FV), totF (a ++ b) = totF a + totF b := by
    intro a b
    induction a with
    | nil => simp [totF]
    | cons x r ih => simp [totF, ih]; omega
  unfold offF
  rw [List.take_add_one, h, tot_app]
  simp [totF]
theorem offF_le {ys : List FV} {i : Nat} : offF ys i ≤ totF ys := by
  unfold offF
  induction ys generalizing i with
  | nil => simp [totF]
  | cons x r ih =>
    cases i with
    | zero => simp [totF]
    | succ i => simp only [List.take_succ_cons, totF]; have := ih (i := i); omega
theorem offF_end {ys : List FV} : offF ys ys.length = totF ys := by unfold offF; rw [List.take_length]
/-- The form in place i bears its marks. -/
def Mk (w : World) (lo : Nat) (k : Int) (ys : List FV) (i : Nat) (y : FV) : Prop := Own w lo y.v1 y.f.held.length (seqI (k + offF ys i) y.f.held.length) ∧ Own w lo y.v2 y.f.wanted.length (seqI (k + offF ys i + y.f.held.length) y.f.wanted.length)
def Og (w : World) (lo : Nat) (y : FV) : Prop := Own w lo y.v1 y.f.held.length y.f.held ∧ Own w lo y.v2 y.f.wanted.length y.f.wanted
theorem Mk.nq2 {w w1 w2 : World} {lo : Nat} {k : Int} {ys : List FV} {i : Nat} {y : FV} {u v : Value} (h : Mk w lo k ys i y) (h1 : w.grownBy w1 u.ownBlock) (h2 : w1.grownBy w2 v.ownBlock) (a : nq u y.v1 ∨ nq y.v1 u) (b : nq u y.v2 ∨ nq y.v2 u) (c : nq v y.v1 ∨ nq y.v1 v) (d : nq v y.v2 ∨ nq y.v2 v) : Mk w2 lo k ys i y :=
  ⟨row_nq (row_nq h.1 h1 a) h2 c, row_nq (row_nq h.2 h1 b) h2 d⟩
theorem Og.nq2 {w w1 w2 : World} {lo : Nat} {y : FV} {u v : Value} (h : Og w lo y) (h1 : w.grownBy w1 u.ownBlock) (h2 : w1.grownBy w2 v.ownBlock) (a : nq u y.v1 ∨ nq y.v1 u) (b : nq u y.v2 ∨ nq y.v2 u) (c : nq v y.v1 ∨ nq y.v1 v) (d : nq v y.v2 ∨ nq y.v2 v) : Og w2 lo y :=
  ⟨row_nq (row_nq h.1 h1 a) h2 c, row_nq (row_nq h.2 h1 b) h2 d⟩
/-- The outer row lies in no inner block. -/
def Out (A : Option Addr) (ys : List FV) : Prop := ∀ ad, A = some ad → ∀ (i : Nat) (y : FV), ys[i]? = some y → y.v1.ownBlock ≠ some ad.block ∧ y.v2.ownBlock ≠ some ad.block
theorem cell_grown {w w1 : World} {p : Addr} {u : Value} {z : Value} (h : w.cell? p = some z) (hg : w.grownBy w1 u.ownBlock) (hne : u.ownBlock ≠ some p.block) : w1.cell? p = some z := hg.cell h (fun e => hne e.symm)
theorem markFormS_any {b off n c lo C : Nat} {ys : List FV} {k : Int} {w : World} (hl : ys.length = n) (hrow : ∀ (i : Nat) (y : FV), ys[i]? = some y → w.cell? ⟨b, off + i * 2, none⟩ = some y.v1 ∧ w.cell? ⟨b, off + i * 2 + 1, none⟩ = some y.v2)
    (ho : OIn w lo ys) (hout : Out (some ⟨b, off, none⟩) ys) (hC : ∀ (i : Nat) (y : FV), ys[i]? = some y → (∀ j, y.v1.ownBlock = some j → j < C) ∧ (∀ j, y.v2.ownBlock = some j → j < C)) (hT : totF ys ≤ 1048576) (hn : n ≤ 1048576) (hk : 0 ≤ k ∧ k ≤ 100000000) :
    Calls Try.prog 13 #[.slice (some ⟨b, off, none⟩) n c, .int .i64 k] w fun e w' => e = .returned (.int .i64 (k + totF ys)) ∧ (∀ (i : Nat) (y : FV), ys[i]? = some y → Mk w' lo k ys i y) ∧ KeptI lo C w w' := by
  have HL := Lib.hid hl
  have HR := Lib.hid hrow
  have HO := Lib.hid ho
  have HU := Lib.hid hout
  have HB := Lib.hid hC
  clear hl hrow ho hout hC
  go_enter Try.func13, Try.ntmps13
  go_wp2
  go_loopw [1, 5] (fun q i wr => ∃ j : Nat, j ≤ n ∧ i = .int .i64 j ∧ q = .int .i64 (k + offF ys j) ∧ (∀ (i : Nat) (y : FV), ys[i]? = some y → wr.cell? ⟨b, off + i * 2, none⟩ = some y.v1 ∧ wr.cell? ⟨b, off + i * 2 + 1, none⟩ = some y.v2) ∧ (∀ (i : Nat) (y : FV), ys[i]? = some y → i < j → Mk wr lo k ys i y) ∧ (∀ (i : Nat) (y : FV), ys[i]? = some y → j ≤ i → Og wr lo y) ∧ KeptI lo C w wr) (fun _ i _ => n - (intOf i).toNat)
  case atStart => exact ⟨0, Nat.zero_le _, rfl, by simp [offF, totF], HR.out, fun i y _ h => absurd h (by omega), fun i y hy _ => HO.out.1 i y hy, KeptI.refl⟩
  case round =>
    obtain ⟨j, hj, rfl, rfl, hcl, hmk, hog, hkp⟩ := hrel
    by_cases hlt : j < n
    · obtain ⟨y, hy⟩ : ∃ y, ys[j]? = some y := ⟨_, List.getElem?_eq_getElem (by have := HL.out; omega)⟩
      have hof := offF_succ hy
      have hle := offF_le (ys := ys) (i := j + 1)
      have o1 := hog j y hy (Nat.le_refl _)
      obtain ⟨c0, c1⟩ := hcl j y hy
      have ht := HU.out _ rfl j y hy
      have hd := (HO.out.2 j y hy).1
      have HY := Lib.hid hy
      have HF := Lib.hid hof
      have HCL := Lib.hid hcl
      have HMK := Lib.hid hmk
      have HOG := Lib.hid hog
      have HT := Lib.hid ht
      have HD := Lib.hid hd
      have l3 : offF ys j + (y.f.held.length + y.f.wanted.length) ≤ 1048576 := by omega
      clear hof hy hcl hmk hog ht hd hle
      unfold FV.v1 at c0
      unfold FV.v2 at c1
      go_wp2_with fail
      refine (markIntS_any _ _ lo y.f.held _ _ o1.1 (by omega) (by omega)).mono ?_
      rintro e1 w1 ⟨rfl, m1, g1⟩
      have c1' := cell_grown c1 g1 HT.out.1
      have o2 : Own w1 lo y.v2 y.f.wanted.length y.f.wanted := row_nq o1.2 g1 (.inl HD.out)
      have HG := Lib.hid g1
      have HM := Lib.hid m1
      clear c0 c1 g1 m1
      go_wp2_with fail
      refine (markIntS_any _ _ lo y.f.wanted _ _ o2 (by omega) (by omega)).mono ?_
      rintro e1 w2 ⟨rfl, m2, g2⟩
      have HG2 := Lib.hid g2
      have HM2 := Lib.hid m2
      clear c1' g2 m2
      go_wp2_with fail
      go_roundw
      case rel =>
        have D := HO.out.2
        have hb := HB.out j y HY.out
        have l1 : ∀ q, y.v1.ownBlock = some q → lo ≤ q ∧ q < C := fun q hq => ⟨(o1.1.lt q hq).1, hb.1 q hq⟩
        have l2 : ∀ q, y.v2.ownBlock = some q → lo ≤ q ∧ q < C := fun q hq => ⟨(o1.2.lt q hq).1, hb.2 q hq⟩
        refine ⟨j + 1, by omega, by go_num, by rw [HF.out]; go_num, fun i z hz => ?_, fun i z hz hi => ?_, fun i z hz hi => ?_, (hkp.trans (KeptI.of_grown HG.out l1)).trans (KeptI.of_grown HG2.out l2)⟩
        · have h0 := HCL.out i z hz
          exact ⟨cell_grown (cell_grown h0.1 HG.out HT.out.1) HG2.out HT.out.2, cell_grown (cell_grown h0.2 HG.out HT.out.1) HG2.out HT.out.2⟩
        · by_cases hij : i = j
          · subst hij
            have := HY.out
            rw [hz] at this
            injection this with this
            subst this
            exact ⟨row_nq HM.out HG2.out (.inr HD.out), HM2.out⟩
          · have d := (D i z hz).2 j y HY.out (by omega)
            exact (HMK.out i z hz (by omega)).nq2 HG.out HG2.out (.inr d.1) (.inr d.2.2.1) (.inr d.2.1) (.inr d.2.2.2)
        · have d := (D j y HY.out).2 i z hz (by omega)
          exact (HOG.out i z hz (by omega)).nq2 HG.out HG2.out (.inl d.1) (.inl d.2.1) (.inl d.2.2.1) (.inl d.2.2.2)
      case measure => simp [intOf]; omega
    · have hjn : j = n := by omega
      subst hjn
      have HE := Lib.hid (show offF ys j = totF ys by rw [← HL.out]; exact offF_end)
      have HMK := Lib.hid hmk
      clear hcl hmk hog
      go_wp2_with fail
      go_ret
      refine ⟨ret_int (by rw [HE.out]), fun i y hy => HMK.out i y hy ?_, hkp⟩
      have := (List.getElem?_eq_some_iff.1 hy).1
      have := HL.out
      omega
theorem heldFormS_any {b off n c lo : Nat} {ys : List FV} {k : Int} {w : World} (hl : ys.length = n) (hrow : ∀ (i : Nat) (y : FV), ys[i]? = some y → w.cell? ⟨b, off + i * 2, none⟩ = some y.v1 ∧ w.cell? ⟨b, off + i * 2 + 1, none⟩ = some y.v2)
    (hm : ∀ (i : Nat) (y : FV), ys[i]? = some y → Mk w lo k ys i y) (hT : totF ys ≤ 1048576) (hn : n ≤ 1048576) (hk : 0 ≤ k ∧ k ≤ 100000000) :
    Calls Try.prog 15 #[.slice (some ⟨b, off, none⟩) n c, .int .i64 k] w fun e w' => e = .returned (.int .i64 (k + totF ys)) ∧ w = w' := by
  have HL := Lib.hid hl
  have HR := Lib.hid hrow
  have HM := Lib.hid hm
  clear hl hrow hm
  go_enter Try.func15, Try.ntmps15
  go_wp2
  go_loop [1, 5] (fun q i => ∃ j : Nat, j ≤ n ∧ i = .int .i64 j ∧ q = .int .i64 (k + offF ys j)) (fun _ i => n - (intOf i).toNat)
  case atStart => exact ⟨0, Nat.zero_le _, rfl, by simp [offF, totF]⟩
  case round =>
    obtain ⟨j, hj, rfl, rfl⟩ := hrel
    by_cases hlt : j < n
    · obtain ⟨y, hy⟩ : ∃ y, ys[j]? = some y := ⟨_, List.getElem?_eq_getElem (by have := HL.out; omega)⟩
      have hof := offF_succ hy
      have hle := offF_le (ys := ys) (i := j + 1)
      obtain ⟨m1, m2⟩ := HM.out j y hy
      obtain ⟨c0, c1⟩ := HR.out j y hy
      have HF := Lib.hid hof
      have l3 : offF ys j + (y.f.held.length + y.f.wanted.length) ≤ 1048576 := by omega
      clear hof hy hle
      unfold FV.v1 at c0
      unfold FV.v2 at c1
      have r1 := own_rints m1
      have r2 := own_rints m2
      clear m1 m2
      go_wp2_with fail
      refine (heldIntS_any _ _ _ _ _ _ r1 (by omega) (by omega)).mono ?_
      rintro e1 w1 ⟨rfl, rfl⟩
      go_wp2_with fail
      refine (heldIntS_any _ _ _ _ _ _ r2 (by omega) (by omega)).mono ?_
      rintro e1 w1 ⟨rfl, rfl⟩
      go_wp2_with fail
      go_round
      case rel => exact ⟨j + 1, by omega, by go_num, by rw [HF.out]; go_num⟩
      case measure => simp [intOf]; omega
    · have hjn : j = n := by omega
      subst hjn
      have HE := Lib.hid (show offF ys j = totF ys by rw [← HL.out]; exact offF_end)
      go_wp2_with fail
      go_ret
      exact ⟨ret_int (by rw [HE.out]), rfl⟩
theorem OIn.keptI {w w' : World} {lo lo' hi : Nat} {ys : List FV} (h : OIn w lo ys) (hq : KeptI lo' hi w w') (hne : ∀ (i : Nat) (y : FV), ys[i]? = some y → (∀ k, y.v1.ownBlock = some k → k < lo' ∨ hi ≤ k) ∧ (∀ k, y.v2.ownBlock = some k → k < lo' ∨ hi ≤ k)) : OIn w' lo ys :=
  ⟨fun i y hy => ⟨row_keptI (h.1 i y hy).1 hq (hne i y hy).1, row_keptI (h.1 i y hy).2 hq (hne i y hy).2⟩, h.2⟩
theorem len_of_map {xs ys : List FV} {n : Nat} (h : ys.map FV.f = xs.map FV.f) (hl : xs.length = n) : ys.length = n := by
  have := congrArg List.length h
  simp at this
  omega
theorem lens_of_map {xs ys : List FV} (h : ys.map FV.f = xs.map FV.f) (hl : ∀ x ∈ xs, x.f.held.length ≤ 1048576 ∧ x.f.wanted.length ≤ 1048576) : ∀ y ∈ ys, y.f.held.length ≤ 1048576 ∧ y.f.wanted.length ≤ 1048576 := by
  intro y hy
  have h1 : y.f ∈ ys.map FV.f := List.mem_map_of_mem hy
  rw [h] at h1
  obtain ⟨x, hx, e⟩ := List.mem_map.1 h1
  have := hl x hx
  rw [e] at this
  exact this
theorem tot_of_map : ∀ {xs ys : List FV}, ys.map FV.f = xs.map FV.f → totF ys = totF xs
  | [], [], _ => rfl
  | x :: xs, y :: ys, h => by
    simp only [List.map_cons, List.cons.injEq] at h
    rw [totF, totF, h.1, tot_of_map h.2]
  | [], _ :: _, h => by simp at h
  | _ :: _, [], h => by simp at h
theorem rows_of_blk {w : World} {g : Nat} {ys : List FV} (h : Blk w g 40 (ys.map FV.row).flatten) : ∀ (i : Nat) (y : FV), ys[i]? = some y → w.cell? ⟨g, 0 + i * 2, none⟩ = some y.v1 ∧ w.cell? ⟨g, 0 + i * 2 + 1, none⟩ = some y.v2 := by
  intro i y hy
  have hf : ∀ j, j < 2 → (ys.map FV.row).flatten[i * 2 + j]? = y.row[j]? := fun j hj => flatten_at (by simp [FV.row]) (by rw [List.getElem?_map, hy]; rfl) j hj
  constructor
  · rw [Nat.zero_add, h.cell]; exact hf 0 (by omega)
  · rw [Nat.zero_add, h.cell]; exact hf 1 (by omega)
theorem out_of_oin {w : World} {g : Nat} {ys : List FV} (h : OIn w (g + 1) ys) : Out (some ⟨g, 0, none⟩) ys := by
  intro ad e i y hy
  injection e with e
  subst e
  have l := h.lt hy
  constructor
  · intro e; have := l.1 _ e; simp at this; omega
  · intro e; have := l.2 _ e; simp at this; omega
/-- Forms as an argument: some places hold them. -/
def AForms (w : World) (A : Option Addr) (n : Nat) (fs : List Frm) : Prop := ∃ ys, RForms w w.heap.size A n ys ∧ ys.map FV.f = fs ∧ ∀ y ∈ ys, y.f.held.length ≤ 1048576 ∧ y.f.wanted.length ≤ 1048576
theorem AForms.of_copy {w : World} {g n : Nat} {xs ys : List FV} (h : Blk w g 40 (ys.map FV.row).flatten) (ho : OIn w (g + 1) ys) (hm : ys.map FV.f = xs.map FV.f) (hl : xs.length = n) (hx : ∀ x ∈ xs, x.f.held.length ≤ 1048576 ∧ x.f.wanted.length ≤ 1048576) : AForms w (some ⟨g, 0, none⟩) n (xs.map FV.f) :=
  ⟨ys, RForms.of_copy h ho (len_of_map hm hl), hm, lens_of_map hm hx⟩
theorem AForms.step {w w' : World} {A : Option Addr} {n : Nat} {fs : List Frm} (h : AForms w A n fs) (hb : Below w.heap.size w w') : AForms w' A n fs := by
  obtain ⟨ys, hr, hm, hl⟩ := h
  exact ⟨ys, (hr.below hb).more hb.size, hm, hl⟩
theorem AForms.alloc {w : World} {A : Option Addr} {n : Nat} {fs : List Frm} (h : AForms w A n fs) (o : Obj) : AForms (w.alloc o) A n fs := by
  obtain ⟨ys, hr, hm, hl⟩ := h
  exact ⟨ys, (hr.alloc (Nat.le_refl _) o).more (by simp), hm, hl⟩
theorem AForms.len {w : World} {A : Option Addr} {n : Nat} {fs : List Frm} (h : AForms w A n fs) : fs.length = n := by
  obtain ⟨ys, hr, rfl, hl⟩ := h
  simpa using hr.len
end Go.Proofs.Ytfemacefkaehjaa
