/-
  Slices of forms that a call hands back: the contracts of the laws' own helpers on them.
-/
import Derived.Test.YtfemacefkaehjaaFm3
namespace Go.Proofs.Ytfemacefkaehjaa
open Go.RowKit
theorem owns_ap {w : World} {B B' e e' size size' n n' : Nat} {v v' : Value} {cs cs' : List Value} (h : w.ownsRow B e size v n cs) (h' : w.ownsRow B' e' size' v' n' cs') (he : e ≠ e') : ∀ k, v.ownBlock = some k → v'.ownBlock ≠ some k := by
  intro k hk hk'
  rcases h.2 with ⟨rfl, _⟩ | ⟨g, cap, cur, rfl, _, hg, _⟩
  · simp [Value.ownBlock] at hk
  rcases h'.2 with ⟨rfl, _⟩ | ⟨g', cap', cur', rfl, _, hg', _⟩
  · simp [Value.ownBlock] at hk'
  have e1 : g = k := by injection hk
  have e2 : g' = k := by injection hk'
  subst e1 e2
  rw [hg] at hg'
  injection hg' with hg'
  injection hg' with _ h2
  exact he h2
theorem owns_apart {w : World} {B B' e e' size size' n n' : Nat} {v v' : Value} {cs cs' : List Value} (h : w.ownsRow B e size v n cs) (h' : w.ownsRow B' e' size' v' n' cs') (he : e ≠ e') : ∀ k, v.ownBlock = some k → v'.ownBlock ≠ some k := owns_ap h h' he
theorem kept_of_apart {w w' : World} {B e size n : Nat} {v v' : Value} {cs : List Value} (h : w.ownsRow B e size v n cs) (hg : w.grownBy w' v'.ownBlock) (hne : ∀ k, v.ownBlock = some k → v'.ownBlock ≠ some k) : w'.ownsRow B e size v n cs := by
  refine h.kept hg ?_
  cases hv : v.ownBlock with
  | none => exact .inl rfl
  | some k => right; intro e; exact hne k hv e.symm
/-- Only the blocks of S may have changed. -/
structure KeptN (S : Nat → Prop) (w w' : World) : Prop where
  os : w'.os = w.os
  tape : w'.tape = w.tape
  output : w'.output = w.output
  size : w.heap.size ≤ w'.heap.size
  block : ∀ k, k < w.heap.size → ¬ S k → w'.heap[k]? = w.heap[k]?
section
variable {w w' : World} {S : Nat → Prop} {lo hi B n : Nat} {v : Value}
theorem KeptN.refl : KeptN S w w := ⟨rfl, rfl, rfl, Nat.le_refl _, fun _ _ _ => rfl⟩
theorem KeptN.trans {a b c : World} (h : KeptN S a b) (k : KeptN S b c) : KeptN S a c :=
  ⟨k.os.trans h.os, k.tape.trans h.tape, k.output.trans h.output, Nat.le_trans h.size k.size, fun i hi' hne => (k.block i (Nat.lt_of_lt_of_le hi' h.size) hne).trans (h.block i hi' hne)⟩
theorem KeptN.of_grown (h : w.grownBy w' v.ownBlock) (hv : ∀ k, v.ownBlock = some k → S k) : KeptN S w w' :=
  ⟨h.os, h.tape, h.output, h.size, fun k hk hne => h.block k hk (fun e => hne (hv k e.symm))⟩
theorem KeptN.keptI (h : KeptN S w w') (hS : ∀ k, S k → lo ≤ k ∧ k < hi) : KeptI lo hi w w' :=
  ⟨h.os, h.tape, h.output, h.size, fun k hk hne => h.block k hk (fun e => by have := hS k e; omega)⟩
theorem row_keptN {e : TypeId} {size : Nat} {cs : List Value} (h : w.ownsRow B e size v n cs) (hq : KeptN S w w') (hne : ∀ k, v.ownBlock = some k → ¬ S k) : w'.ownsRow B e size v n cs := by
  refine ⟨h.1, ?_⟩
  rcases h.2 with hn | ⟨g, cap, cur, rfl, hB, hg, rest⟩
  · exact .inl hn
  · exact .inr ⟨g, cap, cur, rfl, hB, (hq.block g (Array.getElem?_eq_some_iff.1 hg).1 (hne g rfl)).trans hg, rest⟩
end
/-- k is a block of the forms' inner slices. -/
def InBlk (ys : List FV) (k : Nat) : Prop := ∃ (i : Nat) (y : FV), ys[i]? = some y ∧ (y.v1.ownBlock = some k ∨ y.v2.ownBlock = some k)
theorem inBlk_1 {ys : List FV} {i : Nat} {y : FV} (h : ys[i]? = some y) : (∀ k, y.v1.ownBlock = some k → InBlk ys k) ∧ (∀ k, y.v2.ownBlock = some k → InBlk ys k) :=
  ⟨fun _ hk => ⟨i, y, h, .inl hk⟩, fun _ hk => ⟨i, y, h, .inr hk⟩⟩
/-- A value that owns a row lies in no inner slice. -/
def Nin (v : Value) (ys : List FV) : Prop := ∀ k, v.ownBlock = some k → ¬ InBlk ys k
theorem Nin.of_type {w : World} {B lo n size : Nat} {v : Value} {cs : List Value} {ys : List FV} {e : TypeId} (h : w.ownsRow B e size v n cs) (ho : OIn w lo ys) (he : e ≠ 3) : Nin v ys := by
  intro k hk ⟨i, y, hy, hin⟩
  have h2 := ho.1 i y hy
  rcases hin with hin | hin
  · exact owns_ap h h2.1 he k hk hin
  · exact owns_ap h h2.2 he k hk hin
theorem Nin.of_range {w : World} {B lo n size C : Nat} {v : Value} {cs : List Value} {ys : List FV} {e : TypeId} (h : w.ownsRow B e size v n cs) (hC : ∀ (i : Nat) (y : FV), ys[i]? = some y → (∀ j, y.v1.ownBlock = some j → lo ≤ j ∧ j < C) ∧ (∀ j, y.v2.ownBlock = some j → lo ≤ j ∧ j < C)) (hB : C ≤ B ∨ ∀ k, v.ownBlock = some k → k < lo) : Nin v ys := by
  intro k hk ⟨i, y, hy, hin⟩
  have h1 := (h.lt k hk).1
  have h2 := hC i y hy
  have h3 : lo ≤ k ∧ k < C := hin.elim (h2.1 k) (h2.2 k)
  rcases hB with hB | hB
  · omega
  · have := hB k hk; omega

theorem markFormS_k {b off n c lo : Nat} {ys : List FV} {k : Int} {w : World} (hl : ys.length = n) (hrow : ∀ (i : Nat) (y : FV), ys[i]? = some y → w.cell? ⟨b, off + i * 2, none⟩ = some y.v1 ∧ w.cell? ⟨b, off + i * 2 + 1, none⟩ = some y.v2)
    (ho : OIn w lo ys) (hout : Out (some ⟨b, off, none⟩) ys) (hT : totF ys ≤ 1048576) (hn : n ≤ 1048576) (hk : 0 ≤ k ∧ k ≤ 100000000) :
    Calls Try.prog 13 #[.slice (some ⟨b, off, none⟩) n c, .int .i64 k] w fun e w' => e = .returned (.int .i64 (k + totF ys)) ∧ (∀ (i : Nat) (y : FV), ys[i]? = some y → Mk w' lo k ys i y) ∧ (∀ (i : Nat) (y : FV), ys[i]? = some y → w'.cell? ⟨b, off + i * 2, none⟩ = some y.v1 ∧ w'.cell? ⟨b, off + i * 2 + 1, none⟩ = some y.v2) ∧ KeptN (InBlk ys) w w' := by
  have HL := Lib.hid hl
  have HR := Lib.hid hrow
  have HO := Lib.hid ho
  have HU := Lib.hid hout
  clear hl hrow ho hout
  go_enter Try.func13, Try.ntmps13
  go_wp2
  go_loopw [1, 5] (fun q i wr => ∃ j : Nat, j ≤ n ∧ i = .int .i64 j ∧ q = .int .i64 (k + offF ys j) ∧ (∀ (i : Nat) (y : FV), ys[i]? = some y → wr.cell? ⟨b, off + i * 2, none⟩ = some y.v1 ∧ wr.cell? ⟨b, off + i * 2 + 1, none⟩ = some y.v2) ∧ (∀ (i : Nat) (y : FV), ys[i]? = some y → i < j → Mk wr lo k ys i y) ∧ (∀ (i : Nat) (y : FV), ys[i]? = some y → j ≤ i → Og wr lo y) ∧ KeptN (InBlk ys) w wr) (fun _ i _ => n - (intOf i).toNat)
  case atStart => exact ⟨0, Nat.zero_le _, rfl, by simp [offF, totF], HR.out, fun i y _ h => absurd h (by omega), fun i y hy _ => HO.out.1 i y hy, KeptN.refl⟩
  case round =>
    obtain ⟨j, hj, rfl, rfl, hcl, hmk, hog, hkp⟩ := hrel
    by_cases hlt : j < n
    · obtain ⟨y, hy⟩ : ∃ y, ys[j]? = some y := ⟨_, List.getElem?_eq_getElem (by have := HL.out; omega)⟩
      have hof := offF_succ hy
      have hle := offF_le (ys := ys) (i := j + 1)
      have o1 := hog j y hy (Nat.le_refl _)
      obtain ⟨c0, c1⟩ := hcl j y hy
      have ht := HU.out _ rfl j y hy
      have hd := (HO.out.2 j y hy).1
      have HY := Lib.hid hy
      have HF := Lib.hid hof
      have HCL := Lib.hid hcl
      have HMK := Lib.hid hmk
      have HOG := Lib.hid hog
      have HT := Lib.hid ht
      have HD := Lib.hid hd
      have l3 : offF ys j + (y.f.held.length + y.f.wanted.length) ≤ 1048576 := by omega
      clear hof hy hcl hmk hog ht hd hle
      unfold FV.v1 at c0
      unfold FV.v2 at c1
      go_wp2_with fail
      refine (markIntS_any _ _ lo y.f.held _ _ o1.1 (by omega) (by omega)).mono ?_
      rintro e1 w1 ⟨rfl, m1, g1⟩
      have c1' := cell_grown c1 g1 HT.out.1
      have o2 : Own w1 lo y.v2 y.f.wanted.length y.f.wanted := row_nq o1.2 g1 (.inl HD.out)
      have HG := Lib.hid g1
      have HM := Lib.hid m1
      clear c0 c1 g1 m1
      go_wp2_with fail
      refine (markIntS_any _ _ lo y.f.wanted _ _ o2 (by omega) (by omega)).mono ?_
      rintro e1 w2 ⟨rfl, m2, g2⟩
      have HG2 := Lib.hid g2
      have HM2 := Lib.hid m2
      clear c1' g2 m2
      go_wp2_with fail
      go_roundw
      case rel =>
        have D := HO.out.2
        obtain ⟨l1, l2⟩ := inBlk_1 HY.out
        refine ⟨j + 1, by omega, by go_num, by rw [HF.out]; go_num, fun i z hz => ?_, fun i z hz hi => ?_, fun i z hz hi => ?_, (hkp.trans (KeptN.of_grown HG.out l1)).trans (KeptN.of_grown HG2.out l2)⟩
        · have h0 := HCL.out i z hz
          exact ⟨cell_grown (cell_grown h0.1 HG.out HT.out.1) HG2.out HT.out.2, cell_grown (cell_grown h0.2 HG.out HT.out.1) HG2.out HT.out.2⟩
        · by_cases hij : i = j
          · subst hij
            have := HY.out
            rw [hz] at this
            injection this with this
            subst this
            exact ⟨row_nq HM.out HG2.out (.inr HD.out), HM2.out⟩
          · have d := (D i z hz).2 j y HY.out (by omega)
            exact (HMK.out i z hz (by omega)).nq2 HG.out HG2.out (.inr d.1) (.inr d.2.2.1) (.inr d.2.1) (.inr d.2.2.2)
        · have d := (D j y HY.out).2 i z hz (by omega)
          exact (HOG.out i z hz (by omega)).nq2 HG.out HG2.out (.inl d.1) (.inl d.2.1) (.inl d.2.2.1) (.inl d.2.2.2)
      case measure => simp [intOf]; omega
    · have hjn : j = n := by omega
      subst hjn
      have HE := Lib.hid (show offF ys j = totF ys by rw [← HL.out]; exact offF_end)
      have HMK := Lib.hid hmk
      have HCLs := Lib.hid hcl
      clear hcl hmk hog
      go_wp2_with fail
      go_ret
      refine ⟨ret_int (by rw [HE.out]), fun i y hy => HMK.out i y hy ?_, HCLs.out, hkp⟩
      have := (List.getElem?_eq_some_iff.1 hy).1
      have := HL.out
      omega
/-- The outer row and the inner slices of forms that a call owns. -/
def OwnF (w : World) (B : Nat) (v : Value) (n : Nat) (ys : List FV) : Prop := w.ownsRow B 40 2 v n (ys.map FV.row).flatten
theorem OwnF.len {w : World} {B n : Nat} {v : Value} {ys : List FV} (h : OwnF w B v n ys) : ys.length = n := by
  have := h.1
  rw [flat_rows] at this
  omega
theorem OwnF.rows {w : World} {B n c g : Nat} {ys : List FV} (h : OwnF w B (.slice (some ⟨g, 0, none⟩) n c) n ys) : ∀ (i : Nat) (y : FV), ys[i]? = some y → w.cell? ⟨g, 0 + i * 2, none⟩ = some y.v1 ∧ w.cell? ⟨g, 0 + i * 2 + 1, none⟩ = some y.v2 := by
  intro i y hy
  have hl := (List.getElem?_eq_some_iff.1 hy).1
  have hn := h.len
  have hf : ∀ j, j < 2 → (ys.map FV.row).flatten[i * 2 + j]? = y.row[j]? := fun j hj => flatten_at (by simp [FV.row]) (by rw [List.getElem?_map, hy]; rfl) j hj
  constructor
  · rw [Nat.zero_add]
    exact (World.ownsRow.cellAt h (i * 2) (by omega)).trans (hf 0 (by omega))
  · rw [Nat.zero_add]
    exact (World.ownsRow.cellAt h (i * 2 + 1) (by omega)).trans (hf 1 (by omega))
theorem OwnF.reads {w : World} {B lo n c : Nat} {A : Option Addr} {ys : List FV} (h : OwnF w B (.slice A n c) n ys) (ho : OIn w lo ys) : RForms w w.heap.size A n ys := by
  refine ⟨⟨by simpa using h.len, by simp [FV.row], Reads.of_own h⟩, fun x hx => ?_⟩
  obtain ⟨i, hi⟩ := List.getElem?_of_mem hx
  have := ho.1 i x hi
  exact ⟨own_rints this.1, own_rints this.2⟩
theorem OwnF.aforms {w : World} {B lo n c : Nat} {A : Option Addr} {ys : List FV} {fs : List Frm} (h : OwnF w B (.slice A n c) n ys) (ho : OIn w lo ys) (hm : ys.map FV.f = fs) (hl : ∀ f ∈ fs, f.held.length ≤ 1048576 ∧ f.wanted.length ≤ 1048576) : AForms w A n fs :=
  ⟨ys, h.reads ho, hm, fun y hy => hl y.f (by rw [← hm]; exact List.mem_map_of_mem hy)⟩
theorem own_form {w : World} {B n c : Nat} {A : Option Addr} {e : TypeId} {size : Nat} {cs : List Value} (h : w.ownsRow B e size (.slice A n c) n cs) : (A = none ∧ n = 0 ∧ c = 0) ∨ ∃ g, A = some ⟨g, 0, none⟩ := by
  rcases h.2 with ⟨h1, h2⟩ | ⟨g, cap, cur, h1, _⟩
  · injection h1 with h1 h3 h4
    exact .inl ⟨h1, h2, h4⟩
  · injection h1 with h1
    exact .inr ⟨g, h1⟩
theorem markFormS_nil {k : Int} {w : World} : Calls Try.prog 13 #[.slice none 0 0, .int .i64 k] w fun e w' => e = .returned (.int .i64 k) ∧ w = w' := by
  go_enter Try.func13, Try.ntmps13
  go_wp2
  go_loop [1, 5] (fun q i => i = .int .i64 0 ∧ q = .int .i64 k) (fun _ _ => 0)
  case atStart => exact ⟨rfl, rfl⟩
  case round =>
    obtain ⟨rfl, rfl⟩ := hrel
    go_wp2
    go_ret
    exact ⟨rfl, rfl⟩
theorem Mk.none_ {w : World} {lo : Nat} {k : Int} {ys : List FV} (h : ys = []) : ∀ (i : Nat) (y : FV), ys[i]? = some y → Mk w lo k ys i y := by subst h; intro i y hy; simp at hy
/-- The marks on forms that a call owns. -/
theorem markFormS_o {A : Option Addr} {n c lo B : Nat} {ys : List FV} {k : Int} {w : World} (h : OwnF w B (.slice A n c) n ys) (ho : OIn w lo ys) (hT : totF ys ≤ 1048576) (hn : n ≤ 1048576) (hk : 0 ≤ k ∧ k ≤ 100000000) :
    Calls Try.prog 13 #[.slice A n c, .int .i64 k] w fun e w' => e = .returned (.int .i64 (k + totF ys)) ∧ (∀ (i : Nat) (y : FV), ys[i]? = some y → Mk w' lo k ys i y) ∧ OwnF w' B (.slice A n c) n ys ∧ KeptN (InBlk ys) w w' := by
  rcases own_form h with ⟨rfl, rfl, rfl⟩ | ⟨g, rfl⟩
  · have hy : ys = [] := List.eq_nil_of_length_eq_zero h.len
    refine markFormS_nil.mono ?_
    rintro e w' ⟨rfl, rfl⟩
    exact ⟨by rw [hy]; simp [totF], Mk.none_ hy, h, KeptN.refl⟩
  · have hni := Nin.of_type h ho (by decide)
    refine (markFormS_k (b := g) (off := 0) (c := c) h.len h.rows ho (fun ad e i y hy => ?_) hT hn hk).mono ?_
    · injection e with e
      subst e
      exact ⟨fun e => hni g rfl ⟨i, y, hy, .inl e⟩, fun e => hni g rfl ⟨i, y, hy, .inr e⟩⟩
    · rintro e w' ⟨rfl, hmk, _, hq⟩
      exact ⟨rfl, hmk, row_keptN h hq (fun j hj => hni j hj), hq⟩
theorem heldFormS_nil {k : Int} {w : World} : Calls Try.prog 15 #[.slice none 0 0, .int .i64 k] w fun e w' => e = .returned (.int .i64 k) ∧ w = w' := by
  go_enter Try.func15, Try.ntmps15
  go_wp2
  go_loop [1, 5] (fun q i => i = .int .i64 0 ∧ q = .int .i64 k) (fun _ _ => 0)
  case atStart => exact ⟨rfl, rfl⟩
  case round =>
    obtain ⟨rfl, rfl⟩ := hrel
    go_wp2
    go_ret
    exact ⟨rfl, rfl⟩
theorem heldFormS_o {A : Option Addr} {n c lo B : Nat} {ys : List FV} {k : Int} {w : World} (h : OwnF w B (.slice A n c) n ys) (hm : ∀ (i : Nat) (y : FV), ys[i]? = some y → Mk w lo k ys i y) (hT : totF ys ≤ 1048576) (hn : n ≤ 1048576) (hk : 0 ≤ k ∧ k ≤ 100000000) :
    Calls Try.prog 15 #[.slice A n c, .int .i64 k] w fun e w' => e = .returned (.int .i64 (k + totF ys)) ∧ w = w' := by
  rcases own_form h with ⟨rfl, rfl, rfl⟩ | ⟨g, rfl⟩
  · have hy : ys = [] := List.eq_nil_of_length_eq_zero h.len
    refine heldFormS_nil.mono ?_
    rintro e w' ⟨rfl, rfl⟩
    exact ⟨by rw [hy]; simp [totF], rfl⟩
  · exact heldFormS_any (b := g) (off := 0) (c := c) h.len h.rows hm hT hn hk
theorem Mk.step {w w' : World} {lo : Nat} {k : Int} {ys : List FV} (h : ∀ (i : Nat) (y : FV), ys[i]? = some y → Mk w lo k ys i y) (hb : Below w.heap.size w w') : ∀ (i : Nat) (y : FV), ys[i]? = some y → Mk w' lo k ys i y :=
  fun i y hy => ⟨row_step (h i y hy).1 hb, row_step (h i y hy).2 hb⟩
theorem Mk.allocs {w : World} {lo : Nat} {k : Int} {ys : List FV} (h : ∀ (i : Nat) (y : FV), ys[i]? = some y → Mk w lo k ys i y) (o : Obj) : ∀ (i : Nat) (y : FV), ys[i]? = some y → Mk (w.alloc o) lo k ys i y :=
  fun i y hy => ⟨row_alloc (h i y hy).1 o, row_alloc (h i y hy).2 o⟩
theorem OIn.keptN {w w' : World} {lo : Nat} {S : Nat → Prop} {ys : List FV} (h : OIn w lo ys) (hq : KeptN S w w') (hne : ∀ k, InBlk ys k → ¬ S k) : OIn w' lo ys :=
  ⟨fun i y hy => ⟨row_keptN (h.1 i y hy).1 hq (fun k hk => hne k ⟨i, y, hy, .inl hk⟩), row_keptN (h.1 i y hy).2 hq (fun k hk => hne k ⟨i, y, hy, .inr hk⟩)⟩, h.2⟩
theorem OIn.grew {w w' : World} {lo : Nat} {ys : List FV} {v : Value} (h : OIn w lo ys) (hg : w.grownBy w' v.ownBlock) (hne : Nin v ys) : OIn w' lo ys :=
  ⟨fun i y hy => ⟨(h.1 i y hy).1.kept hg (by cases e : y.v1.ownBlock with | none => exact .inl rfl | some k => right; intro e2; exact hne k e2.symm ⟨i, y, hy, .inl e⟩), (h.1 i y hy).2.kept hg (by cases e : y.v2.ownBlock with | none => exact .inl rfl | some k => right; intro e2; exact hne k e2.symm ⟨i, y, hy, .inr e⟩)⟩, h.2⟩
theorem inBlk_lt {w : World} {lo : Nat} {ys : List FV} (h : OIn w lo ys) : ∀ k, InBlk ys k → lo ≤ k ∧ k < w.heap.size := by
  intro k ⟨i, y, hy, hin⟩
  exact hin.elim ((h.lt hy).1 k) ((h.lt hy).2 k)
theorem eqFormS_same {A D : Option Addr} {n n' c d : Nat} {xs ys : List FV} {w : World} (hr : RForms w w.heap.size A n xs) (hs : RForms w w.heap.size D n' ys) (hm : xs.map FV.f = ys.map FV.f) (hn : n ≤ 1048576) (hL : ∀ x ∈ xs, x.f.held.length ≤ 1048576 ∧ x.f.wanted.length ≤ 1048576) :
    Calls Try.prog 11 #[.slice A n c, .slice D n' d] w fun e w' => e = .returned (.bool true) ∧ Below w.heap.size w w' := by
  have e : n' = n := by
    have h1 := congrArg List.length hm
    simp only [List.length_map] at h1
    rw [← hs.len, ← hr.len, h1]
  subst e
  exact eqFormS_any hr hs (Nat.le_refl _) (Nat.le_refl _) hm hn hL
end Go.Proofs.Ytfemacefkaehjaa
