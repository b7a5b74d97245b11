/-
  Gifts of sorts: the plain law; sums with a factor of -1; stores into forms of one's own.
-/
import Derived.Test.YtfemacefkaehjaaSt12
namespace Go.Proofs.Ytfemacefkaehjaa
open Go.RowKit
def negL (xs : List Int) : List Int := xs.map fun x => -x
theorem negL_len (xs : List Int) : (negL xs).length = xs.length := by simp [negL]
theorem negL_get {xs : List Int} {k : Nat} {x : Int} (h : xs[k]? = some x) : (negL xs)[k]? = some (-x) := by rw [negL, List.getElem?_map, h]; rfl
def giveF (f : Frm) (ct : List Int) : Frm := ⟨sumL f.held ct, sumL f.wanted (negL ct)⟩
def gvF0 (fr ct : List Int) : List Int := sumL fr (negL ct)
def gvL0 (fs : List Frm) (i : Int) (ct : List Int) : List Frm := fs.set i.toNat (giveF (frmAt fs i) ct)
def gvA (fr : List Int) (fs : List Frm) (i : Int) (ct : List Int) : Bool := askG fr fs i && decide (ct.length = fr.length)
def gvG (fr : List Int) (fs : List Frm) (i : Int) (ct : List Int) : Bool := gvA fr fs i ct && (allB 0 1000 ct && stG (gvF0 fr ct) (gvL0 fs i ct))
def gvF (fr : List Int) (fs : List Frm) (i : Int) (ct : List Int) : List Int := if gvG fr fs i ct then gvF0 fr ct else []
def gvL (fr : List Int) (fs : List Frm) (i : Int) (ct : List Int) : List Frm := if gvG fr fs i ct then gvL0 fs i ct else []
theorem gv_no {fr : List Int} {fs : List Frm} {i : Int} {ct : List Int} (h : gvG fr fs i ct = false) : gvF fr fs i ct = [] ∧ gvL fr fs i ct = [] := by rw [gvF, gvL, h]; exact ⟨rfl, rfl⟩
theorem gv_yes {fr : List Int} {fs : List Frm} {i : Int} {ct : List Int} (h : gvG fr fs i ct = true) : gvF fr fs i ct = gvF0 fr ct ∧ gvL fr fs i ct = gvL0 fs i ct := by rw [gvF, gvL, h]; exact ⟨rfl, rfl⟩
def mnW (a b : Int) : Int := if a < b then a else b
def okC : List Int → List Int → List Int → Bool
  | c :: ct, f :: fr, w :: wt => inB c 0 (mnW f w) && okC ct fr wt
  | _, _, _ => true
theorem mnW_le {a b c : Int} : c ≤ mnW a b ↔ c ≤ a ∧ c ≤ b := by unfold mnW; split <;> omega
theorem allB_eq {lo hi : Int} : ∀ {xs : List Int}, (∀ x ∈ xs, lo ≤ x ∧ x ≤ hi) → allB lo hi xs = true
  | [], _ => rfl
  | x :: r, h => by
    rw [allB, inB_true.2 (h x (by simp)), allB_eq fun z hz => h z (List.mem_cons_of_mem _ hz)]; rfl
theorem okC_get : ∀ {ct fr wt : List Int} {k : Nat} {c f w : Int}, okC ct fr wt = true → ct[k]? = some c → fr[k]? = some f → wt[k]? = some w → 0 ≤ c ∧ c ≤ f ∧ c ≤ w
  | c :: ct, f :: fr, w :: wt, 0, _, _, _, h, h1, h2, h3 => by
    simp at h1 h2 h3
    subst h1 h2 h3
    rw [okC, Bool.and_eq_true] at h
    have := inB_true.1 h.1
    have := mnW_le.1 this.2
    omega
  | c :: ct, f :: fr, w :: wt, k + 1, _, _, _, h, h1, h2, h3 => by
    simp only [List.getElem?_cons_succ] at h1 h2 h3
    rw [okC, Bool.and_eq_true] at h
    exact okC_get h.2 h1 h2 h3
  | [], _, _, _, _, _, _, _, h1, _, _ => by simp at h1
  | _ :: _, [], _, _, _, _, _, _, _, h2, _ => by simp at h2
  | _ :: _, _ :: _, [], _, _, _, _, _, _, _, h3 => by simp at h3
theorem okC_of : ∀ {ct fr wt : List Int}, (∀ (k : Nat) (c f w : Int), ct[k]? = some c → fr[k]? = some f → wt[k]? = some w → 0 ≤ c ∧ c ≤ f ∧ c ≤ w) → okC ct fr wt = true
  | c :: ct, f :: fr, w :: wt, h => by
    have h0 := h 0 c f w rfl rfl rfl
    rw [okC, inB_true.2 ⟨h0.1, mnW_le.2 h0.2⟩, Bool.true_and]
    exact okC_of fun k c' f' w' h1 h2 h3 => h (k + 1) c' f' w' h1 h2 h3
  | [], _, _, _ => by simp [okC]
  | _ :: _, [], _, _ => by simp [okC]
  | _ :: _, _ :: _, [], _ => by simp [okC]
theorem okC_step {ct fr wt r r2 r3 : List Int} {k : Nat} {c f w : Int} (h1 : ct.drop k = c :: r) (h2 : fr.drop k = f :: r2) (h3 : wt.drop k = w :: r3) : okC (ct.drop k) (fr.drop k) (wt.drop k) = (inB c 0 (mnW f w) && okC r r2 r3) := by
  rw [h1, h2, h3, okC]
theorem gv_set {fs : List Frm} {i : Int} {ct : List Int} (h : i.toNat < fs.length) : (gvL0 fs i ct)[i.toNat]? = some (giveF (frmAt fs i) ct) := by
  rw [gvL0, List.getElem?_set_self h]
theorem frmAt_get {fs : List Frm} {i : Int} (h : i.toNat < fs.length) : fs[i.toNat]? = some (frmAt fs i) := by
  rw [frmAt, List.getElem?_eq_getElem h]; rfl
/-- Both sides' tests of the counts agree where the outcome is a valid state. -/
theorem gv_ok {fr : List Int} {fs : List Frm} {i : Int} {ct : List Int} (hA : gvA fr fs i ct = true) : (okC ct fr (frmAt fs i).wanted && stG (gvF0 fr ct) (gvL0 fs i ct)) = (allB 0 1000 ct && stG (gvF0 fr ct) (gvL0 fs i ct)) := by
  rw [gvA, Bool.and_eq_true] at hA
  have hl := of_decide_eq_true hA.2
  obtain ⟨a1, a2, a3⟩ := ask_true hA.1
  obtain ⟨b1, b2, b3, b4⟩ := stG_true a1
  have hi : i.toNat < fs.length := by omega
  have hf := b4 _ (List.mem_of_getElem? (frmAt_get hi))
  cases hs : stG (gvF0 fr ct) (gvL0 fs i ct)
  · simp
  · rw [Bool.and_true, Bool.and_true, Bool.eq_iff_iff]
    obtain ⟨s1, s2, s3, s4⟩ := stG_true hs
    have hg := s4 _ (List.mem_of_getElem? (gv_set (ct := ct) hi))
    constructor
    · intro ho
      refine allB_eq fun x hx => ?_
      obtain ⟨k, hk⟩ := List.getElem?_of_mem hx
      have hkl := (List.getElem?_eq_some_iff.1 hk).1
      obtain ⟨f, hf1⟩ : ∃ f, fr[k]? = some f := ⟨_, List.getElem?_eq_getElem (by omega)⟩
      obtain ⟨w, hw1⟩ : ∃ w, (frmAt fs i).wanted[k]? = some w := ⟨_, List.getElem?_eq_getElem (by omega)⟩
      have h9 := okC_get ho hk hf1 hw1
      have h8 := b2 f (List.mem_of_getElem? hf1)
      omega
    · intro ha
      refine okC_of fun k c f w h1 h2 h3 => ?_
      have h9 := allB_mem ha c (List.mem_of_getElem? h1)
      have h8 := s2 _ (List.mem_of_getElem? (sumL_get h2 (negL_get h1)))
      have h7 := hg.2.2 _ (List.mem_of_getElem? (sumL_get h3 (negL_get h1)))
      omega
theorem gvG_ok {fr : List Int} {fs : List Frm} {i : Int} {ct : List Int} (hA : gvA fr fs i ct = true) : gvG fr fs i ct = (okC ct fr (frmAt fs i).wanted && stG (gvF0 fr ct) (gvL0 fs i ct)) := by
  rw [gvG, hA, Bool.true_and, gv_ok hA]
/-- The sums up to k. -/
def mixS (xs ys : List Int) (k : Nat) : List Int := (sumL xs ys).take k ++ xs.drop k
theorem mixS_0 (xs ys : List Int) : mixS xs ys 0 = xs := by simp [mixS]
theorem mixS_len {xs ys : List Int} {k : Nat} (h : xs.length = ys.length) : (mixS xs ys k).length = xs.length := by
  rw [mixS, List.length_append, List.length_take, List.length_drop, sumL_len h]; omega
theorem mixS_end {xs ys : List Int} {k : Nat} (h : xs.length = ys.length) (hk : xs.length ≤ k) : mixS xs ys k = sumL xs ys := by
  rw [mixS, List.take_of_length_le (by rw [sumL_len h]; exact hk), List.drop_of_length_le hk, List.append_nil]
theorem mixS_get {xs ys : List Int} {k : Nat} {x : Int} (h : xs.length = ys.length) (hx : xs[k]? = some x) : (mixS xs ys k)[k]? = some x := by
  have hk := (List.getElem?_eq_some_iff.1 hx).1
  rw [mixS, List.getElem?_append_right (by rw [List.length_take]; omega), List.length_take, sumL_len h, Nat.min_eq_left (by omega), List.getElem?_drop]
  simpa using hx
theorem mixS_set {xs ys : List Int} {k : Nat} {x y : Int} (h : xs.length = ys.length) (hx : xs[k]? = some x) (hy : ys[k]? = some y) : (mixS xs ys k).set k (x + y) = mixS xs ys (k + 1) := by
  have hk := (List.getElem?_eq_some_iff.1 hx).1
  have hl : ((sumL xs ys).take k).length = k := by rw [List.length_take, sumL_len h]; omega
  rw [mixS, mixS, List.set_append_right _ _ (by omega), hl, Nat.sub_self, List.drop_eq_getElem_cons hk, List.set_cons_zero, List.take_add_one, sumL_get hx hy, List.append_assoc]
  rfl
def mixF (f : Frm) (ct : List Int) (k : Nat) : Frm := ⟨mixS f.held ct k, mixS f.wanted (negL ct) k⟩
theorem plusm_any {A B : Option Addr} {n c d : Nat} {xs ys : List Int} {w : World} (hr : RInts w w.heap.size A n xs) (hs : RInts w w.heap.size B n ys) (hn : n ≤ 1048576) (h1 : ∀ x ∈ xs, 0 ≤ x ∧ x ≤ 1000000) (h2 : ∀ x ∈ ys, 0 ≤ x ∧ x ≤ 1000000) :
    Calls Try.prog 22 #[.slice A n c, .slice B n d, .int .i64 (-1)] w fun e w' => ∃ V C, e = .returned (.slice V n C) ∧ Own w' w.heap.size (.slice V n C) n (sumL xs (negL ys)) ∧ Below w.heap.size w w' := by
  obtain ⟨i0, hi, hz0, hz1, hz2⟩ := info_parts info3
  have HL := Lib.hid hr.len
  have HM := Lib.hid hs.len
  have H1 := Lib.hid h1
  have H2 := Lib.hid h2
  clear h1 h2
  have h0 := own_empty w w.heap.size (Nat.le_refl _)
  go_enter Try.func22, Try.ntmps22
  go_wp2_with fail
  go_loopw [7, 13] (fun v u wr => ∃ (k : Nat) (zs : List Int), k ≤ n ∧ u = .int .i64 k ∧ Own wr w.heap.size v k zs ∧ zs ++ sumL (xs.drop k) ((negL ys).drop k) = sumL xs (negL ys) ∧ Below w.heap.size w wr ∧ w.heap.size ≤ wr.heap.size) (fun _ u _ => n - (intOf u).toNat)
  case atStart => exact ⟨0, [], Nat.zero_le _, rfl, h0, rfl, (by (repeat (first | exact Below.refl _ _ | exact hb | apply Below.drew | (refine Below.alloc ?_ (by first | (simp; done) | (simp; omega) | (have := hb.size; simp at this ⊢; omega)) _) | (refine Below.setCell ?_ (by simp) _)))), by simp⟩
  case round =>
    clear h0
    obtain ⟨k, zs, hk, rfl, hown, hR, hb, hsz⟩ := hrel
    by_cases hlt : k < n
    · obtain ⟨ad, x, eA, _, hd, hx, hc⟩ := RInts.at_ (hr.below hb) hlt
      obtain ⟨ae, z, eB, _, he, hz, hcz⟩ := RInts.at_ (hs.below hb) hlt
      have bx := H1.out x (List.mem_of_getElem? hx)
      have bz := H2.out z (List.mem_of_getElem? hz)
      have he2 : (negL ys).drop k = -z :: (negL ys).drop (k + 1) := by rw [negL, ← List.map_drop, he]; simp
      have HR := Lib.hid (sumL_step hd he2 hR)
      have HA := Lib.hid eA
      have HB := Lib.hid eB
      have em : IntKind.i64.wrap (-1 * z) = -z := by rw [show -1 * z = -z by omega]; exact wrapI (by omega) (by omega)
      have ep : IntKind.i64.wrap (x + -z) = x + -z := wrapI (by omega) (by omega)
      clear hR hd he he2 hx hz
      rw [eA, eB]
      clear eA eB
      go_wp2_with (at_builtin; refine wpList_append_own _ rfl _ _ 22 rfl (w.heap.size) 3 i0 (.int .i64 0) 1 8 Try.underlying22 hi hz0 hz1 hz2 rfl (by decide) _ _ _ rfl (hown.alloc _) ⟨wr.heap.size, 0, none⟩ 1 1 [.int .i64 (x + -z)] rfl rfl (new_one _ _ (by simp) _ _) (by intro u hu; simp at hu; subst hu; rfl) (by unfold maxLen; omega) (by omega) (by simp <;> omega) ?_)
      intro v' w1 hown' hgrow _
      have hkb := below_grown (World.ownsRow.alloc hown (.cells #[.int .i64 (x + -z)] 3)) (by simp; omega) hgrow
      have ho2 := own_app hown'
      replace hb := (hb.alloc hb.size (.cells #[.int .i64 (x + -z)] 3)).trans (hkb.mono (by omega))
      have hz3 := hkb.size
      simp only [World.size_alloc] at hz3
      clear hown hown' hgrow hkb hc hcz
      go_wp2_with fail
      (try rw [← HA.out]); (try rw [← HB.out])
      go_roundw
      case rel => exact ⟨k + 1, _, by omega, by go_num, ho2, HR.out, hb, by omega⟩
      case measure => simp [intOf]; omega
    · have hkn : k = n := by omega
      have HR := Lib.hid (show zs = sumL xs (negL ys) by rw [← hR, drop_end HL.out hlt]; cases (negL ys).drop k <;> simp [sumL])
      clear hR
      obtain ⟨V, C, rfl⟩ := own_slice hown
      have HO := Lib.hid hown
      have HK := Lib.hid hkn
      clear hown hkn
      go_wp2_with fail
      go_ret
      have ho9 := HO.out
      rw [HR.out] at ho9
      have hkn := HK.out
      subst hkn
      exact ⟨V, C, rfl, ho9, hb⟩
theorem plusm_q {A B : Option Addr} {n q c d : Nat} {xs ys : List Int} {w : World} (hr : RInts w w.heap.size A q xs) (hs : RInts w w.heap.size B n ys) (hn : n ≤ 1048576) (h1 : ∀ x ∈ xs, 0 ≤ x ∧ x ≤ 1000000) (h2 : ∀ x ∈ ys, 0 ≤ x ∧ x ≤ 1000000) (hq : q = n) :
    Calls Try.prog 22 #[.slice A q c, .slice B n d, .int .i64 (-1)] w fun e w' => ∃ V C, e = .returned (.slice V n C) ∧ Own w' w.heap.size (.slice V n C) n (sumL xs (negL ys)) ∧ Below w.heap.size w w' := by
  subst hq
  exact plusm_any hr hs hn h1 h2
theorem plus1_r {A B : Option Addr} {n q c d : Nat} {xs ys : List Int} {w : World} (hr : RInts w w.heap.size A q xs) (hs : RInts w w.heap.size B n ys) (hn : n ≤ 1048576) (h1 : ∀ x ∈ xs, 0 ≤ x ∧ x ≤ 1000000) (h2 : ∀ x ∈ ys, 0 ≤ x ∧ x ≤ 1000000) (hq : q = n) :
    Calls Try.prog 22 #[.slice A q c, .slice B n d, .int .i64 1] w fun e w' => ∃ V C, e = .returned (.slice V n C) ∧ Own w' w.heap.size (.slice V n C) n (sumL xs ys) ∧ Below w.heap.size w w' := by
  subst hq
  exact plus1_any hr hs hn h1 h2
section
variable {w : World} {lo b k j : Nat} {v : Int} {ys : List FV} {y y2 : FV}
theorem row_ne {B n size i : Nat} {e : TypeId} {v u : Value} {xs : List Value} (h : w.ownsRow B e size v n xs) (hne : v.ownBlock ≠ some b) : (w.setCell ⟨b, i, none⟩ u).ownsRow B e size v n xs :=
  row_keptI h (keptI_st w b i u) fun k hk => by
    have : k ≠ b := fun e => hne (by rw [hk, e])
    omega
theorem set_back {i : Nat} {z : FV} (hy : ys[j]? = some y) (h1 : y2.v1 = y.v1) (h2 : y2.v2 = y.v2) (hz : (ys.set j y2)[i]? = some z) : ∃ z0, ys[i]? = some z0 ∧ z.v1 = z0.v1 ∧ z.v2 = z0.v2 ∧ (i ≠ j → z = z0) ∧ (i = j → z = y2) := by
  by_cases hij : i = j
  · subst hij
    rw [List.getElem?_set_self (List.getElem?_eq_some_iff.1 hy).1] at hz
    injection hz with hz
    subst hz
    exact ⟨y, hy, h1, h2, fun h => absurd rfl h, fun _ => rfl⟩
  · rw [List.getElem?_set_ne (Ne.symm hij)] at hz
    exact ⟨z, hz, rfl, rfl, fun _ => rfl, fun h => absurd h hij⟩
theorem OIn.apart_v {i : Nat} {z : FV} (h : OIn w lo ys) (hy : ys[j]? = some y) (hz : ys[i]? = some z) (hij : i ≠ j) {b : Nat} (hb : y.v1.ownBlock = some b ∨ y.v2.ownBlock = some b) : z.v1.ownBlock ≠ some b ∧ z.v2.ownBlock ≠ some b := by
  rcases Nat.lt_or_gt_of_ne hij with hl | hl
  · have d := (h.2 i z hz).2 j y hy hl
    constructor
    · intro e
      rcases hb with hb | hb
      · exact d.1 b e hb
      · exact d.2.1 b e hb
    · intro e
      rcases hb with hb | hb
      · exact d.2.2.1 b e hb
      · exact d.2.2.2 b e hb
  · have d := (h.2 j y hy).2 i z hz hl
    constructor
    · intro e
      rcases hb with hb | hb
      · exact d.1 b hb e
      · exact d.2.2.1 b hb e
    · intro e
      rcases hb with hb | hb
      · exact d.2.1 b hb e
      · exact d.2.2.2 b hb e
theorem OIn.set_gen {w' : World} (h : OIn w lo ys) (hy : ys[j]? = some y) (h1 : y2.v1 = y.v1) (h2 : y2.v2 = y.v2) (hO1 : Own w' lo y2.v1 y2.f.held.length y2.f.held) (hO2 : Own w' lo y2.v2 y2.f.wanted.length y2.f.wanted) (hk : ∀ (i : Nat) (z : FV), ys[i]? = some z → i ≠ j → Own w' lo z.v1 z.f.held.length z.f.held ∧ Own w' lo z.v2 z.f.wanted.length z.f.wanted) : OIn w' lo (ys.set j y2) := by
  refine ⟨fun i z hz => ?_, fun i z hz => ?_⟩
  · obtain ⟨z0, e0, _, _, e3, e4⟩ := set_back hy h1 h2 hz
    by_cases hij : i = j
    · rw [e4 hij]; exact ⟨hO1, hO2⟩
    · rw [e3 hij]; exact hk i z0 e0 hij
  · obtain ⟨z0, e0, e1, e2, _⟩ := set_back hy h1 h2 hz
    rw [e1, e2]
    refine ⟨(h.2 i z0 e0).1, fun i' z' hz' hlt => ?_⟩
    obtain ⟨z0', e0', e1', e2', _⟩ := set_back hy h1 h2 hz'
    rw [e1', e2']
    exact (h.2 i z0 e0).2 i' z0' e0' hlt
theorem own_set {B n c : Nat} {xs : List Int} (h : Own w B (.slice (some ⟨b, 0, none⟩) n c) n xs) : Own (w.setCell ⟨b, k, none⟩ (.int .i64 v)) B (.slice (some ⟨b, 0, none⟩) n c) n (xs.set k v) := by
  have s1 := (World.ownsRow.stored h k (.int .i64 v)).1
  rw [← List.map_set] at s1
  exact s1
theorem OIn.set1 (h : OIn w lo ys) (hy : ys[j]? = some y) (ha : y.a1 = some ⟨b, 0, none⟩) : OIn (w.setCell ⟨b, k, none⟩ (.int .i64 v)) lo (ys.set j ⟨y.a1, y.c1, y.a2, y.c2, ⟨y.f.held.set k v, y.f.wanted⟩⟩) := by
  have hb : y.v1.ownBlock = some b := by rw [FV.v1, ha]; rfl
  obtain ⟨o1, o2⟩ := h.1 j y hy
  refine OIn.set_gen h hy (by simp [FV.v1]) rfl ?_ ?_ fun i z hz hij => ?_
  · rw [FV.v1, ha] at o1
    have := own_set (k := k) (v := v) o1
    simp only [FV.v1, List.length_set, ha]
    exact this
  · exact row_ne o2 fun e => (h.2 j y hy).1 b hb e
  · have d := OIn.apart_v h hy hz hij (.inl hb)
    exact ⟨row_ne (h.1 i z hz).1 d.1, row_ne (h.1 i z hz).2 d.2⟩
theorem OIn.set2 (h : OIn w lo ys) (hy : ys[j]? = some y) (ha : y.a2 = some ⟨b, 0, none⟩) : OIn (w.setCell ⟨b, k, none⟩ (.int .i64 v)) lo (ys.set j ⟨y.a1, y.c1, y.a2, y.c2, ⟨y.f.held, y.f.wanted.set k v⟩⟩) := by
  have hb : y.v2.ownBlock = some b := by rw [FV.v2, ha]; rfl
  obtain ⟨o1, o2⟩ := h.1 j y hy
  refine OIn.set_gen h hy rfl (by simp [FV.v2]) ?_ ?_ fun i z hz hij => ?_
  · exact row_ne o1 fun e => (h.2 j y hy).1 b e hb
  · rw [FV.v2, ha] at o2
    have := own_set (k := k) (v := v) o2
    simp only [FV.v2, List.length_set, ha]
    exact this
  · have d := OIn.apart_v h hy hz hij (.inr hb)
    exact ⟨row_ne (h.1 i z hz).1 d.1, row_ne (h.1 i z hz).2 d.2⟩
theorem rows_set_same (hy : ys[j]? = some y) (hr : y2.row = y.row) : (ys.set j y2).map FV.row = ys.map FV.row := by
  rw [List.map_set, hr]
  apply List.ext_getElem?
  intro i
  by_cases hij : i = j
  · subst hij
    rw [List.getElem?_set_self (by rw [List.length_map]; exact (List.getElem?_eq_some_iff.1 hy).1), List.getElem?_map, hy]
    rfl
  · rw [List.getElem?_set_ne (Ne.symm hij)]
theorem OwnF.set_same {B m : Nat} {v : Value} (h : OwnF w B v m ys) (hy : ys[j]? = some y) (hr : y2.row = y.row) : OwnF w B v m (ys.set j y2) := by
  unfold OwnF
  rw [rows_set_same hy hr]
  exact h
theorem flat_set : ∀ {ys : List FV} {j : Nat} {y2 : FV}, j < ys.length → (((ys.map FV.row).flatten.set (j * 2) y2.v1).set (j * 2 + 1) y2.v2) = ((ys.set j y2).map FV.row).flatten
  | [], _, _, h => by simp at h
  | y :: r, 0, y2, _ => by simp [FV.row, FV.v1, FV.v2]
  | y :: r, j + 1, y2, h => by
    have ih := flat_set (ys := r) (j := j) (y2 := y2) (by simpa using h)
    simp only [List.map_cons, List.flatten_cons, List.set_cons_succ]
    rw [← ih, show (j + 1) * 2 = j * 2 + 1 + 1 by omega]
    simp [FV.row]
theorem OwnF.put {B m c g : Nat} (h : OwnF w B (.slice (some ⟨g, 0, none⟩) m c) m ys) (hj : j < ys.length) : OwnF ((w.setCell ⟨g, j * 2, none⟩ y2.v1).setCell ⟨g, j * 2 + 1, none⟩ y2.v2) B (.slice (some ⟨g, 0, none⟩) m c) m (ys.set j y2) := by
  unfold OwnF
  rw [← flat_set hj]
  exact (World.ownsRow.stored (World.ownsRow.stored h (j * 2) y2.v1).1 (j * 2 + 1) y2.v2).1
/-- A store into a block that is no inner slice. -/
theorem OIn.ne {i : Nat} {u : Value} (h : OIn w lo ys) (hb : ¬ InBlk ys b) : OIn (w.setCell ⟨b, i, none⟩ u) lo ys :=
  ⟨fun q z hz => ⟨row_ne (h.1 q z hz).1 fun e => hb ⟨q, z, hz, .inl e⟩, row_ne (h.1 q z hz).2 fun e => hb ⟨q, z, hz, .inr e⟩⟩, h.2⟩
/-- Another form in j's place, its slices in blocks of their own. -/
theorem OIn.put (h : OIn w lo ys) (hj : j < ys.length) (h1 : Own w lo y2.v1 y2.f.held.length y2.f.held) (h2 : Own w lo y2.v2 y2.f.wanted.length y2.f.wanted) (hq : nq y2.v1 y2.v2) (n1 : Nin y2.v1 ys) (n2 : Nin y2.v2 ys) : OIn w lo (ys.set j y2) := by
  have back : ∀ (i : Nat) (z : FV), (ys.set j y2)[i]? = some z → (i = j ∧ z = y2) ∨ (i ≠ j ∧ ys[i]? = some z) := by
    intro i z hz
    by_cases hij : i = j
    · subst hij
      rw [List.getElem?_set_self hj] at hz
      injection hz with hz
      exact .inl ⟨rfl, hz.symm⟩
    · rw [List.getElem?_set_ne (Ne.symm hij)] at hz
      exact .inr ⟨hij, hz⟩
  refine ⟨fun i z hz => ?_, fun i z hz => ?_⟩
  · rcases back i z hz with ⟨_, rfl⟩ | ⟨_, hz⟩
    · exact ⟨h1, h2⟩
    · exact h.1 i z hz
  · rcases back i z hz with ⟨e1, rfl⟩ | ⟨e1, hz1⟩
    · refine ⟨hq, fun i' z' hz' hlt => ?_⟩
      rcases back i' z' hz' with ⟨e2, _⟩ | ⟨_, hz'⟩
      · omega
      · exact ⟨fun k e f => n1 k e ⟨i', z', hz', .inl f⟩, fun k e f => n1 k e ⟨i', z', hz', .inr f⟩, fun k e f => n2 k e ⟨i', z', hz', .inl f⟩, fun k e f => n2 k e ⟨i', z', hz', .inr f⟩⟩
    · refine ⟨(h.2 i z hz1).1, fun i' z' hz' hlt => ?_⟩
      rcases back i' z' hz' with ⟨e2, rfl⟩ | ⟨_, hz'⟩
      · exact ⟨fun k e f => n1 k f ⟨i, z, hz1, .inl e⟩, fun k e f => n2 k f ⟨i, z, hz1, .inl e⟩, fun k e f => n1 k f ⟨i, z, hz1, .inr e⟩, fun k e f => n2 k f ⟨i, z, hz1, .inr e⟩⟩
      · exact (h.2 i z hz1).2 i' z' hz' hlt
/-- What the slices of a form in j's place may be. -/
theorem Nin.set {v : Value} (h : Nin v ys) (h1 : ∀ k, v.ownBlock = some k → y2.v1.ownBlock ≠ some k ∧ y2.v2.ownBlock ≠ some k) : Nin v (ys.set j y2) := by
  intro k hk ⟨i, z, hz, hin⟩
  by_cases hij : i = j
  · subst hij
    have hl := (List.getElem?_eq_some_iff.1 hz).1
    rw [List.length_set] at hl
    rw [List.getElem?_set_self hl] at hz
    injection hz with hz
    subst hz
    exact hin.elim (h1 k hk).1 (h1 k hk).2
  · rw [List.getElem?_set_ne (Ne.symm hij)] at hz
    exact h k hk ⟨i, z, hz, hin⟩
theorem Nin.set_same {v : Value} (h : Nin v ys) (hy : ys[j]? = some y) (h1 : y2.v1 = y.v1) (h2 : y2.v2 = y.v2) : Nin v (ys.set j y2) :=
  Nin.set h fun k hk => by
    rw [h1, h2]
    exact ⟨fun e => h k hk ⟨j, y, hy, .inl e⟩, fun e => h k hk ⟨j, y, hy, .inr e⟩⟩
end
end Go.Proofs.Ytfemacefkaehjaa
