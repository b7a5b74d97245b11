/-
  Contracts: FindSlips.
-/
import Derived.Test.YtjcopempjanhhaaMs1
import Derived.Test.YtjcopempjanhhaaDi2
import Derived.Test.YtjcopempjanhhaaSe2
import Derived.Test.YtjcopempjanhhaaMv1
import Derived.Test.YtjcopempjanhhaaFsP
namespace Go.Proofs.Ytjcopempjanhhaa
open Go.RowKit
def mkS (xs : List Bx) (t : Nat × Nat × Int) : Msp := ⟨((xs[t.1]?).getD ⟨⟨#[]⟩, 0, 0, 0⟩).code, ((xs[t.2.1]?).getD ⟨⟨#[]⟩, 0, 0, 0⟩).code, t.2.2⟩
def fsP : Nat := 320000
def fsF (xs ys : List Bx) : List Msp := (slipF fsP (subL xs ys) 0 0).map (mkS xs)
def fsG (xs ys : List Bx) : Bool := twoB xs ys && (decide (sumB xs = sumB ys) && decide ((fsF xs ys).length ≤ 20))
def fsV (xs ys : List Bx) : List Msp := if fsG xs ys then fsF xs ys else []
theorem fs_no {xs ys : List Bx} (h : fsG xs ys = false) : fsV xs ys = [] := by rw [fsV, h]; rfl
theorem subL_len : ∀ {xs ys : List Bx}, xs.length = ys.length → (subL xs ys).length = xs.length
  | [], [], _ => rfl
  | _ :: _, _ :: _, h => by simp only [subL, List.length_cons]; rw [subL_len (by simpa using h)]
theorem subL_sum : ∀ {xs ys : List Bx}, xs.length = ys.length → sumI (subL xs ys) = sumB ys - sumB xs
  | [], [], _ => by simp [subL, sumI, sumB]
  | a :: r, b :: t, h => by
    have ih := subL_sum (xs := r) (ys := t) (by simpa using h)
    rw [subL, sumI, sumB, sumB, ih]; omega
theorem subL_bd : ∀ {xs ys : List Bx}, (∀ b ∈ xs, 0 ≤ b.count ∧ b.count ≤ 9999) → (∀ b ∈ ys, 0 ≤ b.count ∧ b.count ≤ 9999) → ∀ (j : Nat) (y : Int), (subL xs ys)[j]? = some y → -9999 ≤ y ∧ y ≤ 9999
  | [], _, _, _, j, y, h => by rw [subL] at h; simp at h; simp
  | _ :: _, [], _, _, j, y, h => by rw [subL] at h; simp at h; simp
  | a :: r, b :: t, hx, hy, 0, y, h => by
    rw [subL] at h
    simp at h
    have h1 := hx a (by simp)
    have h2 := hy b (by simp)
    omega
  | a :: r, b :: t, hx, hy, j + 1, y, h => by
    rw [subL] at h
    exact subL_bd (xs := r) (ys := t) (fun z hz => hx z (List.mem_cons_of_mem _ hz)) (fun z hz => hy z (List.mem_cons_of_mem _ hz)) j y (by simpa using h)
theorem fs_start {n : Nat} {xs ys : List Bx} (h1 : twoB xs ys = true) (h2 : sumB xs = sumB ys) (hl : xs.length = n) : SlipOk n (subL xs ys) 0 0 ∧ posS (subL xs ys) + 0 ≤ fsP := by
  obtain ⟨g1, g2, g3, _⟩ := twoB_true h1
  have hb := subL_bd (count_bd g1) (count_bd g2)
  have hn := (caseB_true g1).1
  refine ⟨⟨by rw [subL_len g3, hl], by rw [subL_sum g3, h2]; omega, fun j y hj => by omega, hb, by omega, by omega⟩, ?_⟩
  have := posS_le (M := 9999) (fun j y hy => (hb j y hy).2) (by omega)
  rw [subL_len g3] at this
  unfold fsP
  omega
def mnJ (a b : Int) : Int := if a < b then a else b
theorem leastF_is (a b : Int) {v : Int} (hv : mnJ a b = v) (w : World) : Calls Try.prog 85 #[.int .i64 a, .int .i64 b] w fun x w' => x = .returned (.int .i64 v) ∧ w = w' := by
  by_cases h : a < b
  · go_enter Try.func85, Try.ntmps85
    go_wp2
    go_ret
    exact ⟨ret_int (by rw [← hv]; unfold mnJ; split <;> omega), rfl⟩
  · go_enter Try.func85, Try.ntmps85
    go_wp2
    go_ret
    exact ⟨ret_int (by rw [← hv]; unfold mnJ; split <;> omega), rfl⟩
theorem sumD_any {A : Option Addr} {n c : Nat} {xs : List Int} {w : World} (hr : RInts w w.heap.size A n xs) (hn : n ≤ 1048576) (hx : ∀ (j : Nat) (y : Int), xs[j]? = some y → -9999 ≤ y ∧ y ≤ 9999) :
    Calls Try.prog 86 #[.slice A n c] w fun e w' => e = .returned (.int .i64 (sumI xs)) ∧ w = w' := by
  have HL := Lib.hid hr.len
  have HX := Lib.hid hx; clear hx
  go_enter Try.func86, Try.ntmps86
  go_wp2
  go_loop [3, 8] (fun t i => ∃ (k : Nat) (s : Int), k ≤ n ∧ i = .int .i64 k ∧ t = .int .i64 s ∧ -1000000 * (k : Int) ≤ s ∧ s ≤ 1000000 * k ∧ s + sumI (xs.drop k) = sumI xs) (fun _ i => n - (intOf i).toNat)
  case atStart => exact ⟨0, 0, Nat.zero_le _, rfl, rfl, by omega, by omega, by simp⟩
  case round =>
    obtain ⟨k, s, hk, rfl, rfl, b1, b2, hR⟩ := hrel
    have HR := Lib.hid hR; clear hR
    by_cases hlt : k < n
    · obtain ⟨ad, y, rfl, _, hd, hy, hc⟩ := hr.at_ hlt
      obtain ⟨y1, y2⟩ := HX.out k y hy
      have HD := Lib.hid hd; clear hd hy
      go_wp2
      go_round
      case rel => exact ⟨k + 1, _, by omega, by go_num, rfl, by omega, by omega, by rw [← HR.out, HD.out, sumI]; omega⟩
      case measure => simp [intOf]; omega
    · go_wp2
      go_ret
      exact ⟨ret_int (by rw [← HR.out, List.drop_of_length_le (by have := HL.out; omega)]; simp [sumI]), rfl⟩
theorem new_cellsF {w : World} {g : Nat} {cs : Array Value} {t : TypeId} (h : w.heap.size = g) : ∀ (j : Nat) (u : Value), cs.toList[j]? = some u → (w.alloc (.cells cs t)).drew.cell? ((⟨g, 0, none⟩ : Addr).add j) = some u := by
  subst h
  intro j u hj
  have := World.news_of_block (w := (w.alloc (.cells cs t)).drew) (B := w.heap.size) (cs := cs) (t := t) (fr := (0, 0)) (heap_alloc_new w _) j u hj
  exact this
theorem row_adF {w : World} {B n size : Nat} {e : TypeId} {v : Value} {xs : List Value} (h : w.ownsRow B e size v n xs) (o : Obj) : (w.alloc o).drew.ownsRow B e size v n xs := World.ownsRow.alloc h o
theorem cell_adF {w : World} (o : Obj) (p : Addr) (h : p.block < w.heap.size) : (w.alloc o).drew.cell? p = w.cell? p := World.cell?_alloc_lt w o p h
theorem row_lowF {w : World} {B B' n size : Nat} {e : TypeId} {v : Value} {xs : List Value} (h : w.ownsRow B e size v n xs) (hB : B' ≤ B) : w.ownsRow B' e size v n xs := by
  refine ⟨h.1, ?_⟩
  rcases h.2 with hn | ⟨g, cap, cur, rfl, hb, rest⟩
  · exact .inl hn
  · exact .inr ⟨g, cap, cur, rfl, by omega, rest⟩
theorem slipLen {n : Nat} {zs : List Msp} {w : World} {B : Nat} {v : Value} (h : w.ownsRow B 106 3 v n (zs.map Msp.row).flatten) : zs.length = n := by
  have := h.1
  rw [flatten_len (size := 3) (by simp [Msp.row]), List.length_map] at this
  omega
theorem slip_app {n : Nat} {zs : List Msp} {x : Msp} {w : World} {B : Nat} {v : Value} (h : w.ownsRow B 106 3 v (n + 1) ((zs.map Msp.row).flatten ++ [.string x.code, .string x.into, .int .i64 x.nn])) : w.ownsRow B 106 3 v (n + 1) ((zs ++ [x]).map Msp.row).flatten := by
  have e : ((zs ++ [x]).map Msp.row).flatten = (zs.map Msp.row).flatten ++ [.string x.code, .string x.into, .int .i64 x.nn] := by simp [Msp.row]
  rw [e]
  exact h
/-- One more slip: the equation of the whole. -/
theorem fs_step {n i k c : Nat} {l : List Int} {zs : List Msp} {xs : List Bx} {F : List Msp} {x y s : Int} {p q : Bx} (hok : SlipOk n l i k) (hps : posS l + (c : Int) ≤ fsP) (hF : zs ++ (slipF (fsP - c) l i k).map (mkS xs) = F) {i' k' : Nat} (hi : skipP lessP l i = i') (hk : skipP moreP l k = k') (hin : i' < n) (hkn : k' < n)
    (hx : l[i']? = some x) (hy : l[k']? = some y) (x0 : x < 0) (y0 : 0 < y) (hs : stepN x y = s) (hp : xs[i']? = some p) (hq : xs[k']? = some q) :
    SlipOk n ((l.set i' (x + s)).set k' (y - s)) i' k' ∧ posS ((l.set i' (x + s)).set k' (y - s)) + ((c + 1 : Nat) : Int) ≤ fsP ∧ (zs ++ [⟨p.code, q.code, s⟩]) ++ (slipF (fsP - (c + 1)) ((l.set i' (x + s)).set k' (y - s)) i' k').map (mkS xs) = F ∧ (l.set i' (x + s))[k']? = some y ∧ (1 ≤ s ∧ s ≤ 99) ∧ i' ≠ k' := by
  have hne : i' ≠ k' := by
    intro e
    subst e
    rw [hx] at hy
    injection hy with hy
    omega
  subst hi hk hs
  obtain ⟨h1, h2, h3⟩ := slip_ok hok hin hkn hx hy x0 y0 hne
  have hsb := stepN_bd x0 y0
  have hpp := posS_nn ((l.set (skipP lessP l i) (x + stepN x y)).set (skipP moreP l k) (y - stepN x y))
  refine ⟨h1, by omega, ?_, h3, ⟨hsb.1, hsb.2.1⟩, hne⟩
  have hf : fsP - c = (fsP - (c + 1)) + 1 := by omega
  rw [← hF, hf, slipF_next (by rw [hok.len]; omega) hx hy, List.map_cons, mkS]
  simp [hp, hq]
theorem fs_last {c i k : Nat} {l : List Int} {zs : List Msp} {xs : List Bx} {F : List Msp} {n : Nat} (hok : SlipOk n l i k) (hF : zs ++ (slipF (fsP - c) l i k).map (mkS xs) = F) (hi : skipP lessP l i = n) : zs = F := by
  rw [← hF, slipF_end (by rw [hok.len]; exact hi)]; simp
def lenF : Value → Nat | .slice _ n _ => n | _ => 0
theorem row_emptyF (w : World) (B : Nat) (hB : B ≤ w.heap.size) : (w.alloc (.cells #[] 106)).ownsRow B 106 3 (.slice (some ⟨w.heap.size, 0, none⟩) 0 0) 0 (([] : List Msp).map Msp.row).flatten :=
  (Blk.new' w 106 #[]).row (size := 3) (by simp) (by simp) hB
set_option maxRecDepth 100000 in
set_option maxHeartbeats 4000000 in
theorem findSlips_spec {A B : Option Addr} {n cp m cq : Nat} {xs ys : List Bx} {w : World} (hr : RBxs w w.heap.size A n xs) (hn0 : n ≤ 1048576) (hcp : n ≤ cp) (hL : ∀ b ∈ xs, b.code.size ≤ 1048576) (hs : RBxs w w.heap.size B m ys) (hm0 : m ≤ 1048576) (hcq : m ≤ cq) (hM : ∀ b ∈ ys, b.code.size ≤ 1048576) :
    Calls Try.prog 38 #[.slice A n cp, .slice B m cq] w fun e w' => ∃ V N C, e = .returned (.tuple #[.slice V N C, .bool (fsG xs ys)]) ∧ w'.ownsRow w.heap.size 106 3 (.slice V N C) N ((fsV xs ys).map Msp.row).flatten ∧ N ≤ 1048576 ∧ Below w.heap.size w w' := by
  cases h1 : twoB xs ys
  · have HG := Lib.hid (show fsG xs ys = false by rw [fsG, h1]; rfl)
    have HV := Lib.hid (fs_no HG.out)
    go_enter Try.func38, Try.ntmps38; go_wp2_with fail; refine (diTwo_any hr hs hn0 hm0 hcp hcq hL hM).mono ?_; rintro e1 w1 ⟨rfl, hb1⟩
    rw [h1]
    clear h1
    go_wp2_with fail
    go_ret2
    exact ⟨none, 0, 0, by rw [HG.out]; rfl, by rw [HV.out]; exact World.ownsRow_nil _ _ _ _, by omega, hb1⟩
  obtain ⟨g1, g2, g3, g4⟩ := twoB_true h1
  have hnm : n = m := by have := hr.len; have := hs.len; omega
  subst hnm
  have HX := Lib.hid (count_bd g1)
  have HY := Lib.hid (count_bd g2)
  have hn32 : n ≤ 32 := by have := (caseB_true g1).1; have := hr.len; omega
  have hn1 : 0 < n := by have := (caseB_true g1).1; have := hr.len; omega
  have HL := Lib.hid hr.len
  have HM := Lib.hid hs.len
  have HG3 := Lib.hid g3
  clear g1 g2 g3 g4
  by_cases h2 : sumB xs ≠ sumB ys
  · have HG := Lib.hid (show fsG xs ys = false by rw [fsG, decide_eq_false h2]; simp)
    have HV := Lib.hid (fs_no HG.out)
    have e2 := (ne_t h2).1
    have e3 := (ne_t h2).2
    go_enter Try.func38, Try.ntmps38; go_wp2_with fail; refine (diTwo_any hr hs hn0 hm0 hcp hcq hL hM).mono ?_; rintro e1 w1 ⟨rfl, hb1⟩; rw [h1]; go_wp2_with fail; refine (caSum_any ((RBxs.below hr hb1).more hb1.size) hn32 HX.out).mono ?_; rintro e1 w2 ⟨rfl, hn⟩; replace hb1 := hb1.trans (hn.mono hb1.size); clear hn; go_wp2_with fail; refine (caSum_any ((RBxs.below hs hb1).more hb1.size) hn32 HY.out).mono ?_; rintro e1 w3 ⟨rfl, hn⟩; replace hb1 := hb1.trans (hn.mono hb1.size); clear hn
    go_wp2_with fail
    go_ret2
    exact ⟨none, 0, 0, by rw [HG.out]; rfl, by rw [HV.out]; exact World.ownsRow_nil _ _ _ _, by omega, hb1⟩
  · replace h2 := Decidable.of_not_not h2
    have e2 := (ne_f h2).1
    have e3 := (ne_f h2).2
    have HST := Lib.hid (fs_start h1 h2 HL.out)
    have H1T := Lib.hid h1
    have HSU := Lib.hid h2
    obtain ⟨F, hF⟩ : ∃ F, F = fsF xs ys := ⟨_, rfl⟩
    have HFD := Lib.hid hF
    have HF := Lib.hid (show [] ++ (slipF (fsP - 0) (subL xs ys) 0 0).map (mkS xs) = F by rw [hF, fsF]; rfl)
    clear hF
    obtain ⟨bA, oA, _, eA0, hbA, _⟩ := RBxs.at_ hr hn1
    subst eA0
    have HB := Lib.hid hr
    obtain ⟨i0, hi, hz0, hz1, hz2⟩ := info_parts info3
    obtain ⟨j0, hj, hy0_, hy1_, hy2_⟩ := info_parts infoMisput
    go_enter Try.func38, Try.ntmps38; go_wp2_with fail; refine (diTwo_any hr hs hn0 hm0 hcp hcq hL hM).mono ?_; rintro e1 w1 ⟨rfl, hb1⟩; rw [h1]; go_wp2_with fail; refine (caSum_any ((RBxs.below hr hb1).more hb1.size) hn32 HX.out).mono ?_; rintro e1 w2 ⟨rfl, hn⟩; replace hb1 := hb1.trans (hn.mono hb1.size); clear hn; go_wp2_with fail; refine (caSum_any ((RBxs.below hs hb1).more hb1.size) hn32 HY.out).mono ?_; rintro e1 w3 ⟨rfl, hn⟩; replace hb1 := hb1.trans (hn.mono hb1.size); clear hn
    clear h1 h2
    replace hr := (RBxs.below hr hb1).more hb1.size
    replace hs := (RBxs.below hs hb1).more hb1.size
    have hsz1 := hb1.size
    go_wp2_with fail
    clear e2 e3
    go_loopw [6, 25] (fun v u wr => ∃ (k : Nat) (zs : List Int), k ≤ n ∧ u = .int .i64 k ∧ Own wr w3.heap.size v k zs ∧ zs ++ subL (xs.drop k) (ys.drop k) = subL xs ys ∧ Below w3.heap.size w3 wr) (fun _ u _ => n - (intOf u).toNat)
    case atStart => exact ⟨0, [], Nat.zero_le _, rfl, own_nil _ _, rfl, Below.refl _ _⟩
    case round =>
     obtain ⟨k, zs, hk, rfl, ho0, hR, hbr⟩ := hrel
     by_cases hlt : k < n
     · obtain ⟨bb, off, x, eA, hb1_, hd, hx, c0, c1, c2, c3⟩ := RBxs.at_ (RBxs.below hr hbr) hlt
       obtain ⟨b2, o2, y, eB, hb2, he, hy, d0, d1, d2, d3⟩ := RBxs.at_ (RBxs.below hs hbr) hlt
       have bx := HX.out x (List.mem_of_getElem? hx)
       have by_ := HY.out y (List.mem_of_getElem? hy)
       have HR := Lib.hid (subL_step hd he hR)
       have HA := Lib.hid eA
       have HB2 := Lib.hid eB
       have hsz := hbr.size
       clear hd he hR hx hy
       rw [eA, eB]
       clear eA eB
       have l0 : (0 : Int) ≤ (k : Int) := by omega
       have l1 : (k : Int) < (n : Int) := by omega
       have ew : IntKind.i64.wrap (y.count - x.count) = y.count - x.count := wrapI (by omega) (by omega)
       have hS0 : wr.cell? ⟨b2, o2 + k * 4 + 3, none⟩ = some (.int .i64 y.count) ∧ wr.cell? ⟨bb, off + k * 4 + 3, none⟩ = some (.int .i64 x.count) := ⟨d3, c3⟩
       have hb2w : b2 < w.heap.size ∨ True := .inr trivial
       have ho1 := ho0
       go_wp2_with fail
       go_region_held3 (fun wx => wx.cell? ⟨b2, o2 + k * 4 + 3, none⟩ = some (.int .i64 y.count) ∧ wx.cell? ⟨bb, off + k * 4 + 3, none⟩ = some (.int .i64 x.count)) ((first | exact hS0 | (refine ⟨(World.cell?_alloc_lt _ _ _ ?_).trans hS0.1, (World.cell?_alloc_lt _ _ _ ?_).trans hS0.2⟩ <;> (simp <;> omega)) | exact hS9 | assumption | go_keep)) (first
         | (refine step_append_lies _ rfl (.tmp 28) (.tmp 40) 45 rfl w3.heap.size 3 i0 (.int .i64 0) 1 8 Try.underlying45 hi hz0 hz1 hz2 rfl (by decide) _ k _ rfl (row_alloc ho1 _) _ 1 1 [.int .i64 (y.count - x.count)] rfl rfl (new_oneD (by simp)) (by intro u hu; simp at hu; subst hu; rfl) (by omega) (by unfold maxLen; omega) (by omega) (by simp <;> omega) _ rfl ?_; intro g cap w9 hown9 hgr9 _ _; have hkb : Below w3.heap.size _ w9 := grown_below hgr9 (by simp <;> omega) (fun q hq => (ho0.lt q hq).1); have hS9 : w9.cell? ⟨b2, o2 + k * 4 + 3, none⟩ = some (.int .i64 y.count) ∧ w9.cell? ⟨bb, off + k * 4 + 3, none⟩ = some (.int .i64 x.count) := ⟨(hkb.cell (p := ⟨b2, o2 + k * 4 + 3, none⟩) hb2).trans ((World.cell?_alloc_lt _ _ _ (by simp <;> omega)).trans hS0.1), (hkb.cell (p := ⟨bb, off + k * 4 + 3, none⟩) hb1_).trans ((World.cell?_alloc_lt _ _ _ (by simp <;> omega)).trans hS0.2)⟩; have HN := Lib.hid (own_app hown9); clear hown9 hgr9))
       clear hS0 ho1
       have hbe := ((hbr.drew).alloc (by simpa using hsz) _).trans hkb
       go_wp2_with fail
       (try rw [← HA.out]); (try rw [← HB2.out])
       go_roundw
       case rel => exact ⟨k + 1, _, by omega, by go_num, HN.out, HR.out, hbe⟩
       case measure => simp [intOf]; omega
     · have hkn : k = n := by omega
       have hR2 : zs = subL xs ys := by rw [← hR, subL_end (drop_end HL.out hlt), List.append_nil]
       rw [hkn, hR2] at ho0
       clear hR hkn hR2
       replace ho0 := own_lower ho0 hsz1
       obtain ⟨gR, CR, rfl, hgl, hgs⟩ := World.ownsRow.form ho0 hn1
       have HR0 := Lib.hid ho0
       have hba := hb1.trans (hbr.mono hsz1)
       have hO0 : wr.ownsRow w.heap.size 106 3 (.slice none 0 0) 0 (([] : List Msp).map Msp.row).flatten := World.ownsRow_nil _ _ _ _
       clear ho0 hbr hr hs
       obtain ⟨wo, rfl⟩ : ∃ wo, wo = wr := ⟨_, rfl⟩
       go_wp2_with fail
       go_loopw [8, 9, 10] (fun v8 v9 v10 wr => ∃ (c i k : Nat) (l : List Int) (zs : List Msp), v9 = .int .i64 i ∧ v10 = .int .i64 k ∧ c ≤ 21 ∧ wr.ownsRow w.heap.size 106 3 v8 c (zs.map Msp.row).flatten ∧ Own wr w.heap.size (.slice (some ⟨gR, 0, none⟩) n CR) n l ∧ SlipOk n l i k ∧ posS l + (c : Int) ≤ fsP ∧ zs ++ (slipF (fsP - c) l i k).map (mkS xs) = F ∧ Below w.heap.size w wr) (fun v8 _ _ _ => 22 - lenF v8)
       case atStart => exact ⟨0, 0, 0, subL xs ys, [], rfl, rfl, Nat.zero_le _, hO0, HR0.out, HST.out.1, HST.out.2, HF.out, hba⟩
       case round =>
         clear hO0 hba
         obtain ⟨c, i, k, l, zs, rfl, rfl, hc, hoO, hoR, hok, hps, hE, hbr⟩ := hrel
         obtain ⟨VO, CO, rfl⟩ := own_slice hoO
         have HE := Lib.hid hE
         have HOK := Lib.hid hok
         have HPS := Lib.hid hps
         have HZL := Lib.hid (slipLen hoO)
         have HLE := Lib.hid hok.len
         have HOO := Lib.hid hoO
         have HOR := Lib.hid hoR
         have hib := hok.hi
         have hkb := hok.hk
         have hsz := hbr.size
         clear hE hok hps hoO hoR
         by_cases hc20 : c ≤ 20
         · go_wp2_with fail
           go_loop [9] (fun u => ∃ i2 : Nat, u = .int .i64 i2 ∧ i2 ≤ n ∧ skipP lessP l i2 = skipP lessP l i) (fun u => n - (intOf u).toNat)
           case atStart => exact ⟨i, rfl, hib, rfl⟩
           case round =>
             obtain ⟨i2, rfl, hi2, hS⟩ := hrel
             by_cases hlt : i2 < n
             · obtain ⟨x, hx⟩ : ∃ x, l[i2]? = some x := ⟨_, List.getElem?_eq_getElem (by have := HLE.out; omega)⟩
               have c0 : wr.cell? ⟨gR, i2, none⟩ = some (.int .i64 x) := (HOR.out.cellAt i2 (by omega)).trans (by rw [List.getElem?_map, hx]; rfl)
               by_cases hx0 : 0 ≤ x
               · have HS := Lib.hid ((skip_go hx (by simp [lessP, hx0])).trans hS)
                 clear hS hx
                 go_wp2_with fail
                 go_round
                 case rel => exact ⟨i2 + 1, by go_num, by omega, HS.out⟩
                 case measure => simp [intOf]; omega
               · have HSI := Lib.hid (show skipP lessP l i = i2 from hS.symm.trans (skip_stop hx (by simp [lessP]; omega)))
                 have HX := Lib.hid hx
                 clear hS hx
                 go_wp2_with fail
                 clear c0
                 go_loop [10] (fun u => ∃ k2 : Nat, u = .int .i64 k2 ∧ k2 ≤ n ∧ skipP moreP l k2 = skipP moreP l k) (fun u => n - (intOf u).toNat)
                 case atStart => exact ⟨k, rfl, hkb, rfl⟩
                 case round =>
                   obtain ⟨k2, rfl, hk2, hS⟩ := hrel
                   by_cases hltk : k2 < n
                   · obtain ⟨y, hy⟩ : ∃ y, l[k2]? = some y := ⟨_, List.getElem?_eq_getElem (by have := HLE.out; omega)⟩
                     have d0 : wr.cell? ⟨gR, k2, none⟩ = some (.int .i64 y) := (HOR.out.cellAt k2 (by omega)).trans (by rw [List.getElem?_map, hy]; rfl)
                     by_cases hy0 : y ≤ 0
                     · have HS := Lib.hid ((skip_go hy (by simp [moreP, hy0])).trans hS)
                       clear hS hy
                       go_wp2_with fail
                       go_round
                       case rel => exact ⟨k2 + 1, by go_num, by omega, HS.out⟩
                       case measure => simp [intOf]; omega
                     · have HSK := Lib.hid (show skipP moreP l k = k2 from hS.symm.trans (skip_stop hy (by simp [moreP]; omega)))
                       have HY := Lib.hid hy
                       clear hS hy
                       obtain ⟨s, hs⟩ : ∃ s, stepN x y = s := ⟨_, rfl⟩
                       obtain ⟨p, hp⟩ : ∃ p, xs[i2]? = some p := ⟨_, List.getElem?_eq_getElem (by have := HL.out; omega)⟩
                       obtain ⟨q, hq⟩ : ∃ q, xs[k2]? = some q := ⟨_, List.getElem?_eq_getElem (by have := HL.out; omega)⟩
                       obtain ⟨t1, t2, t3, t4, t5, t6⟩ := fs_step HOK.out HPS.out HE.out HSI.out HSK.out hlt hltk HX.out HY.out (by omega) (by omega) hs hp hq
                       have hxb := HOK.out.bd i2 x HX.out
                       have hyb := HOK.out.bd k2 y HY.out
                       have T1 := Lib.hid t1
                       have T2 := Lib.hid t2
                       have T3 := Lib.hid t3
                       have T4 := Lib.hid t4
                       have T6 := Lib.hid t6
                       have HP := Lib.hid hp
                       have HQ := Lib.hid hq
                       have HSN := Lib.hid hs
                       have hpp := posS_nn ((l.set i2 (x + s)).set k2 (y - s))
                       have hcP : c + 1 ≤ fsP := by omega
                       clear t1 t2 t3 t4 t6 hp hq hs hpp
                       have l0 : (0 : Int) ≤ (i2 : Int) := by omega
                       have l1 : (i2 : Int) < (n : Int) := by omega
                       have l2 : (0 : Int) ≤ (k2 : Int) := by omega
                       have l3 : (k2 : Int) < (n : Int) := by omega
                       have ew : IntKind.i64.wrap (-x) = -x := wrapI (by omega) (by omega)
                       have c0 : wr.cell? ⟨gR, i2, none⟩ = some (.int .i64 x) := (HOR.out.cellAt i2 (by omega)).trans (by rw [List.getElem?_map, HX.out]; rfl)
                       have hgR := HOR.out.lt gR rfl
                       have H1 := Lib.hid (show mnJ (-x) y = min (-x) y by unfold mnJ; split <;> omega)
                       have H2 := Lib.hid (show mnJ 99 (min (-x) y) = s by rw [← HSN.out]; unfold mnJ stepN; split <;> omega)
                       have q0 : ∀ z : Later wr.heap.size wr, z.wx.cell? ⟨gR, i2, none⟩ = some (.int .i64 x) := fun z => z.cell (by omega) c0
                       have q1 : ∀ z : Later wr.heap.size wr, z.wx.cell? ⟨gR, k2, none⟩ = some (.int .i64 y) := fun z => z.cell (by omega) d0
                       go_wp2_with fail
                       refine quiet_start (wr.heap.size) (by kernel_rfl) (by kernel_rfl) ?_; (repeat (go_big_quiet_step ((first | (go_at_call 85; exact later_same (leastF_is _ _ H1.out _)) | (go_at_call 85; exact later_same (leastF_is _ _ H2.out _)))))); refine wpQuiet_nil ?_; rintro wx ⟨⟨wy, hn⟩, rfl⟩; (try dsimp only)
                       clear q0 q1 c0 d0 ew
                       have hbx := hbr.trans (hn.mono hsz)
                       have HOX := Lib.hid (row_step HOO.out hn)
                       have HRX := Lib.hid (row_step HOR.out hn)
                       clear hn
                       obtain ⟨bb, off, p2, eA, _, _, hp2, u0, _, _, _⟩ := RBxs.at_ (RBxs.below HB.out hbx) hlt
                       obtain ⟨bb2, off2, q2, eB, _, _, hq2, v0, _, _, _⟩ := RBxs.at_ (RBxs.below HB.out hbx) hltk
                       injection eA with eA
                       injection eA with ea1 ea2
                       injection eB with eB
                       injection eB with eb1 eb2
                       subst ea1 ea2 eb1 eb2
                       rw [HP.out] at hp2
                       injection hp2 with hp2
                       rw [HQ.out] at hq2
                       injection hq2 with hq2
                       subst hp2 hq2
                       have hS0 : wx.cell? ⟨bA, oA + i2 * 4, none⟩ = some (.string p.code) ∧ wx.cell? ⟨bA, oA + k2 * 4, none⟩ = some (.string q.code) := ⟨u0, v0⟩
                       have hszx : w.heap.size ≤ wx.heap.size := hbx.size
                       have HAP := Lib.hid (owns_apart HRX.out HOX.out (by decide))
                       clear u0 v0
                       go_wp2_with fail
                       go_region_held3 (fun wq => wq.cell? ⟨bA, oA + i2 * 4, none⟩ = some (.string p.code) ∧ wq.cell? ⟨bA, oA + k2 * 4, none⟩ = some (.string q.code)) ((first | exact hS0 | (refine ⟨(World.cell?_alloc_lt _ _ _ ?_).trans hS0.1, (World.cell?_alloc_lt _ _ _ ?_).trans hS0.2⟩ <;> (simp <;> omega)) | exact hS9 | assumption | go_keep)) (first
                      | (refine step_append_lies ((wx.alloc (.cells #[.string p.code, .string q.code, .int .i64 s] 106)).drew) rfl (.tmp 88) (.tmp 101) 56 rfl w.heap.size 106 j0 (.agg #[.string ⟨#[]⟩, .string ⟨#[]⟩, .int .i64 0]) 3 40 Try.underlying56 hj hy0_ hy1_ hy2_ rfl (by decide) (.slice VO c CO) c _ (by simp [Act.eval, Act.put]) (row_adF HOX.out _) ⟨wx.heap.size, 0, none⟩ 1 1 [.string p.code, .string q.code, .int .i64 s] (by simp [Act.eval, Act.put]) rfl (new_cellsF (by simp)) (by intro u hu; simp at hu; rcases hu with rfl | rfl | rfl <;> rfl) (by omega) (by unfold maxLen; unfold fsP at hcP; omega) (by unfold fsP at hcP; omega) (by simp <;> omega) _ rfl ?_; intro g9 cap9 w9 hown9 hgr9 _ _; have hkb9 : Below w.heap.size _ w9 := grown_below hgr9 (by simp <;> omega) (fun z hz => (HOX.out.lt z hz).1); have hS9 : w9.cell? ⟨bA, oA + i2 * 4, none⟩ = some (.string p.code) ∧ w9.cell? ⟨bA, oA + k2 * 4, none⟩ = some (.string q.code) := ⟨(hkb9.cell (p := ⟨bA, oA + i2 * 4, none⟩) hbA).trans ((cell_adF _ _ (by simp <;> omega)).trans hS0.1), (hkb9.cell (p := ⟨bA, oA + k2 * 4, none⟩) hbA).trans ((cell_adF _ _ (by simp <;> omega)).trans hS0.2)⟩; have HRN := Lib.hid (kept_of_apart (row_adF HRX.out _) hgr9 HAP.out); have HN := Lib.hid (slip_app (x := ⟨p.code, q.code, s⟩) hown9); clear hown9 hgr9))
                       have hb9 := ((hbx.drew).alloc (by simp <;> omega) _).trans hkb9
                       clear hS0 hkb9
                       have e0 : w9.cell? ⟨gR, i2, none⟩ = some (.int .i64 x) := (HRN.out.cellAt i2 (by omega)).trans (by rw [List.getElem?_map, HX.out]; rfl)
                       have f0 := HRN.out.frozenAt i2
                       obtain ⟨s1, g1⟩ := HRN.out.stored i2 (.int .i64 (x + s))
                       rw [← List.map_set] at s1
                       have f1 := World.ownsRow.frozenAt s1 k2
                       have e1 : (w9.setCell ⟨gR, i2, none⟩ (.int .i64 (x + s))).cell? ⟨gR, k2, none⟩ = some (.int .i64 y) := (World.ownsRow.cellAt s1 k2 (by omega)).trans (by rw [List.getElem?_map, T4.out]; rfl)
                       have S1 := Lib.hid s1
                       have G1 := Lib.hid g1
                       have ew1 : IntKind.i64.wrap (x + s) = x + s := wrapI (by omega) (by omega)
                       have ew2 : IntKind.i64.wrap (y - s) = y - s := wrapI (by omega) (by omega)
                       have AP := Lib.hid (owns_apart HN.out HRN.out (by decide))
                       clear s1 g1
                       go_wp2_with fail
                       go_roundw
                       case rel =>
                         obtain ⟨s2, g2⟩ := World.ownsRow.stored S1.out k2 (.int .i64 (y - s))
                         rw [← List.map_set] at s2
                         exact ⟨c + 1, i2, k2, _, _, by go_num, by go_num, by omega, row_grew (row_grew HN.out G1.out (fun z hz e => AP.out z hz (by rw [e]; rfl))) g2 (fun z hz e => AP.out z hz (by rw [e]; rfl)), s2, T1.out, T2.out, T3.out, (hb9.setCell (by simp only []; omega) _).setCell (by simp only []; omega) _⟩
                       case measure => simp [lenF]; omega
                   · exfalso
                     have h1 := slip_next HOK.out (by rw [HSI.out]; omega)
                     obtain ⟨_, _, _, h2, _⟩ := h1
                     rw [← hS, skip_end (by rw [HLE.out]; omega)] at h2
                     omega
             · have HSI := Lib.hid (show skipP lessP l i = n by rw [← hS, skip_end (by rw [HLE.out]; omega)]; omega)
               have HZ := Lib.hid (fs_last HOK.out HE.out HSI.out)
               clear hS
               have hin : i2 = n := by omega
               go_wp2_with fail
               go_loop [10] (fun u => ∃ k2 : Nat, u = .int .i64 k2 ∧ k2 ≤ n) (fun u => n - (intOf u).toNat)
               case atStart => exact ⟨k, rfl, hkb⟩
               case round =>
                 obtain ⟨k2, rfl, hk2⟩ := hrel
                 by_cases hltk : k2 < n
                 · obtain ⟨y, hy⟩ : ∃ y, l[k2]? = some y := ⟨_, List.getElem?_eq_getElem (by have := HLE.out; omega)⟩
                   have d0 : wr.cell? ⟨gR, k2, none⟩ = some (.int .i64 y) := (HOR.out.cellAt k2 (by omega)).trans (by rw [List.getElem?_map, hy]; rfl)
                   clear hy
                   by_cases hy0 : y ≤ 0
                   · go_wp2_with fail
                     go_round
                     case rel => exact ⟨k2 + 1, by go_num, by omega⟩
                     case measure => simp [intOf]; omega
                   · have hie : ((i2 : Int) == (n : Int)) = true := by simp; omega
                     have HG := Lib.hid (show fsG xs ys = true by rw [fsG, H1T.out, decide_eq_true HSU.out, ← HFD.out, ← HZ.out, HZL.out, decide_eq_true hc20]; rfl)
                     have HV := Lib.hid (show fsV xs ys = zs by rw [fsV, HG.out, if_pos rfl, ← HFD.out, HZ.out])
                     go_wp2_with fail
                     go_ret2
                     exact ⟨VO, c, CO, by rw [HG.out]; rfl, by rw [HV.out]; exact HOO.out, by omega, hbr⟩
                 · have hie : ((i2 : Int) == (n : Int)) = true := by simp; omega
                   have HG := Lib.hid (show fsG xs ys = true by rw [fsG, H1T.out, decide_eq_true HSU.out, ← HFD.out, ← HZ.out, HZL.out, decide_eq_true hc20]; rfl)
                   have HV := Lib.hid (show fsV xs ys = zs by rw [fsV, HG.out, if_pos rfl, ← HFD.out, HZ.out])
                   go_wp2_with fail
                   go_ret2
                   exact ⟨VO, c, CO, by rw [HG.out]; rfl, by rw [HV.out]; exact HOO.out, by omega, hbr⟩
         · have HG := Lib.hid (show fsG xs ys = false by rw [fsG, ← HFD.out, decide_eq_false (show ¬ F.length ≤ 20 by rw [← HE.out, List.length_append, HZL.out]; omega)]; simp)
           have HV := Lib.hid (fs_no HG.out)
           go_wp2_with fail
           go_ret2
           exact ⟨none, 0, 0, by rw [HG.out]; rfl, by rw [HV.out]; exact World.ownsRow_nil _ _ _ _, by omega, hbr⟩
set_option maxRecDepth 100000 in
set_option maxHeartbeats 4000000 in
theorem findSlips_impl {A B : Option Addr} {n cp m cq : Nat} {xs ys : List Bx} {w : World} (hr : RBxs w w.heap.size A n xs) (hn0 : n ≤ 1048576) (hcp : n ≤ cp) (hL : ∀ b ∈ xs, b.code.size ≤ 1048576) (hs : RBxs w w.heap.size B m ys) (hm0 : m ≤ 1048576) (hcq : m ≤ cq) (hM : ∀ b ∈ ys, b.code.size ≤ 1048576) :
    Calls Try.prog 39 #[.slice A n cp, .slice B m cq] w fun e w' => ∃ V N C, e = .returned (.tuple #[.slice V N C, .bool (fsG xs ys)]) ∧ w'.ownsRow w.heap.size 106 3 (.slice V N C) N ((fsV xs ys).map Msp.row).flatten ∧ N ≤ 1048576 ∧ Below w.heap.size w w' := by
  cases h1 : twoB xs ys
  · have HG := Lib.hid (show fsG xs ys = false by rw [fsG, h1]; rfl)
    have HV := Lib.hid (fs_no HG.out)
    go_enter Try.func39, Try.ntmps39; go_wp2_with fail; refine (areAlike_any hr hs hn0 hm0 hcp hcq hL hM).mono ?_; rintro e1 w1 ⟨rfl, hb1⟩
    rw [h1]
    clear h1
    go_wp2_with fail
    go_ret2
    exact ⟨some ⟨w1.heap.size, 0, none⟩, 0, 0, by rw [HG.out]; rfl, by rw [HV.out]; exact row_emptyF w1 w.heap.size hb1.size, by omega, hb1.alloc hb1.size _⟩
  obtain ⟨g1, g2, g3, g4⟩ := twoB_true h1
  have hnm : n = m := by have := hr.len; have := hs.len; omega
  subst hnm
  have HX := Lib.hid (count_bd g1)
  have HY := Lib.hid (count_bd g2)
  have hn32 : n ≤ 32 := by have := (caseB_true g1).1; have := hr.len; omega
  have hn1 : 0 < n := by have := (caseB_true g1).1; have := hr.len; omega
  have HL := Lib.hid hr.len
  have HM := Lib.hid hs.len
  have HG3 := Lib.hid g3
  clear g1 g2 g3 g4
  have HSB := Lib.hid (subL_bd HX.out HY.out)
  by_cases h2 : sumB xs ≠ sumB ys
  · have HG := Lib.hid (show fsG xs ys = false by rw [fsG, decide_eq_false h2]; simp)
    have HV := Lib.hid (fs_no HG.out)
    have h3 : sumB ys - sumB xs ≠ 0 := by omega
    have e2 := (ne_t h3).1
    have e3 := (ne_t h3).2
    go_enter Try.func39, Try.ntmps39; go_wp2_with fail; refine (areAlike_any hr hs hn0 hm0 hcp hcq hL hM).mono ?_; rintro e1 w1 ⟨rfl, hb1⟩; rw [h1]; go_wp2_with fail; refine (difference_any ((RBxs.below hr hb1).more hb1.size) ((RBxs.below hs hb1).more hb1.size) hn0 HX.out HY.out).mono ?_; rintro e1 w2 ⟨VD, CD, rfl, hoD, hn⟩; replace hb1 := hb1.trans (hn.mono hb1.size); clear hn; have hrD := own_rints hoD; clear hoD; go_wp2_with fail; refine (sumD_any hrD hn0 HSB.out).mono ?_; rw [subL_sum HG3.out]; rintro e1 w3 ⟨rfl, hw3⟩; subst hw3
    clear hrD
    go_wp2_with fail
    go_ret2
    exact ⟨some ⟨w2.heap.size, 0, none⟩, 0, 0, by rw [HG.out]; rfl, by rw [HV.out]; exact row_emptyF w2 w.heap.size hb1.size, by omega, hb1.alloc hb1.size _⟩
  · replace h2 := Decidable.of_not_not h2
    have h3 : sumB ys - sumB xs = 0 := by omega
    have e2 := (ne_f h3).1
    have e3 := (ne_f h3).2
    have HST := Lib.hid (fs_start h1 h2 HL.out)
    have H1T := Lib.hid h1
    have HSU := Lib.hid h2
    obtain ⟨F, hF⟩ : ∃ F, F = fsF xs ys := ⟨_, rfl⟩
    have HFD := Lib.hid hF
    have HF := Lib.hid (show [] ++ (slipF (fsP - 0) (subL xs ys) 0 0).map (mkS xs) = F by rw [hF, fsF]; rfl)
    clear hF
    obtain ⟨bA, oA, _, eA0, hbA, _⟩ := RBxs.at_ hr hn1
    subst eA0
    have HB := Lib.hid hr
    obtain ⟨i0, hi, hz0, hz1, hz2⟩ := info_parts info3
    obtain ⟨j0, hj, hy0_, hy1_, hy2_⟩ := info_parts infoMisput
    go_enter Try.func39, Try.ntmps39; go_wp2_with fail; refine (areAlike_any hr hs hn0 hm0 hcp hcq hL hM).mono ?_; rintro e1 w1 ⟨rfl, hb1⟩; rw [h1]; go_wp2_with fail; refine (difference_any ((RBxs.below hr hb1).more hb1.size) ((RBxs.below hs hb1).more hb1.size) hn0 HX.out HY.out).mono ?_; rintro e1 w2 ⟨VD, CD, rfl, hoD, hn⟩; replace hb1 := hb1.trans (hn.mono hb1.size); clear hn; have hrD := own_rints hoD; clear hoD; go_wp2_with fail; refine (sumD_any hrD hn0 HSB.out).mono ?_; rw [subL_sum HG3.out]; rintro e1 w3 ⟨rfl, hw3⟩; subst hw3
    clear h1 h2 hrD
    rw [h3]
    clear h3 e2 e3
    go_wp2_with fail
    refine (difference_any ((RBxs.below hr hb1).more hb1.size) ((RBxs.below hs hb1).more hb1.size) hn0 HX.out HY.out).mono ?_
    rintro e1 w4 ⟨VR, CR, rfl, ho0, hn⟩
    have hO1 := own_lower ho0 hb1.size
    replace hb1 := hb1.trans (hn.mono hb1.size)
    clear hn ho0
    obtain ⟨gR, CR2, eR, hgl, hgs⟩ := World.ownsRow.form hO1 hn1
    injection eR with eR1 _ eR2
    subst eR1 eR2
    have HR0 := Lib.hid (show Own (w4.alloc (.cells #[] 106)) w.heap.size _ n (subL xs ys) from row_alloc hO1 _)
    have hba := hb1.alloc hb1.size (.cells #[] 106)
    have hO0 := row_emptyF w4 w.heap.size hb1.size
    clear hO1 hr hs
    go_wp2_with fail
    go_loopw [7, 8, 9] (fun v8 v9 v10 wr => ∃ (c i k : Nat) (l : List Int) (zs : List Msp), v9 = .int .i64 i ∧ v10 = .int .i64 k ∧ c ≤ fsP ∧ wr.ownsRow w.heap.size 106 3 v8 c (zs.map Msp.row).flatten ∧ Own wr w.heap.size (.slice (some ⟨gR, 0, none⟩) n CR) n l ∧ SlipOk n l i k ∧ posS l + (c : Int) ≤ fsP ∧ zs ++ (slipF (fsP - c) l i k).map (mkS xs) = F ∧ Below w.heap.size w wr) (fun v8 _ _ _ => (fsP + 1) - lenF v8)
    case atStart => exact ⟨0, 0, 0, subL xs ys, [], rfl, rfl, Nat.zero_le _, hO0, HR0.out, HST.out.1, HST.out.2, HF.out, hba⟩
    case round =>
      clear hO0 hba
      obtain ⟨c, i, k, l, zs, rfl, rfl, hc, hoO, hoR, hok, hps, hE, hbr⟩ := hrel
      obtain ⟨VO, CO, rfl⟩ := own_slice hoO
      have HE := Lib.hid hE
      have HOK := Lib.hid hok
      have HPS := Lib.hid hps
      have HZL := Lib.hid (slipLen hoO)
      have HLE := Lib.hid hok.len
      have HOO := Lib.hid hoO
      have HOR := Lib.hid hoR
      have hib := hok.hi
      have hkb := hok.hk
      have hsz := hbr.size
      clear hE hok hps hoO hoR
      go_wp2_with fail
      go_loop [8] (fun u => ∃ i2 : Nat, u = .int .i64 i2 ∧ i2 ≤ n ∧ skipP lessP l i2 = skipP lessP l i) (fun u => n - (intOf u).toNat)
      case atStart => exact ⟨i, rfl, hib, rfl⟩
      case round =>
        obtain ⟨i2, rfl, hi2, hS⟩ := hrel
        by_cases hlt : i2 < n
        · obtain ⟨x, hx⟩ : ∃ x, l[i2]? = some x := ⟨_, List.getElem?_eq_getElem (by have := HLE.out; omega)⟩
          have c0 : wr.cell? ⟨gR, i2, none⟩ = some (.int .i64 x) := (HOR.out.cellAt i2 (by omega)).trans (by rw [List.getElem?_map, hx]; rfl)
          by_cases hx0 : 0 ≤ x
          · have HS := Lib.hid ((skip_go hx (by simp [lessP, hx0])).trans hS)
            clear hS hx
            go_wp2_with fail
            go_round
            case rel => exact ⟨i2 + 1, by go_num, by omega, HS.out⟩
            case measure => simp [intOf]; omega
          · have HSI := Lib.hid (show skipP lessP l i = i2 from hS.symm.trans (skip_stop hx (by simp [lessP]; omega)))
            have HX := Lib.hid hx
            clear hS hx
            go_wp2_with fail
            clear c0
            go_loop [9] (fun u => ∃ k2 : Nat, u = .int .i64 k2 ∧ k2 ≤ n ∧ skipP moreP l k2 = skipP moreP l k) (fun u => n - (intOf u).toNat)
            case atStart => exact ⟨k, rfl, hkb, rfl⟩
            case round =>
              obtain ⟨k2, rfl, hk2, hS⟩ := hrel
              by_cases hltk : k2 < n
              · obtain ⟨y, hy⟩ : ∃ y, l[k2]? = some y := ⟨_, List.getElem?_eq_getElem (by have := HLE.out; omega)⟩
                have d0 : wr.cell? ⟨gR, k2, none⟩ = some (.int .i64 y) := (HOR.out.cellAt k2 (by omega)).trans (by rw [List.getElem?_map, hy]; rfl)
                by_cases hy0 : y ≤ 0
                · have HS := Lib.hid ((skip_go hy (by simp [moreP, hy0])).trans hS)
                  clear hS hy
                  go_wp2_with fail
                  go_round
                  case rel => exact ⟨k2 + 1, by go_num, by omega, HS.out⟩
                  case measure => simp [intOf]; omega
                · have HSK := Lib.hid (show skipP moreP l k = k2 from hS.symm.trans (skip_stop hy (by simp [moreP]; omega)))
                  have HY := Lib.hid hy
                  clear hS hy
                  obtain ⟨s, hs⟩ : ∃ s, stepN x y = s := ⟨_, rfl⟩
                  obtain ⟨p, hp⟩ : ∃ p, xs[i2]? = some p := ⟨_, List.getElem?_eq_getElem (by have := HL.out; omega)⟩
                  obtain ⟨q, hq⟩ : ∃ q, xs[k2]? = some q := ⟨_, List.getElem?_eq_getElem (by have := HL.out; omega)⟩
                  obtain ⟨t1, t2, t3, t4, t5, t6⟩ := fs_step HOK.out HPS.out HE.out HSI.out HSK.out hlt hltk HX.out HY.out (by omega) (by omega) hs hp hq
                  have hxb := HOK.out.bd i2 x HX.out
                  have hyb := HOK.out.bd k2 y HY.out
                  have T1 := Lib.hid t1
                  have T2 := Lib.hid t2
                  have T3 := Lib.hid t3
                  have T4 := Lib.hid t4
                  have T6 := Lib.hid t6
                  have HP := Lib.hid hp
                  have HQ := Lib.hid hq
                  have HSN := Lib.hid hs
                  have hpp := posS_nn ((l.set i2 (x + s)).set k2 (y - s))
                  have hcP : c + 1 ≤ fsP := by omega
                  clear t1 t2 t3 t4 t6 hp hq hs hpp
                  have l0 : (0 : Int) ≤ (i2 : Int) := by omega
                  have l1 : (i2 : Int) < (n : Int) := by omega
                  have l2 : (0 : Int) ≤ (k2 : Int) := by omega
                  have l3 : (k2 : Int) < (n : Int) := by omega
                  have ew : IntKind.i64.wrap (-x) = -x := wrapI (by omega) (by omega)
                  have c0 : wr.cell? ⟨gR, i2, none⟩ = some (.int .i64 x) := (HOR.out.cellAt i2 (by omega)).trans (by rw [List.getElem?_map, HX.out]; rfl)
                  have hgR := HOR.out.lt gR rfl
                  have hm1 : (if y < -x then y else -x) = min (-x) y := by split <;> omega
                  have hm2 : (if (99 : Int) < min (-x) y then 99 else min (-x) y) = s := by rw [← HSN.out]; unfold stepN; split <;> omega
                  go_wp2_with fail
                  go_region
                  clear c0 d0 hm1 hm2 ew
                  generalize hwx : wr.drew = wx
                  have hbx : Below w.heap.size w wx := by rw [← hwx]; exact hbr.drew
                  have HRX := Lib.hid (show Own wx w.heap.size (.slice (some ⟨gR, 0, none⟩) n CR) n l by rw [← hwx]; exact HOR.out)
                  have HOX := Lib.hid (show wx.ownsRow w.heap.size 106 3 (.slice VO c CO) c (zs.map Msp.row).flatten by rw [← hwx]; exact HOO.out)
                  clear hwx
                  have e0 : wx.cell? ⟨gR, i2, none⟩ = some (.int .i64 x) := (HRX.out.cellAt i2 (by omega)).trans (by rw [List.getElem?_map, HX.out]; rfl)
                  have f0 := HRX.out.frozenAt i2
                  obtain ⟨s1, g1⟩ := HRX.out.stored i2 (.int .i64 (x + s))
                  rw [← List.map_set] at s1
                  have f1 := World.ownsRow.frozenAt s1 k2
                  have e1 : (wx.setCell ⟨gR, i2, none⟩ (.int .i64 (x + s))).cell? ⟨gR, k2, none⟩ = some (.int .i64 y) := (World.ownsRow.cellAt s1 k2 (by omega)).trans (by rw [List.getElem?_map, T4.out]; rfl)
                  have S1 := Lib.hid s1
                  have G1 := Lib.hid g1
                  have ew1 : IntKind.i64.wrap (x + s) = x + s := wrapI (by omega) (by omega)
                  have ew2 : IntKind.i64.wrap (y - s) = y - s := wrapI (by omega) (by omega)
                  have AP := Lib.hid (owns_apart HOX.out HRX.out (by decide))
                  clear s1 g1
                  obtain ⟨s2, g2⟩ := World.ownsRow.stored S1.out k2 (.int .i64 (y - s))
                  rw [← List.map_set] at s2
                  have HRZ := Lib.hid s2
                  have HOZ := Lib.hid (row_grew (row_grew HOX.out G1.out (fun z hz e => AP.out z hz (by rw [e]; rfl))) g2 (fun z hz e => AP.out z hz (by rw [e]; rfl)))
                  have hbz := (hbx.setCell (p := ⟨gR, i2, none⟩) (by simp only []; omega) (.int .i64 (x + s))).setCell (p := ⟨gR, k2, none⟩) (by simp only []; omega) (.int .i64 (y - s))
                  clear s2 g2
                  obtain ⟨bb, off, p2, eA, _, _, hp2, u0, _, _, _⟩ := RBxs.at_ (RBxs.below HB.out hbz) hlt
                  obtain ⟨bb2, off2, q2, eB, _, _, hq2, v0, _, _, _⟩ := RBxs.at_ (RBxs.below HB.out hbz) hltk
                  injection eA with eA
                  injection eA with ea1 ea2
                  injection eB with eB
                  injection eB with eb1 eb2
                  subst ea1 ea2 eb1 eb2
                  rw [HP.out] at hp2
                  injection hp2 with hp2
                  rw [HQ.out] at hq2
                  injection hq2 with hq2
                  subst hp2 hq2
                  have hS0 : ((wx.setCell ⟨gR, i2, none⟩ (.int .i64 (x + s))).setCell ⟨gR, k2, none⟩ (.int .i64 (y - s))).cell? ⟨bA, oA + i2 * 4, none⟩ = some (.string p.code) ∧ ((wx.setCell ⟨gR, i2, none⟩ (.int .i64 (x + s))).setCell ⟨gR, k2, none⟩ (.int .i64 (y - s))).cell? ⟨bA, oA + k2 * 4, none⟩ = some (.string q.code) := ⟨u0, v0⟩
                  have hszx : w.heap.size ≤ ((wx.setCell ⟨gR, i2, none⟩ (.int .i64 (x + s))).setCell ⟨gR, k2, none⟩ (.int .i64 (y - s))).heap.size := hbz.size
                  simp only [World.size_setCell] at hszx
                  have HAP := Lib.hid (owns_apart HRZ.out HOZ.out (by decide))
                  clear u0 v0
                  go_wp2_with fail
                  clear e0 f0 e1 f1
                  go_region_held3 (fun wq => wq.cell? ⟨bA, oA + i2 * 4, none⟩ = some (.string p.code) ∧ wq.cell? ⟨bA, oA + k2 * 4, none⟩ = some (.string q.code)) ((first | exact hS0 | (refine ⟨(World.cell?_alloc_lt _ _ _ ?_).trans hS0.1, (World.cell?_alloc_lt _ _ _ ?_).trans hS0.2⟩ <;> (simp <;> omega)) | exact hS9 | assumption | go_keep)) (first
                    | (refine step_append_lies ((((wx.setCell ⟨gR, i2, none⟩ (.int .i64 (x + s))).setCell ⟨gR, k2, none⟩ (.int .i64 (y - s))).alloc (.cells #[.string p.code, .string q.code, .int .i64 s] 106)).drew) rfl (.tmp 81) (.tmp 94) 56 rfl w.heap.size 106 j0 (.agg #[.string ⟨#[]⟩, .string ⟨#[]⟩, .int .i64 0]) 3 40 Try.underlying56 hj hy0_ hy1_ hy2_ rfl (by decide) (.slice VO c CO) c _ (by simp [Act.eval, Act.put]) (row_adF HOZ.out _) ⟨wx.heap.size, 0, none⟩ 1 1 [.string p.code, .string q.code, .int .i64 s] (by simp [Act.eval, Act.put]) rfl (new_cellsF (by simp)) (by intro u hu; simp at hu; rcases hu with rfl | rfl | rfl <;> rfl) (by omega) (by unfold maxLen; unfold fsP at hcP; omega) (by unfold fsP at hcP; omega) (by simp <;> omega) _ rfl ?_; intro g9 cap9 w9 hown9 hgr9 _ _; have hkb9 : Below w.heap.size _ w9 := grown_below hgr9 (by simp <;> omega) (fun z hz => (HOZ.out.lt z hz).1); have hS9 : w9.cell? ⟨bA, oA + i2 * 4, none⟩ = some (.string p.code) ∧ w9.cell? ⟨bA, oA + k2 * 4, none⟩ = some (.string q.code) := ⟨(hkb9.cell (p := ⟨bA, oA + i2 * 4, none⟩) hbA).trans ((cell_adF _ _ (by simp <;> omega)).trans hS0.1), (hkb9.cell (p := ⟨bA, oA + k2 * 4, none⟩) hbA).trans ((cell_adF _ _ (by simp <;> omega)).trans hS0.2)⟩; have HRN := Lib.hid (kept_of_apart (row_adF HRZ.out _) hgr9 HAP.out); have HN := Lib.hid (slip_app (x := ⟨p.code, q.code, s⟩) hown9); clear hown9 hgr9))
                  have hb9 := ((hbz.drew).alloc (by simp <;> omega) _).trans hkb9
                  clear hS0 hkb9
                  go_wp2_with fail
                  go_roundw
                  case rel => exact ⟨c + 1, i2, k2, _, _, by go_num, by go_num, by omega, HN.out, HRN.out, T1.out, T2.out, T3.out, hb9⟩
                  case measure => simp [lenF]; omega
              · exfalso
                have h1 := slip_next HOK.out (by rw [HSI.out]; omega)
                obtain ⟨_, _, _, h2, _⟩ := h1
                rw [← hS, skip_end (by rw [HLE.out]; omega)] at h2
                omega
        · have HSI := Lib.hid (show skipP lessP l i = n by rw [← hS, skip_end (by rw [HLE.out]; omega)]; omega)
          have HZ := Lib.hid (fs_last HOK.out HE.out HSI.out)
          clear hS
          have hin : i2 = n := by omega
          go_wp2_with fail
          go_loop [9] (fun u => ∃ k2 : Nat, u = .int .i64 k2 ∧ k2 ≤ n) (fun u => n - (intOf u).toNat)
          case atStart => exact ⟨k, rfl, hkb⟩
          case round =>
            obtain ⟨k2, rfl, hk2⟩ := hrel
            by_cases hltk : k2 < n
            · obtain ⟨y, hy⟩ : ∃ y, l[k2]? = some y := ⟨_, List.getElem?_eq_getElem (by have := HLE.out; omega)⟩
              have d0 : wr.cell? ⟨gR, k2, none⟩ = some (.int .i64 y) := (HOR.out.cellAt k2 (by omega)).trans (by rw [List.getElem?_map, hy]; rfl)
              clear hy
              by_cases hy0 : y ≤ 0
              · go_wp2_with fail
                go_round
                case rel => exact ⟨k2 + 1, by go_num, by omega⟩
                case measure => simp [intOf]; omega
              · have hie : ((i2 : Int) == (n : Int)) = true := by simp; omega
                by_cases hc20 : c ≤ 20
                · have HG := Lib.hid (show fsG xs ys = true by rw [fsG, H1T.out, decide_eq_true HSU.out, ← HFD.out, ← HZ.out, HZL.out, decide_eq_true hc20]; rfl)
                  have HV := Lib.hid (show fsV xs ys = zs by rw [fsV, HG.out, if_pos rfl, ← HFD.out, HZ.out])
                  go_wp2_with fail
                  go_ret2
                  exact ⟨VO, c, CO, by rw [HG.out]; rfl, by rw [HV.out]; exact HOO.out, by unfold fsP at hc; omega, hbr⟩
                · have HG := Lib.hid (show fsG xs ys = false by rw [fsG, ← HFD.out, decide_eq_false (show ¬ F.length ≤ 20 by rw [← HZ.out, HZL.out]; exact hc20)]; simp)
                  have HV := Lib.hid (fs_no HG.out)
                  go_wp2_with fail
                  go_ret2
                  exact ⟨some ⟨wr.heap.size, 0, none⟩, 0, 0, by rw [HG.out]; rfl, by rw [HV.out]; exact row_emptyF wr w.heap.size hsz, by omega, hbr.alloc hsz _⟩
            · have hie : ((i2 : Int) == (n : Int)) = true := by simp; omega
              by_cases hc20 : c ≤ 20
              · have HG := Lib.hid (show fsG xs ys = true by rw [fsG, H1T.out, decide_eq_true HSU.out, ← HFD.out, ← HZ.out, HZL.out, decide_eq_true hc20]; rfl)
                have HV := Lib.hid (show fsV xs ys = zs by rw [fsV, HG.out, if_pos rfl, ← HFD.out, HZ.out])
                go_wp2_with fail
                go_ret2
                exact ⟨VO, c, CO, by rw [HG.out]; rfl, by rw [HV.out]; exact HOO.out, by unfold fsP at hc; omega, hbr⟩
              · have HG := Lib.hid (show fsG xs ys = false by rw [fsG, ← HFD.out, decide_eq_false (show ¬ F.length ≤ 20 by rw [← HZ.out, HZL.out]; exact hc20)]; simp)
                have HV := Lib.hid (fs_no HG.out)
                go_wp2_with fail
                go_ret2
                exact ⟨some ⟨wr.heap.size, 0, none⟩, 0, 0, by rw [HG.out]; rfl, by rw [HV.out]; exact row_emptyF wr w.heap.size hsz, by omega, hbr.alloc hsz _⟩
end Go.Proofs.Ytjcopempjanhhaa
