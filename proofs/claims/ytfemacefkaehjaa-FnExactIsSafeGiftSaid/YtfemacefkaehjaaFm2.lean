/-
  Contracts of the laws' own helpers on slices of forms: copy, size, comparison.
-/
import Derived.Test.YtfemacefkaehjaaFm
namespace Go.Proofs.Ytfemacefkaehjaa
open Go.RowKit
theorem infoForm : (Try.prog.info? 40).map (fun i => (i.zero, i.size, i.bytes)) = some (some (.agg #[.slice none 0 0, .slice none 0 0]), 2, 48) := by kernel_rfl
theorem flat_rows (ys : List FV) : (ys.map FV.row).flatten.length = ys.length * 2 := by rw [flatten_len (size := 2) (by simp [FV.row]), List.length_map]
theorem toFormS_any (A : Option Addr) (n c B : Nat) (xs : List FV) (w : World) (hr : RForms w B A n xs) (hB : B ≤ w.heap.size) (hn : n ≤ 1048576) (hL : ∀ x ∈ xs, x.f.held.length ≤ 1048576 ∧ x.f.wanted.length ≤ 1048576) :
    Calls Try.prog 8 #[.slice A n c] w fun e w' => ∃ g ys, e = .returned (.slice (some ⟨g, 0, none⟩) n n) ∧ w.heap.size ≤ g ∧ ys.map FV.f = xs.map FV.f ∧ Blk w' g 40 (ys.map FV.row).flatten ∧ OIn w' (g + 1) ys ∧ Below w.heap.size w w' := by
  obtain ⟨i, hi, hz, hs, hby⟩ := info_parts infoForm
  have hmk := fun W : World => run_make (P := Try.prog) W 25 40 i _ Try.underlying25 hi hz .i64 .i64 n n (by omega) (by omega) (by rw [hby]; omega) (by omega)
  simp only [Int.toNat_natCast, hs] at hmk
  have HL := Lib.hid hr.len
  have HX := Lib.hid hL
  clear hi hz hs hby hL
  go_enter Try.func8, Try.ntmps8
  go_wp2
  go_loopw [4] (fun i wr => ∃ (k : Nat) (cs : List Value) (ys : List FV), k ≤ n ∧ i = .int .i64 k ∧ Blk wr w.heap.size 40 cs ∧ cs.length = n * 2 ∧ ys.map FV.f = (xs.take k).map FV.f ∧ cs.take (k * 2) = (ys.map FV.row).flatten ∧ OIn wr (w.heap.size + 1) ys ∧ Below w.heap.size w wr) (fun i _ => n - (intOf i).toNat)
  case atStart =>
    refine ⟨0, _, [], Nat.zero_le _, rfl, Blk.new' _ _ _, ?_, by simp, by simp, OIn.nil _ _, (by (repeat (first | exact Below.refl _ _ | exact hb | apply Below.drew | (refine Below.alloc ?_ (by first | (simp; done) | (simp; omega) | (have := hb.size; simp at this ⊢; omega)) _) | (refine Below.setCell ?_ (by simp) _))))⟩
    simp [size_madeCells]
  case round =>
    obtain ⟨k, cs, ys, hk, rfl, hblk, hlen, hmap, htk, hoin, hb⟩ := hrel
    have HLn := Lib.hid hlen
    have HTK := Lib.hid htk; clear htk
    have HMP := Lib.hid hmap; clear hmap
    by_cases hlt : k < n
    · obtain ⟨b, off, x, rfl, _, hd, hy, c0, c1, hin⟩ := RForms.at_ ((hr.more hB).below hb) hlt
      have hyl : ys.length = k := by have := congrArg List.length HMP.out; simp at this; have := HL.out; omega
      have HYL := Lib.hid hyl; clear hyl
      have hx := HX.out x (List.mem_of_getElem? hy)
      have HY := Lib.hid hy
      have HD := Lib.hid hd
      clear hy hd
      have hl0 := hblk.lt
      go_wp2_with fail
      refine (toForm_any x w.heap.size _ hin (by omega) hx.1 hx.2).mono ?_
      rintro e1 w1 ⟨g1, g2, rfl, hg1, hgg, hk1, hk2, hn1⟩
      have hs1 : OIn w1 (w.heap.size + 1) (ys ++ [⟨some ⟨g1, 0, none⟩, x.f.held.length, some ⟨g2, 0, none⟩, x.f.wanted.length, x.f⟩]) :=
        hoin.snoc hn1 (hk1.row (size := 1) (by simp) (Nat.le_trans hx.1 (by unfold maxLen; omega)) hg1) (hk2.row (size := 1) (by simp) (Nat.le_trans hx.2 (by unfold maxLen; omega)) (by omega)) (by intro k hk hk'; injection hk with hk; injection hk' with hk'; simp at hk hk'; omega) (by omega)
      replace hb := hb.trans (hn1.mono hb.size)
      replace hblk := hblk.below hn1 hblk.lt
      clear hn1 c0 c1 hoin hk1 hk2 hin
      obtain ⟨z0, d0⟩ : ∃ z, w1.cell? ⟨w.heap.size, k * 2, none⟩ = some z := ⟨_, (hblk.cell _).trans (List.getElem?_eq_getElem (by have := HLn.out; omega))⟩
      obtain ⟨z1, d1⟩ : ∃ z, w1.cell? ⟨w.heap.size, k * 2 + 1, none⟩ = some z := ⟨_, (hblk.cell _).trans (List.getElem?_eq_getElem (by have := HLn.out; omega))⟩
      have y0 := hblk.frozen (k * 2)
      have y1 := hblk.frozen (k * 2 + 1)
      have HS := Lib.hid hs1
      clear hs1 hlen
      go_wp2_with fail
      go_roundw
      case rel =>
        refine ⟨k + 1, _, ys ++ [⟨some ⟨g1, 0, none⟩, x.f.held.length, some ⟨g2, 0, none⟩, x.f.wanted.length, x.f⟩], by omega, by go_num, (hblk.set_ _ _).set_ _ _, by simp only [List.length_set]; exact HLn.out, ?_, ?_, ((HS.out).low (by simp) _).low (by simp) _, (hb.setCell (by simp) _).setCell (by simp) _⟩
        · rw [List.map_append, HMP.out, List.take_add_one, HY.out, List.map_append]; rfl
        · have hl := HLn.out
          have hyl := HYL.out
          have hF : ((ys ++ [(⟨some ⟨g1, 0, none⟩, x.f.held.length, some ⟨g2, 0, none⟩, x.f.wanted.length, x.f⟩ : FV)]).map FV.row).flatten = (ys.map FV.row).flatten ++ [.slice (some ⟨g1, 0, none⟩) x.f.held.length x.f.held.length, .slice (some ⟨g2, 0, none⟩) x.f.wanted.length x.f.wanted.length] := by simp [FV.row]
          have hfl := flat_rows ys
          rw [hF, show (k + 1) * 2 = k * 2 + 1 + 1 by omega]
          have h2 := fill_step (F := (ys.map FV.row).flatten ++ [.slice (some ⟨g1, 0, none⟩) x.f.held.length x.f.held.length, .slice (some ⟨g2, 0, none⟩) x.f.wanted.length x.f.wanted.length]) (fill_step (k := k * 2) (v := .slice (some ⟨g1, 0, none⟩) x.f.held.length x.f.held.length) (by rw [HTK.out, List.take_append_of_le_length (by omega), List.take_of_length_le (by omega)]) (by omega) (by rw [List.getElem?_append_right (by omega)]; simp [hfl, hyl])) (v := .slice (some ⟨g2, 0, none⟩) x.f.wanted.length x.f.wanted.length) (by simp only [List.length_set]; omega) (by rw [List.getElem?_append_right (by omega), hfl, hyl, show k * 2 + 1 - k * 2 = 1 by omega]; rfl)
          rw [List.take_of_length_le (l := (ys.map FV.row).flatten ++ _) (by rw [List.length_append, hfl]; simp only [List.length_cons, List.length_nil]; omega)] at h2
          exact h2
      case measure => simp [intOf]; omega
    · go_wp2_with fail
      go_ret
      have hkn : k = n := by omega
      refine ⟨_, ys, rfl, Nat.le_refl _, ?_, ?_, hoin, hb⟩
      · rw [HMP.out, List.take_of_length_le (by have := HL.out; omega)]
      · have h1 := HTK.out
        rw [List.take_of_length_le (by rw [HLn.out]; omega)] at h1
        rw [← h1]
        exact hblk
theorem eqForm_any {a1 a2 b1 b2 : Option Addr} {c1 c2 d1 d2 : Nat} {f : Frm} {w : World} (h1 : RInts w w.heap.size a1 f.held.length f.held) (h2 : RInts w w.heap.size a2 f.wanted.length f.wanted) (h3 : RInts w w.heap.size b1 f.held.length f.held) (h4 : RInts w w.heap.size b2 f.wanted.length f.wanted) (hl1 : f.held.length ≤ 1048576) (hl2 : f.wanted.length ≤ 1048576) :
    Calls Try.prog 25 #[.agg #[.slice a1 f.held.length c1, .slice a2 f.wanted.length c2], .agg #[.slice b1 f.held.length d1, .slice b2 f.wanted.length d2]] w fun e w' => e = .returned (.bool true) ∧ Below w.heap.size w w' := by
  have up : ∀ {A : Option Addr} {zs : List Int}, RInts w w.heap.size A zs.length zs → RInts ((w.alloc (.cells #[.slice a1 f.held.length c1, .slice a2 f.wanted.length c2] 40)).alloc (.cells #[.slice b1 f.held.length d1, .slice b2 f.wanted.length d2] 40)) w.heap.size A zs.length zs := fun h => (Reads.alloc h (Nat.le_refl _) _).alloc (by simp) _
  have i1 := up h1
  have i2 := up h2
  have i3 := up h3
  have i4 := up h4
  have hx := (Blk.new' w 40 #[.slice a1 f.held.length c1, .slice a2 f.wanted.length c2]).alloc (.cells #[.slice b1 f.held.length d1, .slice b2 f.wanted.length d2] 40)
  have hy : Blk ((w.alloc (.cells #[.slice a1 f.held.length c1, .slice a2 f.wanted.length c2] 40)).alloc (.cells #[.slice b1 f.held.length d1, .slice b2 f.wanted.length d2] 40)) (w.heap.size + 1) 40 [.slice b1 f.held.length d1, .slice b2 f.wanted.length d2] := by simpa using Blk.new' (w.alloc (.cells #[.slice a1 f.held.length c1, .slice a2 f.wanted.length c2] 40)) 40 #[.slice b1 f.held.length d1, .slice b2 f.wanted.length d2]
  have hb : Below w.heap.size w ((w.alloc (.cells #[.slice a1 f.held.length c1, .slice a2 f.wanted.length c2] 40)).alloc (.cells #[.slice b1 f.held.length d1, .slice b2 f.wanted.length d2] 40)) := (by (repeat (first | exact Below.refl _ _ | exact hb | apply Below.drew | (refine Below.alloc ?_ (by first | (simp; done) | (simp; omega) | (have := hb.size; simp at this ⊢; omega)) _) | (refine Below.setCell ?_ (by simp) _))))
  clear up
  go_enter Try.func25, Try.ntmps25
  go_wp2_with fail
  refine (eqIntS_same i1 i3 (by simp <;> omega) (by simp <;> omega) hl1).mono ?_
  rintro e1 w1 ⟨rfl, hn⟩
  replace i2 := RInts.below i2 (hn.mono (by simp <;> omega))
  replace i4 := RInts.below i4 (hn.mono (by simp <;> omega))
  replace hx := hx.below hn hx.lt
  replace hy := hy.below hn hy.lt
  replace hb := hb.trans (hn.mono hb.size)
  clear hn i1 i3
  have c1 : _ = some (.slice a2 f.wanted.length c2 : Value) := hx.cell 1
  have d1 : _ = some (.slice b2 f.wanted.length d2 : Value) := hy.cell 1
  go_wp2_with fail
  refine (eqIntS_same i2 i4 hb.size hb.size hl2).mono ?_
  rintro e1 w2 ⟨rfl, hn⟩
  replace hb := hb.trans (hn.mono hb.size)
  clear c1 d1 hn
  go_wp2_with fail
  go_ret
  exact ⟨rfl, hb⟩
theorem map_f_at {xs ys : List FV} {k : Nat} {x y : FV} (h : xs.map FV.f = ys.map FV.f) (hx : xs[k]? = some x) (hy : ys[k]? = some y) : x.f = y.f := by
  have h1 : (xs.map FV.f)[k]? = some x.f := by rw [List.getElem?_map, hx]; rfl
  rw [h, List.getElem?_map, hy] at h1
  injection h1 with h1
  exact h1.symm
theorem eqFormS_any {A A' : Option Addr} {n c d B C : Nat} {xs ys : List FV} {w : World} (hr0 : RForms w B A n xs) (hs0 : RForms w C A' n ys) (hB : B ≤ w.heap.size) (hC : C ≤ w.heap.size) (hm : xs.map FV.f = ys.map FV.f) (hn : n ≤ 1048576) (hL : ∀ x ∈ xs, x.f.held.length ≤ 1048576 ∧ x.f.wanted.length ≤ 1048576) :
    Calls Try.prog 11 #[.slice A n c, .slice A' n d] w fun e w' => e = .returned (.bool true) ∧ Below w.heap.size w w' := by
  have hr := hr0.more hB
  have hs := hs0.more hC
  have HX := Lib.hid hL
  have HM := Lib.hid hm
  clear hr0 hs0 hB hC hL hm
  go_enter Try.func11, Try.ntmps11
  go_wp2
  go_loopw [5] (fun i wr => ∃ k : Nat, k ≤ n ∧ i = .int .i64 k ∧ Below w.heap.size w wr) (fun i _ => n - (intOf i).toNat)
  case atStart => exact ⟨0, Nat.zero_le _, rfl, Below.refl _ _⟩
  case round =>
    obtain ⟨k, hk, rfl, hb⟩ := hrel
    by_cases hlt : k < n
    · obtain ⟨b1, o1, x, rfl, hb1, _, hx, e0, e1, i1⟩ := RForms.at_ hr hlt
      obtain ⟨b2, o2, y, rfl, hb2, _, hy, e2, e3, i2⟩ := RForms.at_ hs hlt
      have hf : x.f = y.f := map_f_at HM.out hx hy
      have hl := HX.out x (List.mem_of_getElem? hx)
      rw [← hf] at e2 e3
      have hcells : ∀ wx, Below w.heap.size w wx → wx.cell? ⟨b1, o1 + k * 2, none⟩ = some (.slice x.a1 x.f.held.length x.c1) ∧ wx.cell? ⟨b1, o1 + k * 2 + 1, none⟩ = some (.slice x.a2 x.f.wanted.length x.c2) ∧ wx.cell? ⟨b2, o2 + k * 2, none⟩ = some (.slice y.a1 x.f.held.length y.c1) ∧ wx.cell? ⟨b2, o2 + k * 2 + 1, none⟩ = some (.slice y.a2 x.f.wanted.length y.c2) := fun wx h => ⟨(h.cell hb1).trans e0, (h.cell hb1).trans e1, (h.cell hb2).trans e2, (h.cell hb2).trans e3⟩
      have HC := Lib.hid hcells
      have hi3 : RInts w w.heap.size y.a1 x.f.held.length x.f.held := by rw [hf]; exact i2.1
      have hi4 : RInts w w.heap.size y.a2 x.f.wanted.length x.f.wanted := by rw [hf]; exact i2.2
      clear hx hy hcells e0 e1 e2 e3 hf i2
      have l0 : (0 : Int) ≤ (k : Int) := by omega
      have l1 : (k : Int) < (n : Int) := by omega
      go_wp2_with fail
      go_region_held3 (fun wx => Below w.heap.size w wx ∧ wx.cell? ⟨b1, o1 + k * 2, none⟩ = some (.slice x.a1 x.f.held.length x.c1) ∧ wx.cell? ⟨b1, o1 + k * 2 + 1, none⟩ = some (.slice x.a2 x.f.wanted.length x.c2) ∧ wx.cell? ⟨b2, o2 + k * 2, none⟩ = some (.slice y.a1 x.f.held.length y.c1) ∧ wx.cell? ⟨b2, o2 + k * 2 + 1, none⟩ = some (.slice y.a2 x.f.wanted.length y.c2)) ((first | exact ⟨hb.drew, HC.out _ hb.drew⟩ | (have hh : Below _ _ _ ∧ _ := (by assumption); have hh0 := hh.1.trans (hn1.mono hh.1.size); exact ⟨hh0, HC.out _ hh0⟩) | assumption | go_keep))
        ((go_at_call 25; (have hh : Below _ _ _ ∧ _ := (by assumption)); refine (eqForm_any ((i1.1.below hh.1).more hh.1.size) ((i1.2.below hh.1).more hh.1.size) ((hi3.below hh.1).more hh.1.size) ((hi4.below hh.1).more hh.1.size) hl.1 hl.2).mono ?_; rintro e1 w1 ⟨rfl, hn1⟩))
      have hh : Below _ _ _ ∧ _ := (by assumption)
      replace hb := hh.1
      clear hh
      go_wp2_with fail
      go_roundw
      case rel => exact ⟨k + 1, by omega, by go_num, hb⟩
      case measure => simp [intOf]; omega
    · go_wp2_with fail
      go_ret
      exact ⟨rfl, hb⟩
def szI1 (n : Nat) (l : Int) : Int := if l < n then -1 else l - n
theorem szIntS_any (A : Option Addr) (n cp : Nat) (l : Int) (w : World) (hn : n ≤ 9223372036854775807) (_ : 0 ≤ l ∧ l ≤ 1048576) :
    Calls Try.prog 28 #[.slice A n cp, .int .i64 l] w fun e w' => e = .returned (.int .i64 (szI1 n l)) ∧ w = w' := by
  by_cases h : l < n
  · go_enter Try.func28, Try.ntmps28
    go_wp2
    go_ret
    exact ⟨ret_int (by rw [szI1, if_pos h]), rfl⟩
  · go_enter Try.func28, Try.ntmps28
    go_wp2
    go_ret
    exact ⟨ret_int (by rw [szI1, if_neg (by omega)]), rfl⟩
theorem szI1_ok {n : Nat} {l : Int} (h : 0 ≤ szI1 n l) : n ≤ l ∧ szI1 n l = l - n := by
  unfold szI1 at *
  split at h
  · omega
  · rw [if_neg (by omega)]; omega
theorem szI1_no {n : Nat} {l : Int} (h : szI1 n l < 0) (_ : 0 ≤ l) : szI1 n l = -1 := by unfold szI1 at *; split at h <;> omega
def szF (x : FV) (l : Int) : Int := if szI1 x.f.held.length l < 0 then -1 else szI1 x.f.wanted.length (szI1 x.f.held.length l)
theorem szForm_any (x : FV) (l : Int) (w : World) (h1 : x.f.held.length ≤ maxLen) (h2 : x.f.wanted.length ≤ maxLen) (_ : 0 ≤ l ∧ l ≤ 1048576) :
    Calls Try.prog 18 #[.agg #[.slice x.a1 x.f.held.length x.c1, .slice x.a2 x.f.wanted.length x.c2], .int .i64 l] w fun e w' => e = .returned (.int .i64 (szF x l)) ∧ Below w.heap.size w w' := by
  unfold maxLen at h1 h2
  by_cases q1 : szI1 x.f.held.length l < 0
  · have HF := Lib.hid (show szF x l = -1 by rw [szF, if_pos q1])
    go_enter Try.func18, Try.ntmps18
    go_wp2_with (go_at_call 28; refine (szIntS_any _ _ _ _ _ (by omega) (by omega)).mono ?_; rintro e1 w1 ⟨rfl, rfl⟩)
    go_ret
    exact ⟨ret_int HF.out.symm, (by (repeat (first | exact Below.refl _ _ | exact hb | apply Below.drew | (refine Below.alloc ?_ (by first | (simp; done) | (simp; omega) | (have := hb.size; simp at this ⊢; omega)) _) | (refine Below.setCell ?_ (by simp) _))))⟩
  · have g1 := szI1_ok (n := x.f.held.length) (l := l) (by omega)
    have HF := Lib.hid (show szF x l = szI1 x.f.wanted.length (szI1 x.f.held.length l) by rw [szF, if_neg q1])
    have g2 : 0 ≤ szI1 x.f.held.length l ∧ szI1 x.f.held.length l ≤ 1048576 := by omega
    clear g1 q1
    by_cases q2 : szI1 x.f.wanted.length (szI1 x.f.held.length l) < 0
    · have HG := Lib.hid (szI1_no q2 g2.1)
      go_enter Try.func18, Try.ntmps18
      go_wp2_with (go_at_call 28; refine (szIntS_any _ _ _ _ _ (by omega) (by omega)).mono ?_; rintro e1 w1 ⟨rfl, rfl⟩)
      go_ret
      exact ⟨ret_int (by rw [HF.out, HG.out]), (by (repeat (first | exact Below.refl _ _ | exact hb | apply Below.drew | (refine Below.alloc ?_ (by first | (simp; done) | (simp; omega) | (have := hb.size; simp at this ⊢; omega)) _) | (refine Below.setCell ?_ (by simp) _))))⟩
    · go_enter Try.func18, Try.ntmps18
      go_wp2_with (go_at_call 28; refine (szIntS_any _ _ _ _ _ (by omega) (by omega)).mono ?_; rintro e1 w1 ⟨rfl, rfl⟩)
      go_ret
      exact ⟨ret_int HF.out.symm, (by (repeat (first | exact Below.refl _ _ | exact hb | apply Below.drew | (refine Below.alloc ?_ (by first | (simp; done) | (simp; omega) | (have := hb.size; simp at this ⊢; omega)) _) | (refine Below.setCell ?_ (by simp) _))))⟩
def szL : List FV → Int → Int
  | [], l => l
  | x :: r, l => if szF x l < 0 then -1 else szL r (szF x l)
def szFs (xs : List FV) (l : Int) : Int := if l < xs.length then -1 else szL xs (l - xs.length)
def totF : List FV → Nat
  | [] => 0
  | x :: r => x.f.held.length + x.f.wanted.length + totF r
theorem szF_ok {x : FV} {l : Int} (h : 0 ≤ szF x l) (_ : 0 ≤ l) : x.f.held.length + x.f.wanted.length ≤ l ∧ szF x l = l - (x.f.held.length + x.f.wanted.length : Nat) := by
  unfold szF at *
  split at h
  · omega
  · rename_i q
    have g1 := szI1_ok (n := x.f.held.length) (l := l) (by omega)
    have g2 := szI1_ok h
    rw [if_neg q]
    omega
theorem szL_ok : ∀ {xs : List FV} {l : Int}, 0 ≤ szL xs l → 0 ≤ l → totF xs ≤ l ∧ szL xs l ≤ l ∧ ∀ x ∈ xs, (x.f.held.length : Int) ≤ l ∧ (x.f.wanted.length : Int) ≤ l
  | [], l, _, hl => by simp [totF, szL]; omega
  | x :: r, l, h, hl => by
    unfold szL at h
    split at h
    · omega
    · rename_i q
      have g := szF_ok (x := x) (l := l) (by omega) hl
      have ih := szL_ok h (by omega)
      rw [szL, if_neg q, totF]
      refine ⟨by omega, by omega, fun y hy => ?_⟩
      rcases List.mem_cons.1 hy with rfl | hy
      · omega
      · have := ih.2.2 y hy; omega
theorem szFs_ok {xs : List FV} {l : Int} (h : 0 ≤ szFs xs l) (_ : 0 ≤ l) : (xs.length + totF xs : Nat) ≤ l ∧ szFs xs l ≤ l ∧ ∀ x ∈ xs, (x.f.held.length : Int) ≤ l ∧ (x.f.wanted.length : Int) ≤ l := by
  unfold szFs at *
  split at h
  · omega
  · rename_i q
    have g := szL_ok h (by omega)
    rw [if_neg q]
    refine ⟨by omega, by omega, fun y hy => ?_⟩
    have := g.2.2 y hy
    omega
theorem szFormS_any {A : Option Addr} {n cp : Nat} {xs : List FV} {l : Int} {w : World} (hr : RForms w w.heap.size A n xs) (hn : n ≤ 9223372036854775807) (hL : ∀ x ∈ xs, x.f.held.length ≤ maxLen ∧ x.f.wanted.length ≤ maxLen) (_ : 0 ≤ l ∧ l ≤ 1048576) :
    Calls Try.prog 5 #[.slice A n cp, .int .i64 l] w fun e w' => e = .returned (.int .i64 (szFs xs l)) ∧ Below w.heap.size w w' := by
  have HL := Lib.hid hr.len
  have HX := Lib.hid hL
  clear hL
  by_cases q : l < n
  · go_enter Try.func5, Try.ntmps5
    go_wp2_with fail
    go_ret
    exact ⟨ret_int (by rw [szFs, if_pos (by rw [HL.out]; exact q)]), Below.refl _ _⟩
  · have HF := Lib.hid (show szFs xs l = szL xs (l - n) by rw [szFs, if_neg (by rw [HL.out]; exact q), HL.out])
    have l1 : 0 ≤ l - n ∧ l - n ≤ 1048576 := by omega
    go_enter Try.func5, Try.ntmps5
    go_wp2_with fail
    go_loopw [1, 5] (fun q i wr => ∃ (k : Nat) (t : Int), k ≤ n ∧ i = .int .i64 k ∧ q = .int .i64 t ∧ 0 ≤ t ∧ t ≤ 1048576 ∧ szL (xs.drop k) t = szL xs (l - n) ∧ Below w.heap.size w wr) (fun _ i _ => n - (intOf i).toNat)
    case atStart => exact ⟨0, l - n, Nat.zero_le _, rfl, rfl, by omega, by omega, rfl, Below.refl _ _⟩
    case round =>
      obtain ⟨k, t, hk, rfl, rfl, t0, t1, hR, hb⟩ := hrel
      by_cases hlt : k < n
      · obtain ⟨b, off, x, rfl, _, hd, hy, c0, c1, hin⟩ := RForms.at_ (hr.below hb) hlt
        have hx := HX.out x (List.mem_of_getElem? hy)
        have HR := Lib.hid (show (if szF x t < 0 then -1 else szL (xs.drop (k + 1)) (szF x t)) = szL xs (l - n) by rw [← hR, hd, szL])
        clear hR hd hy
        by_cases q1 : szF x t < 0
        · have HS := Lib.hid (show szL xs (l - n) = -1 by rw [← HR.out, if_pos q1])
          go_wp2_with fail
          refine (szForm_any x t _ hx.1 hx.2 (by omega)).mono ?_
          rintro e1 w1 ⟨rfl, hn1⟩
          replace hb := hb.trans (hn1.mono hb.size)
          clear c0 c1 hn1
          go_wp2_with fail
          go_ret
          exact ⟨ret_int (by rw [HF.out, HS.out]), hb⟩
        · have HS := Lib.hid (show szL (xs.drop (k + 1)) (szF x t) = szL xs (l - n) by rw [← HR.out, if_neg q1])
          have g := szF_ok (x := x) (l := t) (by omega) t0
          have g2 : 0 ≤ szF x t ∧ szF x t ≤ 1048576 := by omega
          clear g
          go_wp2_with fail
          refine (szForm_any x t _ hx.1 hx.2 (by omega)).mono ?_
          rintro e1 w1 ⟨rfl, hn1⟩
          replace hb := hb.trans (hn1.mono hb.size)
          clear c0 c1 hn1
          go_wp2_with fail
          go_roundw
          case rel => exact ⟨k + 1, szF x t, by omega, by go_num, rfl, by omega, by omega, HS.out, hb⟩
          case measure => simp [intOf]; omega
      · have HS := Lib.hid (show t = szL xs (l - n) by rw [← hR, drop_end HL.out hlt]; rfl)
        clear hR
        go_wp2_with fail
        go_ret
        exact ⟨ret_int (by rw [HF.out, ← HS.out]), hb⟩
end Go.Proofs.Ytfemacefkaehjaa
