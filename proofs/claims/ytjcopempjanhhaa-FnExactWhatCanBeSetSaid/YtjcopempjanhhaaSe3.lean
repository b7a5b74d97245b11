/-
  Contracts: DistributeAll.
-/
import Derived.Test.YtjcopempjanhhaaMv1
namespace Go.Proofs.Ytjcopempjanhhaa
open Go.RowKit
theorem row_lower {w : World} {B B' n size : Nat} {e : TypeId} {v : Value} {xs : List Value} (h : w.ownsRow B e size v n xs) (hB : B' ≤ B) : w.ownsRow B' e size v n xs := by
  refine ⟨h.1, ?_⟩
  rcases h.2 with hn | ⟨g, cap, cur, rfl, hb, rest⟩
  · exact .inl hn
  · exact .inr ⟨g, cap, cur, rfl, by omega, rest⟩
theorem keptI_set (w : World) (b i : Nat) (u : Value) : KeptI b (b + 1) w (w.setCell ⟨b, i, none⟩ u) := ⟨rfl, rfl, rfl, by simp, fun k _ hne => Below.heap_setCell w _ u k (by simp only []; omega)⟩
theorem row_set {w : World} {B n size b i : Nat} {e : TypeId} {v u : Value} {xs : List Value} (h : w.ownsRow B e size v n xs) (hb : b < B) : (w.setCell ⟨b, i, none⟩ u).ownsRow B e size v n xs :=
  row_keptI h (keptI_set w b i u) fun k hk => by have := (h.lt k hk).1; omega
theorem own_emptyT (w : World) (B : Nat) (hB : B ≤ w.heap.size) : OwnT (w.alloc (.cells #[] 9)) B (.slice (some ⟨w.heap.size, 0, none⟩) 0 0) 0 [] :=
  (Blk.new' w 9 #[]).row (size := 1) (by simp) (by simp) hB
set_option maxRecDepth 100000 in
theorem changed_no {A A' : Option Addr} {n cp m cd : Nat} {bs : List Bx} {ss : List ByteArray} {by_ : Int} {w : World} (hr : RBxs w w.heap.size A n bs) (hn0 : n ≤ 1048576) (hcp : n ≤ cp) (hL : ∀ b ∈ bs, b.code.size ≤ 1048576) (hs : RStrs w w.heap.size A' m ss) (hm0 : m ≤ 1048576) (hask : askB bs ss = false) :
    Calls Try.prog 122 #[.slice A n cp, .slice A' m cd, .int .i64 by_] w fun e w' => ∃ V C, e = .returned (.tuple #[.slice V 0 C, .bool false]) ∧ w'.ownsRow w.heap.size 98 4 (.slice V 0 C) 0 (([] : List Bx).map Bx.row).flatten ∧ Below w.heap.size w w' := by
  go_enter Try.func122, Try.ntmps122
  go_wp2_with fail
  refine (areCodes_any hr hn0 hcp hL hs hm0).mono ?_
  rintro e1 w1 ⟨rfl, hb1⟩
  rw [hask]
  clear hask
  go_wp2_with fail
  go_ret2
  exact ⟨some ⟨w1.heap.size, 0, none⟩, 0, rfl, own_emptyB w1 w.heap.size hb1.size, hb1.alloc hb1.size _⟩
def mvG (by_ : Int) (bs : List Bx) (ss : List ByteArray) : Bool := askB bs ss && caseB (movF by_ ss bs)
def mvV (by_ : Int) (bs : List Bx) (ss : List ByteArray) : List Bx := if mvG by_ bs ss then movF by_ ss bs else []
theorem changed_full {A A' : Option Addr} {n cp m cd : Nat} {bs : List Bx} {ss : List ByteArray} {by_ : Int} {w : World} (hr : RBxs w w.heap.size A n bs) (hn0 : n ≤ 1048576) (hcp : n ≤ cp) (hL : ∀ b ∈ bs, b.code.size ≤ 1048576) (hs : RStrs w w.heap.size A' m ss) (hm0 : m ≤ 1048576) (hby : by_ = 1 ∨ by_ = -1) :
    Calls Try.prog 122 #[.slice A n cp, .slice A' m cd, .int .i64 by_] w fun e w' => ∃ V N C, e = .returned (.tuple #[.slice V N C, .bool (mvG by_ bs ss)]) ∧ w'.ownsRow w.heap.size 98 4 (.slice V N C) N ((mvV by_ bs ss).map Bx.row).flatten ∧ N ≤ 32 ∧ Below w.heap.size w w' := by
  cases h : askB bs ss
  · refine (changed_no hr hn0 hcp hL hs hm0 h).mono ?_
    rintro e1 w1 ⟨V, C, rfl, ho, hb⟩
    have h1 : mvG by_ bs ss = false := by rw [mvG, h]; rfl
    exact ⟨V, 0, C, by rw [h1], by rw [mvV, h1]; exact ho, by omega, hb⟩
  · refine (changed_any hr hn0 hcp hL hs hm0 hby h).mono ?_
    rintro e1 w1 ⟨V, N, C, rfl, ho, hN, hb⟩
    have h1 : mvG by_ bs ss = caseB (movF by_ ss bs) := by rw [mvG, h]; rfl
    exact ⟨V, N, C, by rw [h1], by rw [mvV, h1]; exact ho, hN, hb⟩
theorem putTypes_full {A A' : Option Addr} {n cp m cd : Nat} {bs : List Bx} {ss : List ByteArray} {w : World} (hr : RBxs w w.heap.size A n bs) (hn0 : n ≤ 1048576) (hcp : n ≤ cp) (hL : ∀ b ∈ bs, b.code.size ≤ 1048576) (hs : RStrs w w.heap.size A' m ss) (hm0 : m ≤ 1048576) :
    Calls Try.prog 97 #[.slice A n cp, .slice A' m cd] w fun e w' => ∃ V N C, e = .returned (.tuple #[.slice V N C, .bool (mvG 1 bs ss)]) ∧ w'.ownsRow w.heap.size 98 4 (.slice V N C) N ((mvV 1 bs ss).map Bx.row).flatten ∧ N ≤ 32 ∧ Below w.heap.size w w' := by
  go_enter Try.func97, Try.ntmps97
  go_wp2_with fail
  refine (changed_full hr hn0 hcp hL hs hm0 (.inl rfl)).mono ?_
  rintro e1 w1 ⟨V, N, C, rfl, ho, hN, hb⟩
  have HO := Lib.hid ho
  clear ho
  go_wp2_with fail
  go_ret2
  exact ⟨V, N, C, rfl, HO.out, hN, hb⟩
theorem distributeAll_spec {A A' : Option Addr} {n cp m cd : Nat} {bs : List Bx} {ss : List ByteArray} {w : World} (hr : RBxs w w.heap.size A n bs) (hn0 : n ≤ 1048576) (hcp : n ≤ cp) (hL : ∀ b ∈ bs, b.code.size ≤ 1048576) (hs : RStrs w w.heap.size A' m ss) (hm0 : m ≤ 1048576) (_ : m ≤ cd) (_ : ∀ s ∈ ss, s.size ≤ 1048576) :
    Calls Try.prog 48 #[.agg #[.slice A n cp, .slice A' m cd]] w fun e w' => ∃ V N C V' N' C', e = .returned (.tuple #[.agg #[.slice V N C, .slice V' N' C'], .bool (mvG 1 bs ss)]) ∧ w'.ownsRow w.heap.size 98 4 (.slice V N C) N ((mvV 1 bs ss).map Bx.row).flatten ∧ OwnT w' w.heap.size (.slice V' N' C') N' [] ∧ N ≤ 1048576 ∧ N' ≤ 1048576 ∧ Below w.heap.size w w' := by
  have hbW : Below w.heap.size w ((w.alloc (.cells #[.slice A n cp, .slice A' m cd] 31)).alloc (.cells #[.slice none 0 0, .slice none 0 0] 31)) := ((Below.refl _ _).alloc (Nat.le_refl _) _).alloc (by simp) _; have ha : Blk ((w.alloc (.cells #[.slice A n cp, .slice A' m cd] 31)).alloc (.cells #[.slice none 0 0, .slice none 0 0] 31)) w.heap.size 31 [.slice A n cp, .slice A' m cd] := (Blk.new' w 31 #[.slice A n cp, .slice A' m cd]).alloc _; have hz : Blk ((w.alloc (.cells #[.slice A n cp, .slice A' m cd] 31)).alloc (.cells #[.slice none 0 0, .slice none 0 0] 31)) (w.heap.size + 1) 31 [.slice none 0 0, .slice none 0 0] := by simpa using Blk.new' (w.alloc (.cells #[.slice A n cp, .slice A' m cd] 31)) 31 #[.slice none 0 0, .slice none 0 0]
  cases h : askB bs ss
  · have HG := Lib.hid (show mvG 1 bs ss = false by rw [mvG, h]; rfl)
    have HV := Lib.hid (show mvV 1 bs ss = [] by rw [mvV, HG.out]; rfl)
    go_enter Try.func48, Try.ntmps48; (have a0 : _ = some (Value.slice A n cp) := ha.cell 0); (have a1 : _ = some (Value.slice A' m cd) := ha.cell 1); (have z0 : _ = some (Value.slice none 0 0) := hz.cell 0); (have z1 : _ = some (Value.slice none 0 0) := hz.cell 1); have y0 := hz.frozen 0; have y1 := hz.frozen 1; go_wp2_with fail; refine (diGood_any ((RBxs.below hr hbW).more hbW.size) hn0 hcp hL ((RStrs.below hs hbW).more hbW.size) hm0).mono ?_; rintro e1 w1 ⟨rfl, hn⟩; replace ha := ha.below hn ha.lt; replace hz := hz.below hn hz.lt; replace hbW := hbW.trans (hn.mono hbW.size); clear hn a0 a1 z0 z1 y0 y1; (have a0 : _ = some (Value.slice A n cp) := ha.cell 0); (have a1 : _ = some (Value.slice A' m cd) := ha.cell 1); (have z0 : _ = some (Value.slice none 0 0) := hz.cell 0); (have z1 : _ = some (Value.slice none 0 0) := hz.cell 1); have y0 := hz.frozen 0; have y1 := hz.frozen 1; rw [h]; clear h; go_wp2_with fail
    clear a0 a1 z0 z1 y0 y1; have hz4 := (hz.set_ 0 (.slice none 0 0)).set_ 1 (.slice none 0 0); (have q0 : _ = some (.slice none 0 0 : Value) := hz4.cell 0); (have q1 : _ = some (.slice none 0 0 : Value) := hz4.cell 1); exact bodyPost_ret (v := .tuple #[.agg #[.slice none 0 0, .slice none 0 0], .bool false]) (by simp [results, Try.results48, go_sem, q0, q1]) rfl ⟨none, 0, 0, none, 0, 0, by rw [HG.out], by rw [HV.out]; exact World.ownsRow_nil _ _ _ _, World.ownsRow_nil _ _ _ _, by omega, by omega, (hbW.setCell (by simp) _).setCell (by simp) _⟩
  have H := Lib.hid h
  cases h2 : caseB (movF 1 ss bs)
  · have HG := Lib.hid (show mvG 1 bs ss = false by rw [mvG, h2]; simp)
    have HV := Lib.hid (show mvV 1 bs ss = [] by rw [mvV, HG.out]; rfl)
    go_enter Try.func48, Try.ntmps48; (have a0 : _ = some (Value.slice A n cp) := ha.cell 0); (have a1 : _ = some (Value.slice A' m cd) := ha.cell 1); (have z0 : _ = some (Value.slice none 0 0) := hz.cell 0); (have z1 : _ = some (Value.slice none 0 0) := hz.cell 1); have y0 := hz.frozen 0; have y1 := hz.frozen 1; go_wp2_with fail; refine (diGood_any ((RBxs.below hr hbW).more hbW.size) hn0 hcp hL ((RStrs.below hs hbW).more hbW.size) hm0).mono ?_; rintro e1 w1 ⟨rfl, hn⟩; replace ha := ha.below hn ha.lt; replace hz := hz.below hn hz.lt; replace hbW := hbW.trans (hn.mono hbW.size); clear hn a0 a1 z0 z1 y0 y1; (have a0 : _ = some (Value.slice A n cp) := ha.cell 0); (have a1 : _ = some (Value.slice A' m cd) := ha.cell 1); (have z0 : _ = some (Value.slice none 0 0) := hz.cell 0); (have z1 : _ = some (Value.slice none 0 0) := hz.cell 1); have y0 := hz.frozen 0; have y1 := hz.frozen 1; rw [h]; clear h; go_wp2_with fail
    refine (caMove_any ((RBxs.below hr hbW).more hbW.size) hn0 hcp hL ((RStrs.below hs hbW).more hbW.size) hm0 (.inl rfl) H.out).mono ?_
    rintro e1 w2 ⟨V, N, C, rfl, ho, hN, hn⟩
    replace ha := ha.below hn ha.lt; replace hz := hz.below hn hz.lt; replace hbW := hbW.trans (hn.mono hbW.size)
    clear ho hn a0 a1 z0 z1 y0 y1
    (have a0 : _ = some (Value.slice A n cp) := ha.cell 0); (have a1 : _ = some (Value.slice A' m cd) := ha.cell 1); (have z0 : _ = some (Value.slice none 0 0) := hz.cell 0); (have z1 : _ = some (Value.slice none 0 0) := hz.cell 1); have y0 := hz.frozen 0; have y1 := hz.frozen 1
    rw [h2]
    clear h2
    go_wp2_with fail
    clear a0 a1 z0 z1 y0 y1; have hz4 := (hz.set_ 0 (.slice none 0 0)).set_ 1 (.slice none 0 0); (have q0 : _ = some (.slice none 0 0 : Value) := hz4.cell 0); (have q1 : _ = some (.slice none 0 0 : Value) := hz4.cell 1); exact bodyPost_ret (v := .tuple #[.agg #[.slice none 0 0, .slice none 0 0], .bool false]) (by simp [results, Try.results48, go_sem, q0, q1]) rfl ⟨none, 0, 0, none, 0, 0, by rw [HG.out], by rw [HV.out]; exact World.ownsRow_nil _ _ _ _, World.ownsRow_nil _ _ _ _, by omega, by omega, (hbW.setCell (by simp) _).setCell (by simp) _⟩
  · have HG := Lib.hid (show mvG 1 bs ss = true by rw [mvG, h2, h]; rfl)
    have HV := Lib.hid (show mvV 1 bs ss = movV 1 bs ss by rw [mvV, HG.out, movV, h2])
    go_enter Try.func48, Try.ntmps48; (have a0 : _ = some (Value.slice A n cp) := ha.cell 0); (have a1 : _ = some (Value.slice A' m cd) := ha.cell 1); (have z0 : _ = some (Value.slice none 0 0) := hz.cell 0); (have z1 : _ = some (Value.slice none 0 0) := hz.cell 1); have y0 := hz.frozen 0; have y1 := hz.frozen 1; go_wp2_with fail; refine (diGood_any ((RBxs.below hr hbW).more hbW.size) hn0 hcp hL ((RStrs.below hs hbW).more hbW.size) hm0).mono ?_; rintro e1 w1 ⟨rfl, hn⟩; replace ha := ha.below hn ha.lt; replace hz := hz.below hn hz.lt; replace hbW := hbW.trans (hn.mono hbW.size); clear hn a0 a1 z0 z1 y0 y1; (have a0 : _ = some (Value.slice A n cp) := ha.cell 0); (have a1 : _ = some (Value.slice A' m cd) := ha.cell 1); (have z0 : _ = some (Value.slice none 0 0) := hz.cell 0); (have z1 : _ = some (Value.slice none 0 0) := hz.cell 1); have y0 := hz.frozen 0; have y1 := hz.frozen 1; rw [h]; clear h; go_wp2_with fail
    have hlo : w.heap.size + 2 ≤ w1.heap.size := by have := hz.lt; omega
    refine (caMove_any ((RBxs.below hr hbW).more hbW.size) hn0 hcp hL ((RStrs.below hs hbW).more hbW.size) hm0 (.inl rfl) H.out).mono ?_
    rintro e1 w2 ⟨V, N, C, rfl, ho, hN, hn⟩
    replace ha := ha.below hn ha.lt; replace hz := hz.below hn hz.lt; replace hbW := hbW.trans (hn.mono hbW.size)
    have HO := Lib.hid (row_lower ho hlo)
    clear ho hn a0 a1 z0 z1 y0 y1
    (have a0 : _ = some (Value.slice A n cp) := ha.cell 0); (have a1 : _ = some (Value.slice A' m cd) := ha.cell 1); (have z0 : _ = some (Value.slice none 0 0) := hz.cell 0); (have z1 : _ = some (Value.slice none 0 0) := hz.cell 1); have y0 := hz.frozen 0; have y1 := hz.frozen 1
    rw [h2]
    clear h2
    go_wp2_with fail
    clear a0 a1 z0 z1 y0 y1; have hz4 := (hz.set_ 0 (.slice V N C)).set_ 1 (.slice none 0 0); (have q0 : _ = some (.slice V N C : Value) := hz4.cell 0); (have q1 : _ = some (.slice none 0 0 : Value) := hz4.cell 1); exact bodyPost_ret (v := .tuple #[.agg #[.slice V N C, .slice none 0 0], .bool true]) (by simp [results, Try.results48, go_sem, q0, q1]) rfl ⟨V, N, C, none, 0, 0, by rw [HG.out], by rw [HV.out]; exact row_lower (row_set (row_set HO.out (by omega)) (by omega)) (by omega), World.ownsRow_nil _ _ _ _, by omega, by omega, (hbW.setCell (by simp) _).setCell (by simp) _⟩
theorem distributeAll_impl {A A' : Option Addr} {n cp m cd : Nat} {bs : List Bx} {ss : List ByteArray} {w : World} (hr : RBxs w w.heap.size A n bs) (hn0 : n ≤ 1048576) (hcp : n ≤ cp) (hL : ∀ b ∈ bs, b.code.size ≤ 1048576) (hs : RStrs w w.heap.size A' m ss) (hm0 : m ≤ 1048576) (_ : m ≤ cd) (_ : ∀ s ∈ ss, s.size ≤ 1048576) :
    Calls Try.prog 49 #[.agg #[.slice A n cp, .slice A' m cd]] w fun e w' => ∃ V N C V' N' C', e = .returned (.tuple #[.agg #[.slice V N C, .slice V' N' C'], .bool (mvG 1 bs ss)]) ∧ w'.ownsRow w.heap.size 98 4 (.slice V N C) N ((mvV 1 bs ss).map Bx.row).flatten ∧ OwnT w' w.heap.size (.slice V' N' C') N' [] ∧ N ≤ 1048576 ∧ N' ≤ 1048576 ∧ Below w.heap.size w w' := by
  have hbW : Below w.heap.size w ((w.alloc (.cells #[.slice A n cp, .slice A' m cd] 31)).alloc (.cells #[.slice none 0 0, .slice none 0 0] 31)) := ((Below.refl _ _).alloc (Nat.le_refl _) _).alloc (by simp) _; have ha : Blk ((w.alloc (.cells #[.slice A n cp, .slice A' m cd] 31)).alloc (.cells #[.slice none 0 0, .slice none 0 0] 31)) w.heap.size 31 [.slice A n cp, .slice A' m cd] := (Blk.new' w 31 #[.slice A n cp, .slice A' m cd]).alloc _; have hz : Blk ((w.alloc (.cells #[.slice A n cp, .slice A' m cd] 31)).alloc (.cells #[.slice none 0 0, .slice none 0 0] 31)) (w.heap.size + 1) 31 [.slice none 0 0, .slice none 0 0] := by simpa using Blk.new' (w.alloc (.cells #[.slice A n cp, .slice A' m cd] 31)) 31 #[.slice none 0 0, .slice none 0 0]
  have hlo : w.heap.size + 2 ≤ ((w.alloc (.cells #[.slice A n cp, .slice A' m cd] 31)).alloc (.cells #[.slice none 0 0, .slice none 0 0] 31)).heap.size := by simp
  cases h : mvG 1 bs ss
  · have HG := Lib.hid h
    have HV := Lib.hid (show mvV 1 bs ss = [] by rw [mvV, HG.out]; rfl)
    go_enter Try.func49, Try.ntmps49; (have a0 : _ = some (Value.slice A n cp) := ha.cell 0); (have a1 : _ = some (Value.slice A' m cd) := ha.cell 1); (have z0 : _ = some (Value.slice none 0 0) := hz.cell 0); (have z1 : _ = some (Value.slice none 0 0) := hz.cell 1); have y0 := hz.frozen 0; have y1 := hz.frozen 1; go_wp2_with fail; refine (putTypes_full ((RBxs.below hr hbW).more hbW.size) hn0 hcp hL ((RStrs.below hs hbW).more hbW.size) hm0).mono ?_; rintro e1 w1 ⟨V, N, C, rfl, ho, hN, hn⟩; replace ha := ha.below hn ha.lt; replace hz := hz.below hn hz.lt; replace hbW := hbW.trans (hn.mono hbW.size); have HO := Lib.hid (row_lower ho hlo); clear ho hn a0 a1 z0 z1 y0 y1; (have a0 : _ = some (Value.slice A n cp) := ha.cell 0); (have a1 : _ = some (Value.slice A' m cd) := ha.cell 1); (have z0 : _ = some (Value.slice none 0 0) := hz.cell 0); (have z1 : _ = some (Value.slice none 0 0) := hz.cell 1); have y0 := hz.frozen 0; have y1 := hz.frozen 1; rw [h]; clear h
    go_wp2_with fail
    clear a0 a1 z0 z1 y0 y1; have hz4 := (hz.set_ 0 (.slice none 0 0)).set_ 1 (.slice none 0 0); (have q0 : _ = some (.slice none 0 0 : Value) := hz4.cell 0); (have q1 : _ = some (.slice none 0 0 : Value) := hz4.cell 1); exact bodyPost_ret (v := .tuple #[.agg #[.slice none 0 0, .slice none 0 0], .bool false]) (by simp [results, Try.results49, go_sem, q0, q1]) rfl ⟨none, 0, 0, none, 0, 0, rfl, by rw [HV.out]; exact World.ownsRow_nil _ _ _ _, World.ownsRow_nil _ _ _ _, by omega, by omega, (hbW.setCell (by simp) _).setCell (by simp) _⟩
  · have HG := Lib.hid h
    go_enter Try.func49, Try.ntmps49; (have a0 : _ = some (Value.slice A n cp) := ha.cell 0); (have a1 : _ = some (Value.slice A' m cd) := ha.cell 1); (have z0 : _ = some (Value.slice none 0 0) := hz.cell 0); (have z1 : _ = some (Value.slice none 0 0) := hz.cell 1); have y0 := hz.frozen 0; have y1 := hz.frozen 1; go_wp2_with fail; refine (putTypes_full ((RBxs.below hr hbW).more hbW.size) hn0 hcp hL ((RStrs.below hs hbW).more hbW.size) hm0).mono ?_; rintro e1 w1 ⟨V, N, C, rfl, ho, hN, hn⟩; replace ha := ha.below hn ha.lt; replace hz := hz.below hn hz.lt; replace hbW := hbW.trans (hn.mono hbW.size); have HO := Lib.hid (row_lower ho hlo); clear ho hn a0 a1 z0 z1 y0 y1; (have a0 : _ = some (Value.slice A n cp) := ha.cell 0); (have a1 : _ = some (Value.slice A' m cd) := ha.cell 1); (have z0 : _ = some (Value.slice none 0 0) := hz.cell 0); (have z1 : _ = some (Value.slice none 0 0) := hz.cell 1); have y0 := hz.frozen 0; have y1 := hz.frozen 1; rw [h]; clear h
    clear a0 a1 z0 z1 y0 y1
    have hza := hz.alloc (.cells #[] 9)
    (have z0 : _ = some (Value.slice none 0 0) := hza.cell 0)
    (have z1 : _ = some (Value.slice none 0 0) := hza.cell 1)
    have y0 := hza.frozen 0
    have y1 := hza.frozen 1
    go_wp2_with fail
    clear z0 z1 y0 y1
    have hs1 := hbW.size
    have hz4 := ((hz.alloc (.cells #[] 9)).set_ 0 (.slice V N C)).set_ 1 (.slice (some ⟨w1.heap.size, 0, none⟩) 0 0)
    have q0 : _ = some (Value.slice V N C) := hz4.cell 0
    have q1 : _ = some (Value.slice (some ⟨w1.heap.size, 0, none⟩) 0 0) := hz4.cell 1
    have hzl := hz.lt
    exact bodyPost_ret (v := .tuple #[.agg #[.slice V N C, .slice (some ⟨w1.heap.size, 0, none⟩) 0 0], .bool true]) (by simp [results, Try.results49, go_sem, q0, q1]) rfl ⟨V, N, C, some ⟨w1.heap.size, 0, none⟩, 0, 0, rfl, row_lower (row_set (row_set (row_alloc HO.out _) (by omega)) (by omega)) (by omega), row_lower (row_set (row_set (own_emptyT w1 w1.heap.size (Nat.le_refl _)) (by omega)) (by omega)) (by omega), by omega, by omega, ((hbW.alloc hbW.size _).setCell (by simp) _).setCell (by simp) _⟩
end Go.Proofs.Ytjcopempjanhhaa
