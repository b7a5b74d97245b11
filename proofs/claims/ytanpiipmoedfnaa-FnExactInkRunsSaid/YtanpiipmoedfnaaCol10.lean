/-
  Contracts of InkRuns.
-/
import Derived.Test.YtanpiipmoedfnaaCol4
import Derived.Test.YtanpiipmoedfnaaIn
namespace Go.Proofs.Ytanpiipmoedfnaa
open Go.RowKit
def bumpL (out : List Int) : List Int := out.set (out.length - 1) (out.getD (out.length - 1) 0 + 1)
def runsL : List UInt8 → List UInt8 → Int → Int → List Int → List Int
  | c :: r, d :: s, l, b, out =>
    if (c.toNat : Int) = 32 ∧ l = 0 then runsL r s l (b + 1) out
    else if (c.toNat : Int) = 32 ∨ (d.toNat : Int) = l then runsL r s l b (bumpL out)
    else runsL r s (d.toNat : Int) 0 (out ++ [b + 1])
  | _, _, _, _, out => out
def irV (t i : ByteArray) : List Int := if ikB t i then runsL (bytes t) (bytes i) 0 0 [] else []
theorem runsL_end {l b : Int} {out : List Int} (r : List UInt8) : runsL [] r l b out = out := by cases r <;> rfl
theorem inkB_get : ∀ {a e : List UInt8} {k : Nat} {c d : UInt8}, inkB a e = true → a[k]? = some c → e[k]? = some d → (d.toNat : Int) = 98 ∨ (d.toNat : Int) = 114
  | [], _, _, _, _, _, h, _ => by simp at h
  | _ :: _, [], _, _, _, _, _, h => by simp at h
  | c' :: r, d' :: s, 0, c, d, h, h1, h2 => by
    simp at h1 h2
    subst h1 h2
    simp only [inkB, Bool.and_eq_true] at h
    rcases inkC_cases c' d' with q | q | q | q
    · exact .inl q.2
    · exact .inr q.2.2.1
    · rw [q.1] at h; exact absurd h.1 (by simp)
    · rw [q.1] at h; exact absurd h.1 (by simp)
  | c' :: r, d' :: s, k + 1, c, d, h, h1, h2 => by
    simp only [inkB, Bool.and_eq_true] at h
    exact inkB_get (a := r) (e := s) (k := k) h.2 (by simpa using h1) (by simpa using h2)
theorem bumpL_len (out : List Int) : (bumpL out).length = out.length := by simp [bumpL]
theorem bumpL_bd {out : List Int} {k : Int} (h0 : 0 ≤ k) (h : ∀ z ∈ out, 0 ≤ z ∧ z ≤ k) : ∀ z ∈ bumpL out, 0 ≤ z ∧ z ≤ k + 1 := by
  intro z hz
  have hg : 0 ≤ out.getD (out.length - 1) 0 ∧ out.getD (out.length - 1) 0 ≤ k := by
    rw [List.getD_eq_getElem?_getD]
    cases hq : out[out.length - 1]? with
    | none => simp; omega
    | some y => exact h y (List.mem_of_getElem? hq)
  rcases List.mem_or_eq_of_mem_set hz with hz | rfl
  · have := h z hz; omega
  · omega
set_option maxRecDepth 100000 in
set_option maxHeartbeats 1000000 in
theorem inkRuns_impl (t i : ByteArray) (w : World) (ht : t.size ≤ 1048576) : Calls Try.prog 33 #[.agg #[.string t, .string i]] w fun e w' => ∃ V N C, e = .returned (.tuple #[.slice V N C, .bool (ikB t i)]) ∧ Own w' w.heap.size (.slice V N C) N (irV t i) ∧ N ≤ 1048576 ∧ Below w.heap.size w w' := by
  obtain ⟨i0, hi, hz0, hz1, hz2⟩ := info_parts info3
  have hb : Below w.heap.size w (w.alloc (.cells #[.string t, .string i] 26)) := (by (repeat (first | exact Below.refl _ _ | exact hb | apply Below.drew | (refine Below.alloc ?_ (by first | (simp; done) | (simp; omega) | (have := hb.size; simp at this ⊢; omega)) _) | (refine Below.setCell ?_ (by simp) _)))); have hx := Blk.new' w 26 #[.string t, .string i]
  cases h1 : ikB t i
  · (go_enter Try.func33, Try.ntmps33; go_wp2_with fail; refine (isInked_any _ _ _ ht).mono ?_; rintro e1 w1 ⟨rfl, hn⟩; replace hx := hx.below hn hx.lt; replace hb := hb.trans (hn.mono hb.size); clear hn)
    go_wp2_with fail
    have hs9 := hb.size
    go_ret2
    exact ⟨some ⟨w1.heap.size, 0, none⟩, 0, 0, by simp [h1], by simp only [irV, h1]; exact own_lower (own_empty w1 w1.heap.size (Nat.le_refl _)) hs9, by omega, hb.alloc hs9 _⟩
  obtain ⟨g1, g2, g3, g4⟩ := ikB_true h1
  have HT := Lib.hid g3
  have HI := Lib.hid g4
  have HP := Lib.hid g2
  clear g1 g2 g3 g4
  (go_enter Try.func33, Try.ntmps33; go_wp2_with fail; refine (isInked_any _ _ _ ht).mono ?_; rintro e1 w1 ⟨rfl, hn⟩; replace hx := hx.below hn hx.lt; replace hb := hb.trans (hn.mono hb.size); clear hn)
  have hs9 := hb.size
  have hs8 := hx.lt
  go_wp2_with fail
  go_loopw [4, 5, 6, 7] (fun v bl la u wr => ∃ (k N C : Nat) (V : Option Addr) (l b : Int) (out : List Int), k ≤ t.size ∧ u = .int .i64 k ∧ bl = .int .i64 b ∧ la = .int .u8 l ∧ v = .slice V N C ∧ (l = 0 ∨ l = 98 ∨ l = 114) ∧ (0 ≤ b ∧ b ≤ k) ∧ (l ≠ 0 → 0 < N) ∧ N ≤ k ∧ (∀ z ∈ out, 0 ≤ z ∧ z ≤ (k : Int)) ∧ Own wr (w.heap.size + 1) (.slice V N C) N out ∧ runsL ((bytes t).drop k) ((bytes i).drop k) l b out = runsL (bytes t) (bytes i) 0 0 [] ∧ Blk wr w.heap.size 26 [.string t, .string i] ∧ Below w.heap.size w wr ∧ w.heap.size + 1 ≤ wr.heap.size) (fun _ _ _ u _ => t.size - (intOf u).toNat)
  case atStart => exact ⟨0, 0, 0, _, 0, 0, [], Nat.zero_le _, rfl, rfl, rfl, rfl, by omega, by omega, by omega, by omega, by simp, own_lower (own_empty w1 w1.heap.size (Nat.le_refl _)) (by omega), rfl, hx.alloc _, hb.alloc hs9 _, by simp; omega⟩
  case round =>
    clear hx hb hs9 hs8
    obtain ⟨k, N, C, V, l, b, out, hk, rfl, rfl, rfl, rfl, hl3, hbb, hl, hNk, hz, hown, hR, hx, hb, hsz⟩ := hrel
    have hc0 : _ = some (Value.string t) := hx.cell 0
    have hc1 : _ = some (Value.string i) := hx.cell 1
    have hP := HP.out
    by_cases hlt : k < t.size
    · have hlt2 : k < i.size := by have := HT.out; omega
      have HD := Lib.hid (bytes_drop t k hlt); have HE := Lib.hid (bytes_drop i k hlt2); have hink := inkB_get HI.out (bytes_get t k hlt) (bytes_get i k hlt2)
      have l0 : (0 : Int) ≤ (k : Int) := by omega
      have l1 : (k : Int) < (t.size : Int) := by omega
      have l3 : (k : Int) < (i.size : Int) := by omega
      by_cases q1 : (t[k].toNat : Int) = 32
      · obtain ⟨f1, f2⟩ := ne_f q1
        by_cases ql : l = 0
        · obtain ⟨f3, f4⟩ := ne_f ql
          have HR := Lib.hid (show runsL ((bytes t).drop (k + 1)) ((bytes i).drop (k + 1)) l (b + 1) out = runsL (bytes t) (bytes i) 0 0 [] by rw [← hR, HD.out, HE.out, runsL, if_pos ⟨q1, ql⟩])
          have ew : IntKind.i64.wrap (b + 1) = b + 1 := wrapI (by omega) (by omega)
          clear hR q1
          go_wp2_with fail
          go_roundw
          case rel => exact ⟨k + 1, N, C, V, l, b + 1, out, by omega, by go_num, rfl, rfl, rfl, hl3, by omega, hl, by omega, fun z h => by have := hz z h; omega, hown, HR.out, hx, hb, hsz⟩
          case measure => simp [intOf]; omega
        · obtain ⟨f3, f4⟩ := ne_t ql
          have HR := Lib.hid (show runsL ((bytes t).drop (k + 1)) ((bytes i).drop (k + 1)) l b (bumpL out) = runsL (bytes t) (bytes i) 0 0 [] by rw [← hR, HD.out, HE.out, runsL, if_neg (fun h => ql h.2), if_pos (.inl q1)])
          clear hR q1
          have hN : 0 < N := hl (by omega)
          rcases hown.2 with ⟨h9, h8⟩ | ⟨g, cap, cur, h9, hB, hg, hnc, hcm, hcs, htk⟩
          · omega
          injection h9 with h9 _ h7
          subst h9 h7
          clear hg hnc hcm hcs htk
          have hol := own_len hown
          obtain ⟨x, hx9⟩ : ∃ x, out[N - 1]? = some x := ⟨_, List.getElem?_eq_getElem (by omega)⟩
          have bx := hz x (List.mem_of_getElem? hx9)
          have hgd : bumpL out = out.set (N - 1) (x + 1) := by rw [bumpL, hol, List.getD_eq_getElem?_getD, hx9]; rfl
          have hcell : wr.cell? ⟨g, N - 1, none⟩ = some (.int .i64 x) := by rw [hown.cellAt (N - 1) (by omega), List.getElem?_map, hx9]; rfl
          have hfz := hown.frozenAt (N - 1)
          obtain ⟨s1, s2⟩ := hown.stored (N - 1) (.int .i64 (x + 1))
          rw [← List.map_set, ← hgd] at s1
          have hbd := bumpL_bd (k := (k : Int)) (by omega) hz
          have HS := Lib.hid (And.intro s1 hbd)
          have ew : IntKind.i64.wrap (x + 1) = x + 1 := wrapI (by omega) (by omega)
          have en : ((N : Int) - 1).toNat = N - 1 := by omega
          have l5 : (0 : Int) ≤ (N : Int) - 1 := by omega
          have ewn : IntKind.i64.wrap ((N : Int) - 1) = (N : Int) - 1 := wrapI (by omega) (by omega)
          clear hx9 hgd hz s1 s2 hbd hol
          go_wp2_with fail
          go_roundw
          case rel => exact ⟨k + 1, N, _, _, l, b, bumpL out, by omega, by go_num, rfl, rfl, rfl, hl3, by omega, hl, by omega, fun z hz => by have := HS.out.2 z hz; omega, HS.out.1, HR.out, hx.far (by simp; omega) _, hb.setCell (by simp; omega) _, by simpa [World.setCell] using hsz⟩
          case measure => simp [intOf]; omega
      · obtain ⟨f1, f2⟩ := ne_t q1
        by_cases qd : (i[k].toNat : Int) = l
        · obtain ⟨f5, f6⟩ := ne_f qd
          have HR := Lib.hid (show runsL ((bytes t).drop (k + 1)) ((bytes i).drop (k + 1)) l b (bumpL out) = runsL (bytes t) (bytes i) 0 0 [] by rw [← hR, HD.out, HE.out, runsL, if_neg (fun h => q1 h.1), if_pos (.inr qd)])
          have ql : l ≠ 0 := by omega
          clear hR q1
          have hN : 0 < N := hl (by omega)
          rcases hown.2 with ⟨h9, h8⟩ | ⟨g, cap, cur, h9, hB, hg, hnc, hcm, hcs, htk⟩
          · omega
          injection h9 with h9 _ h7
          subst h9 h7
          clear hg hnc hcm hcs htk
          have hol := own_len hown
          obtain ⟨x, hx9⟩ : ∃ x, out[N - 1]? = some x := ⟨_, List.getElem?_eq_getElem (by omega)⟩
          have bx := hz x (List.mem_of_getElem? hx9)
          have hgd : bumpL out = out.set (N - 1) (x + 1) := by rw [bumpL, hol, List.getD_eq_getElem?_getD, hx9]; rfl
          have hcell : wr.cell? ⟨g, N - 1, none⟩ = some (.int .i64 x) := by rw [hown.cellAt (N - 1) (by omega), List.getElem?_map, hx9]; rfl
          have hfz := hown.frozenAt (N - 1)
          obtain ⟨s1, s2⟩ := hown.stored (N - 1) (.int .i64 (x + 1))
          rw [← List.map_set, ← hgd] at s1
          have hbd := bumpL_bd (k := (k : Int)) (by omega) hz
          have HS := Lib.hid (And.intro s1 hbd)
          have ew : IntKind.i64.wrap (x + 1) = x + 1 := wrapI (by omega) (by omega)
          have en : ((N : Int) - 1).toNat = N - 1 := by omega
          have l5 : (0 : Int) ≤ (N : Int) - 1 := by omega
          have ewn : IntKind.i64.wrap ((N : Int) - 1) = (N : Int) - 1 := wrapI (by omega) (by omega)
          clear hx9 hgd hz s1 s2 hbd hol
          go_wp2_with fail
          go_roundw
          case rel => exact ⟨k + 1, N, _, _, l, b, bumpL out, by omega, by go_num, rfl, rfl, rfl, hl3, by omega, hl, by omega, fun z hz => by have := HS.out.2 z hz; omega, HS.out.1, HR.out, hx.far (by simp; omega) _, hb.setCell (by simp; omega) _, by simpa [World.setCell] using hsz⟩
          case measure => simp [intOf]; omega
        · obtain ⟨f5, f6⟩ := ne_t qd
          have HR := Lib.hid (show runsL ((bytes t).drop (k + 1)) ((bytes i).drop (k + 1)) (i[k].toNat : Int) 0 (out ++ [b + 1]) = runsL (bytes t) (bytes i) 0 0 [] by rw [← hR, HD.out, HE.out, runsL, if_neg (fun h => q1 h.1), if_neg (fun h => h.elim q1 qd)])
          have ew : IntKind.i64.wrap (b + 1) = b + 1 := wrapI (by omega) (by omega)
          have HZ := Lib.hid hz
          clear hR q1 qd hz
          go_wp2_with (at_builtin; refine wpList_append_own _ rfl _ _ 35 rfl (w.heap.size + 1) 3 i0 (.int .i64 0) 1 8 Try.underlying35 hi hz0 hz1 hz2 rfl (by decide) _ _ _ rfl (hown.alloc _) ⟨wr.heap.size, 0, none⟩ 1 1 [.int .i64 (b + 1)] rfl rfl (new_one _ _ (by simp) _ _) (by intro u hu; simp at hu; subst hu; rfl) (by unfold maxLen; omega) (by omega) (by simp <;> omega) ?_)
          intro v' w2 hown' hgrow _
          have hkb := below_grown (World.ownsRow.alloc hown (.cells #[.int .i64 (b + 1)] 3)) (by simp; omega) hgrow
          have ho2 := own_app hown'
          obtain ⟨V2, C2, rfl⟩ := own_slice ho2
          have hz3 := hkb.size
          simp only [World.size_alloc] at hz3
          replace hx := (hx.alloc (.cells #[.int .i64 (b + 1)] 3)).below hkb (by omega)
          replace hb := (hb.alloc hb.size (.cells #[.int .i64 (b + 1)] 3)).trans (hkb.mono (by omega))
          have hc2 : _ = some (Value.string i) := hx.cell 1
          clear hown hown' hgrow hkb hc0 hc1
          go_wp2_with fail
          go_roundw
          case rel => exact ⟨k + 1, N + 1, C2, V2, _, 0, out ++ [b + 1], by omega, by go_num, rfl, rfl, rfl, .inr hink, by omega, by omega, by omega, fun z h => by
            rcases List.mem_append.1 h with h | h
            · have := HZ.out z h; omega
            · simp at h; omega, ho2, HR.out, hx, hb, by omega⟩
          case measure => simp [intOf]; omega
    · have HR := Lib.hid (show out = runsL (bytes t) (bytes i) 0 0 [] by rw [← hR, List.drop_of_length_le (l := bytes t) (by rw [bytes_len]; omega), runsL_end])
      clear hR
      have l2 : ¬ ((k : Int) < (t.size : Int)) := by omega
      go_wp2_with fail
      go_ret2
      exact ⟨V, N, C, by simp [h1], by simp only [irV, h1]; rw [if_pos trivial, ← HR.out]; exact own_lower hown (by omega), by omega, hb⟩
theorem row_iter {w : World} {B n j m : Nat} {v : Value} {xs : List Int} {t : ByteArray} (h : Own w B v n xs) (hj : j < B) : Own (w.iterAt j t m) B v n xs := by
  refine ⟨h.1, ?_⟩
  rcases h.2 with hn | ⟨g, cap, cur, rfl, hB, hg, rest⟩
  · exact .inl hn
  · exact .inr ⟨g, cap, cur, rfl, hB, (Lib.iterAt_other w j g t m (by omega)).trans hg, rest⟩
set_option maxRecDepth 100000 in
set_option maxHeartbeats 1000000 in
theorem inkRuns_spec (t i : ByteArray) (w : World) (ht : t.size ≤ 1048576) : Calls Try.prog 32 #[.agg #[.string t, .string i]] w fun e w' => ∃ V N C, e = .returned (.tuple #[.slice V N C, .bool (ikB t i)]) ∧ Own w' w.heap.size (.slice V N C) N (irV t i) ∧ N ≤ 1048576 ∧ Below w.heap.size w w' := by
  obtain ⟨i0, hi, hz0, hz1, hz2⟩ := info_parts info3
  have hb : Below w.heap.size w (w.alloc (.cells #[.string t, .string i] 26)) := (by (repeat (first | exact Below.refl _ _ | exact hb | apply Below.drew | (refine Below.alloc ?_ (by first | (simp; done) | (simp; omega) | (have := hb.size; simp at this ⊢; omega)) _) | (refine Below.setCell ?_ (by simp) _)))); have hx := Blk.new' w 26 #[.string t, .string i]
  cases h1 : ikB t i
  · (go_enter Try.func32, Try.ntmps32; go_wp2_with fail; refine (coGood_any _ _ _ ht).mono ?_; rintro e1 w1 ⟨rfl, hn⟩; replace hx := hx.below hn hx.lt; replace hb := hb.trans (hn.mono hb.size); clear hn)
    go_wp2_with fail
    go_ret2
    exact ⟨none, 0, 0, by simp [h1], by simp [irV, h1]; exact own_nil _ _, by omega, hb⟩
  obtain ⟨g1, g2, g3, g4⟩ := ikB_true h1
  have HT := Lib.hid g3
  have HI := Lib.hid g4
  have HP := Lib.hid g2
  have HA := Lib.hid g1
  clear g1 g2 g3 g4
  (go_enter Try.func32, Try.ntmps32; go_wp2_with fail; refine (coGood_any _ _ _ ht).mono ?_; rintro e1 w1 ⟨rfl, hn⟩; replace hx := hx.below hn hx.lt; replace hb := hb.trans (hn.mono hb.size); clear hn)
  have hs9 := hb.size
  have hs8 := hx.lt
  have m0 : _ = some (Value.string t) := hx.cell 0
  have m1 : _ = some (Value.string i) := hx.cell 1
  go_wp2_with fail
  clear m0 m1
  go_loopw [4, 5, 6, 7] (fun v ik bl _ wr => ∃ (k N C : Nat) (V : Option Addr) (l b : Int) (ks : ByteArray) (out : List Int), k ≤ t.size ∧ ik = .string ks ∧ bl = .int .i64 b ∧ v = .slice V N C ∧ ((ks = ⟨#[]⟩ ∧ l = 0) ∨ ∃ d : UInt8, ks = str [d] ∧ l = (d.toNat : Int) ∧ ((d.toNat : Int) = 98 ∨ (d.toNat : Int) = 114)) ∧ (0 ≤ b ∧ b ≤ k) ∧ (l ≠ 0 → 0 < N) ∧ N ≤ k ∧ (∀ z ∈ out, 0 ≤ z ∧ z ≤ (k : Int)) ∧ Own wr (w1.heap.size + 1) (.slice V N C) N out ∧ runsL ((bytes t).drop k) ((bytes i).drop k) l b out = runsL (bytes t) (bytes i) 0 0 [] ∧ wr.heap[w1.heap.size]? = some (.stringIter t k) ∧ Blk wr w.heap.size 26 [.string t, .string i] ∧ Below w.heap.size w wr ∧ w1.heap.size + 1 ≤ wr.heap.size) (fun _ _ _ _ wr => t.size - wr.iterPos w1.heap.size)
  case atStart =>
    refine ⟨0, 0, 0, none, 0, 0, ⟨#[]⟩, [], Nat.zero_le _, rfl, rfl, rfl, .inl ⟨rfl, rfl⟩, by omega, by omega, by omega, by simp, own_nil _ _, rfl, ?_, hx.alloc _, hb.alloc hs9 _, by simp [World.iter]⟩
    have := World.iter_heap w1 t 0
    exact this
  case round =>
    clear hx hb
    obtain ⟨k, N, C, V, l, b, ks, out, hk, rfl, rfl, rfl, hl3, hbb, hl, hNk, hz, hown, hR, hit, hx, hb, hsz⟩ := hrel
    have hP := HP.out
    by_cases hlt : k < t.size
    · have hlt2 : k < i.size := by have := HT.out; omega
      have hasc : t[k].toNat < 128 := plB_ascii HA.out (bytes_get t k hlt)
      have hnx := Lib.run_next_ascii_at (P := Try.prog) wr w1.heap.size t k 0 hit hlt hasc
      replace hx : Blk (wr.iterAt w1.heap.size t (k + 1)) w.heap.size 26 [.string t, .string i] := (Lib.iterAt_other wr w1.heap.size w.heap.size t (k + 1) (by omega)).trans hx
      replace hb := Lib.below_iterAt hb (by omega) t (k + 1) (k := w1.heap.size)
      have hit2 := Lib.iterAt_heap wr w1.heap.size t k (k + 1) hit
      replace hown := row_iter (t := t) (m := k + 1) (j := w1.heap.size) hown (by omega)
      have hsz2 : w1.heap.size + 1 ≤ (wr.iterAt w1.heap.size t (k + 1)).heap.size := by simpa [World.iterAt] using hsz
      have hc0 : _ = some (Value.string t) := hx.cell 0
      have hc1 : _ = some (Value.string i) := hx.cell 1
      have HD := Lib.hid (bytes_drop t k hlt); have HE := Lib.hid (bytes_drop i k hlt2); have hink := inkB_get HI.out (bytes_get t k hlt) (bytes_get i k hlt2)
      have l0 : (0 : Int) ≤ (k : Int) := by omega
      have l1 : (k : Int) < (t.size : Int) := by omega
      have l3 : (k : Int) < (i.size : Int) := by omega
      have HL3 := Lib.hid hl3
      by_cases q1 : (t[k].toNat : Int) = 32
      · obtain ⟨f1, f2⟩ := ne_f q1
        rcases hl3 with ⟨rfl, rfl⟩ | ⟨d, hks, hld, hdd⟩
        · have HR := Lib.hid (show runsL ((bytes t).drop (k + 1)) ((bytes i).drop (k + 1)) 0 (b + 1) out = runsL (bytes t) (bytes i) 0 0 [] by rw [← hR, HD.out, HE.out, runsL, if_pos ⟨q1, rfl⟩])
          have ew : IntKind.i64.wrap (b + 1) = b + 1 := wrapI (by omega) (by omega)
          have HI2 := Lib.hid hit2
          clear hR q1 hit2
          go_wp2_with fail
          go_roundw
          case rel => exact ⟨k + 1, N, C, V, 0, b + 1, _, out, by omega, rfl, rfl, rfl, .inl ⟨rfl, rfl⟩, by omega, hl, by omega, fun z h => by have := hz z h; omega, hown, HR.out, HI2.out, hx, hb, hsz2⟩
          case measure => rw [iterPos_of hit, iterPos_of HI2.out]; omega
        · have ql : l ≠ 0 := by omega
          have k1 : (ks.toList == (⟨#[]⟩ : ByteArray).toList) = false := by rw [hks, str_toList, show (⟨#[]⟩ : ByteArray) = str [] from rfl, str_toList]; rfl
          have k2 : (ks.toList == []) = false := by rw [hks, str_toList]; rfl
          have k3 : ks.toList.isEmpty = false := by rw [hks, str_toList]; rfl
          have HR := Lib.hid (show runsL ((bytes t).drop (k + 1)) ((bytes i).drop (k + 1)) l b (bumpL out) = runsL (bytes t) (bytes i) 0 0 [] by rw [← hR, HD.out, HE.out, runsL, if_neg (fun h => ql h.2), if_pos (.inl q1)])
          clear hR q1 hks hld
          have hN : 0 < N := hl (by omega)
          rcases hown.2 with ⟨h9, h8⟩ | ⟨g, cap, cur, h9, hB, hg, hnc, hcm, hcs, htk⟩
          · omega
          injection h9 with h9 _ h7
          subst h9 h7
          clear hg hnc hcm hcs htk
          have hol := own_len hown
          obtain ⟨x, hx9⟩ : ∃ x, out[N - 1]? = some x := ⟨_, List.getElem?_eq_getElem (by omega)⟩
          have bx := hz x (List.mem_of_getElem? hx9)
          have hgd : bumpL out = out.set (N - 1) (x + 1) := by rw [bumpL, hol, List.getD_eq_getElem?_getD, hx9]; rfl
          have hcell : (wr.iterAt w1.heap.size t (k + 1)).cell? ⟨g, N - 1, none⟩ = some (.int .i64 x) := by rw [hown.cellAt (N - 1) (by omega), List.getElem?_map, hx9]; rfl
          have hfz := hown.frozenAt (N - 1)
          obtain ⟨s1, s2⟩ := hown.stored (N - 1) (.int .i64 (x + 1))
          rw [← List.map_set, ← hgd] at s1
          have hbd := bumpL_bd (k := (k : Int)) (by omega) hz
          have hit3 := (Below.heap_setCell (wr.iterAt w1.heap.size t (k + 1)) ⟨g, N - 1, none⟩ (.int .i64 (x + 1)) w1.heap.size (by simp; omega)).trans hit2
          have HS := Lib.hid (And.intro s1 (And.intro hbd hit3))
          have ew : IntKind.i64.wrap (x + 1) = x + 1 := wrapI (by omega) (by omega)
          have en : ((N : Int) - 1).toNat = N - 1 := by omega
          have l5 : (0 : Int) ≤ (N : Int) - 1 := by omega
          have ewn : IntKind.i64.wrap ((N : Int) - 1) = (N : Int) - 1 := wrapI (by omega) (by omega)
          have HX := Lib.hid (show Blk ((wr.iterAt w1.heap.size t (k + 1)).setCell ⟨g, N - 1, none⟩ (.int .i64 (x + 1))) w.heap.size 26 [.string t, .string i] from hx.far (by first | omega | (simp; omega)) _)
          have HB := Lib.hid (show Below w.heap.size w ((wr.iterAt w1.heap.size t (k + 1)).setCell ⟨g, N - 1, none⟩ (.int .i64 (x + 1))) from hb.setCell (by first | omega | (simp; omega)) _)
          clear hx9 hgd hz s1 s2 hbd hol hit2 hit3 hx hb
          go_wp2_with fail
          go_roundw
          case rel => exact ⟨k + 1, N, _, _, l, b, ks, bumpL out, by omega, rfl, rfl, rfl, HL3.out, by omega, hl, by omega, fun z hz => by have := HS.out.2.1 z hz; omega, HS.out.1, HR.out, HS.out.2.2, HX.out, HB.out, by simpa [World.setCell] using hsz2⟩
          case measure => rw [iterPos_of hit, iterPos_of HS.out.2.2]; omega
      · obtain ⟨f1, f2⟩ := ne_t q1
        by_cases qd : (i[k].toNat : Int) = l
        · have htest : ((i.extract k (k + 1)).toList == ks.toList) = true := by
            rcases hl3 with ⟨_, h⟩ | ⟨d, rfl, h, _⟩
            · omega
            · rw [str_extract i k hlt2, str_toList, str_toList, show i[k] = d from UInt8.toNat_inj.1 (by omega)]; simp
          have HR := Lib.hid (show runsL ((bytes t).drop (k + 1)) ((bytes i).drop (k + 1)) l b (bumpL out) = runsL (bytes t) (bytes i) 0 0 [] by rw [← hR, HD.out, HE.out, runsL, if_neg (fun h => q1 h.1), if_pos (.inr qd)])
          have ql : l ≠ 0 := by omega
          have ek : IntKind.i64.wrap ((k : Int) + 1) = (k : Int) + 1 := wrapI (by omega) (by omega)
          clear hR q1 hl3
          have hN : 0 < N := hl (by omega)
          rcases hown.2 with ⟨h9, h8⟩ | ⟨g, cap, cur, h9, hB, hg, hnc, hcm, hcs, htk⟩
          · omega
          injection h9 with h9 _ h7
          subst h9 h7
          clear hg hnc hcm hcs htk
          have hol := own_len hown
          obtain ⟨x, hx9⟩ : ∃ x, out[N - 1]? = some x := ⟨_, List.getElem?_eq_getElem (by omega)⟩
          have bx := hz x (List.mem_of_getElem? hx9)
          have hgd : bumpL out = out.set (N - 1) (x + 1) := by rw [bumpL, hol, List.getD_eq_getElem?_getD, hx9]; rfl
          have hcell : (wr.iterAt w1.heap.size t (k + 1)).cell? ⟨g, N - 1, none⟩ = some (.int .i64 x) := by rw [hown.cellAt (N - 1) (by omega), List.getElem?_map, hx9]; rfl
          have hfz := hown.frozenAt (N - 1)
          obtain ⟨s1, s2⟩ := hown.stored (N - 1) (.int .i64 (x + 1))
          rw [← List.map_set, ← hgd] at s1
          have hbd := bumpL_bd (k := (k : Int)) (by omega) hz
          have hit3 := (Below.heap_setCell (wr.iterAt w1.heap.size t (k + 1)) ⟨g, N - 1, none⟩ (.int .i64 (x + 1)) w1.heap.size (by simp; omega)).trans hit2
          have HS := Lib.hid (And.intro s1 (And.intro hbd hit3))
          have ew : IntKind.i64.wrap (x + 1) = x + 1 := wrapI (by omega) (by omega)
          have en : ((N : Int) - 1).toNat = N - 1 := by omega
          have l5 : (0 : Int) ≤ (N : Int) - 1 := by omega
          have ewn : IntKind.i64.wrap ((N : Int) - 1) = (N : Int) - 1 := wrapI (by omega) (by omega)
          have HX := Lib.hid (show Blk ((wr.iterAt w1.heap.size t (k + 1)).setCell ⟨g, N - 1, none⟩ (.int .i64 (x + 1))) w.heap.size 26 [.string t, .string i] from hx.far (by first | omega | (simp; omega)) _)
          have HB := Lib.hid (show Below w.heap.size w ((wr.iterAt w1.heap.size t (k + 1)).setCell ⟨g, N - 1, none⟩ (.int .i64 (x + 1))) from hb.setCell (by first | omega | (simp; omega)) _)
          clear hx9 hgd hz s1 s2 hbd hol hit2 hit3 hx hb
          go_wp2_with fail
          go_roundw
          case rel => exact ⟨k + 1, N, _, _, l, b, ks, bumpL out, by omega, rfl, rfl, rfl, HL3.out, by omega, hl, by omega, fun z hz => by have := HS.out.2.1 z hz; omega, HS.out.1, HR.out, HS.out.2.2, HX.out, HB.out, by simpa [World.setCell] using hsz2⟩
          case measure => rw [iterPos_of hit, iterPos_of HS.out.2.2]; omega
        · have htest : ((i.extract k (k + 1)).toList == ks.toList) = false := by
            rcases hl3 with ⟨rfl, h⟩ | ⟨d, rfl, h, _⟩
            · rw [str_extract i k hlt2, str_toList, show (⟨#[]⟩ : ByteArray) = str [] from rfl, str_toList]; rfl
            · rw [str_extract i k hlt2, str_toList, str_toList]
              have : i[k] ≠ d := fun e => qd (by rw [e, h])
              simp [this]
          have HR := Lib.hid (show runsL ((bytes t).drop (k + 1)) ((bytes i).drop (k + 1)) (i[k].toNat : Int) 0 (out ++ [1 + b]) = runsL (bytes t) (bytes i) 0 0 [] by rw [← hR, HD.out, HE.out, runsL, if_neg (fun h => q1 h.1), if_neg (fun h => h.elim q1 qd), Int.add_comm 1 b])
          have ew : IntKind.i64.wrap (1 + b) = 1 + b := wrapI (by omega) (by omega)
          have HZ := Lib.hid hz
          have HEX := Lib.hid (str_extract i k hlt2)
          clear hR q1 qd hz hl3
          go_wp2_with (at_builtin; refine wpList_append_own _ rfl _ _ 35 rfl (w1.heap.size + 1) 3 i0 (.int .i64 0) 1 8 Try.underlying35 hi hz0 hz1 hz2 rfl (by decide) _ _ _ rfl (hown.alloc _) ⟨(wr.iterAt w1.heap.size t (k + 1)).heap.size, 0, none⟩ 1 1 [.int .i64 (1 + b)] rfl rfl (new_one _ _ (by simp) _ _) (by intro u hu; simp at hu; subst hu; rfl) (by unfold maxLen; omega) (by omega) (by simp <;> omega) ?_)
          intro v' w2 hown' hgrow _
          have hkb := below_grown (World.ownsRow.alloc hown (.cells #[.int .i64 (1 + b)] 3)) (by simp; omega) hgrow
          have ho2 := own_app hown'
          obtain ⟨V2, C2, rfl⟩ := own_slice ho2
          have hz3 := hkb.size
          simp only [World.size_alloc] at hz3
          have HI2 := Lib.hid ((hkb.block w1.heap.size (by omega)).trans ((Below.heap_alloc _ (.cells #[.int .i64 (1 + b)] 3) w1.heap.size (by omega)).trans hit2))
          replace hx := (hx.alloc (.cells #[.int .i64 (1 + b)] 3)).below hkb (by omega)
          replace hb := (hb.alloc hb.size (.cells #[.int .i64 (1 + b)] 3)).trans (hkb.mono (by have := hb.size; omega))
          clear hown hown' hgrow hkb hc0 hc1 hit2
          go_wp2_with fail
          go_roundw
          case rel => exact ⟨k + 1, N + 1, C2, V2, _, 0, _, out ++ [1 + b], by omega, rfl, rfl, rfl, .inr ⟨i[k], HEX.out, rfl, hink⟩, by omega, by omega, by omega, fun z h => by
            rcases List.mem_append.1 h with h | h
            · have := HZ.out z h; omega
            · simp at h; omega, ho2, HR.out, HI2.out, hx, hb, by omega⟩
          case measure => rw [iterPos_of hit, iterPos_of HI2.out]; omega
    · have hnx := Lib.run_next_end_at (P := Try.prog) wr w1.heap.size t k 0 hit hlt
      have HR := Lib.hid (show out = runsL (bytes t) (bytes i) 0 0 [] by rw [← hR, List.drop_of_length_le (l := bytes t) (by rw [bytes_len]; omega), runsL_end])
      clear hR
      go_wp2_with fail
      go_ret2
      exact ⟨V, N, C, by simp [h1], by simp only [irV, h1]; rw [if_pos trivial, ← HR.out]; exact own_lower hown (by omega), by omega, hb⟩
end Go.Proofs.Ytanpiipmoedfnaa
