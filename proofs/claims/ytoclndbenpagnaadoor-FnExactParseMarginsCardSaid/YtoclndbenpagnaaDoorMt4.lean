/-
  Contracts: join, the program's text of margins, MarginsText on both sides.
-/
import Derived.Test.YtoclndbenpagnaaDoorMt3
namespace Go.Proofs.YtoclndbenpagnaaDoor
open Go.RowKit
theorem info9 : (Tryd.prog.info? 9).map (fun i => (i.zero, i.size, i.bytes)) = some (some (.string ⟨#[]⟩), 1, 16) := by kernel_rfl
/-- An own slice of strings. -/
def OwnW (w : World) (B : Nat) (v : Value) (n : Nat) (xs : List ByteArray) : Prop := w.ownsRow B 9 1 v n (xs.map Value.string)
theorem OwnW.len {w : World} {B n : Nat} {v : Value} {xs : List ByteArray} (h : OwnW w B v n xs) : xs.length = n := by have := h.1; simpa using this
theorem OwnW.form {w : World} {B n C : Nat} {A : Option Addr} {xs : List ByteArray} (h : OwnW w B (.slice A n C) n xs) : (A = none ∧ n = 0) ∨ ∃ g, A = some ⟨g, 0, none⟩ ∧ n ≤ C ∧ g < w.heap.size := by
  rcases h.2 with ⟨h1, h2⟩ | ⟨g, cap, cur, h1, hb, hg, hnc, _⟩
  · injection h1 with h1 h3 h4
    exact .inl ⟨h1, h2⟩
  · injection h1 with h1 h3 h4
    subst h4
    exact .inr ⟨g, h1, hnc, (Array.getElem?_eq_some_iff.1 hg).1⟩
theorem itoa_any (m : Nat) (h : m < 1000) (w : World) (ht : Tab w) : Calls Tryd.prog 29 #[.int .i64 (m : Int)] w fun e w' => e = .returned (.string (numS m)) ∧ Below w.heap.size w w' := by
  refine (Tryd.strconv_Itoa (m : Int) (by omega) (by omega) w ht).mono ?_
  rintro e w' ⟨rfl, k, os, rfl⟩
  refine ⟨?_, Lib.below_grow _ _ (Nat.le_refl _) _ _⟩
  rw [Lib.itoa, if_neg (by omega), Int.toNat_natCast]
  rfl
theorem sjoin_any {g n C B : Nat} {ns : List Nat} {w : World} (ho : OwnW w B (.slice (some ⟨g, 0, none⟩) n C) n (ns.map numS)) (hn : n ≤ 1000) (hg : g < w.heap.size) (hC : n ≤ C) (hl : (joinN ns).length ≤ 1000000) :
    Calls Tryd.prog 30 #[.slice (some ⟨g, 0, none⟩) n C, .string ⟨#[47]⟩] w fun e w' => e = .returned (.string (str (joinN ns))) ∧ Below w.heap.size w w' := by
  have hlen := ho.len
  have hdec : (ns.map numS).map (·.data.toList) = decs ns := by
    rw [List.map_map]
    refine List.map_congr_left fun x _ => ?_
    simp [numS, str]
  have hj : (Lib.join ((ns.map numS).map (·.data.toList)) ((⟨#[47]⟩ : ByteArray).data.toList)) = joinN ns := by rw [hdec]; rfl
  have h := Tryd.strings_Join g 0 C (ns.map numS) ⟨#[47]⟩ w (fun j x hx => by
    rw [Nat.zero_add, World.ownsRow.cellAt ho j (by have := (List.getElem?_eq_some_iff.1 hx).1; omega), List.getElem?_map, hx]; rfl) hg (by omega) (by omega) (by rw [hj]; omega)
  rw [hj, hlen] at h
  exact h
set_option maxRecDepth 100000 in
set_option maxHeartbeats 4000000 in
theorem join_any {A : Option Addr} {n c : Nat} {ns : List Nat} {w : World} (hr : RInts w w.heap.size A n (ns.map fun z : Nat => (z : Int))) (hn0 : n ≤ 1000) (hn1 : 1 ≤ n) (ht : Tab w) (hB : ∀ x ∈ ns, x < 1000) :
    Calls Tryd.prog 25 #[.slice A n c, .string ⟨#[47]⟩] w fun e w' => e = .returned (.string (str (joinN ns))) ∧ Below w.heap.size w w' := by
  obtain ⟨i9, hi9, hz90, hz91, hz92⟩ := info_parts info9
  have HL := Lib.hid (show ns.length = n by have := hr.len; simpa using this)
  have HB := Lib.hid hB
  have HR := Lib.hid hr
  have HT := Lib.hid ht
  have h0 : OwnW (w.alloc (.cells #[] 9)) w.heap.size (.slice (some ⟨w.heap.size, 0, none⟩) 0 0) 0 ((ns.take 0).map numS) := (Blk.new' w 9 #[]).row (size := 1) (by simp) (by simp) (Nat.le_refl _)
  clear hB hr ht
  go_enter Tryd.func25, Tryd.ntmps25
  go_wp2_with fail
  go_loopw [5, 11] (fun v u wr => ∃ k : Nat, k ≤ n ∧ u = .int .i64 k ∧ OwnW wr w.heap.size v k ((ns.take k).map numS) ∧ Below w.heap.size w wr) (fun _ u _ => n - (intOf u).toNat)
  case atStart => exact ⟨0, Nat.zero_le _, rfl, h0, (by (repeat (first | exact Below.refl _ _ | exact hb | apply Below.drew | (refine Below.alloc ?_ (by first | (simp; done) | (simp; omega) | (have := hb.size; simp at this ⊢; omega)) _) | (refine Below.setCell ?_ (by simp) _))))⟩
  case round =>
    clear h0
    obtain ⟨k, hk, rfl, ho, hb⟩ := hrel
    obtain ⟨VO, CO, rfl⟩ := own_slice ho
    have HO := Lib.hid ho
    have hlo := hb.size
    clear ho
    by_cases hlt : k < n
    · obtain ⟨ad, x, rfl, _, _, hx, hc⟩ := RInts.at_ (HR.out.below hb) hlt
      obtain ⟨m, hm⟩ : ∃ m, ns[k]? = some m := ⟨_, List.getElem?_eq_getElem (by have := HL.out; omega)⟩
      have hxm : x = (m : Int) := by
        rw [List.getElem?_map, hm] at hx
        injection hx with hx
        exact hx.symm
      subst hxm
      have hm9 := HB.out m (List.mem_of_getElem? hm)
      obtain ⟨ws, hws⟩ : ∃ ws, ws = (ns.take k).map numS := ⟨_, rfl⟩
      have HM := Lib.hid (show ws ++ [numS m] = (ns.take (k + 1)).map numS by rw [hws, List.take_add_one, hm, List.map_append]; rfl)
      rw [← hws] at HO
      clear hx hm hws
      go_wp2_with fail
      refine (itoa_any m hm9 _ (HT.out.below hb)).mono ?_
      rintro e2 w2 ⟨rfl, hn⟩
      have HO2 := Lib.hid (show OwnW w2 w.heap.size (.slice VO k CO) k ws from row_step HO.out hn)
      have hb2 := hb.trans (hn.mono hlo)
      clear hn hc hb
      have hlo2 := hb2.size
      go_wp2_with (at_builtin; refine wpList_append_own _ rfl _ _ 33 rfl (w.heap.size) 9 i9 (.string ⟨#[]⟩) 1 16 Tryd.underlying33 hi9 hz90 hz91 hz92 rfl (by decide) _ _ _ rfl (World.ownsRow.alloc HO2.out _) ⟨w2.heap.size, 0, none⟩ 1 1 [.string (numS m)] rfl rfl (new_one _ _ (by simp) _ _) (by intro u hu; simp at hu; subst hu; rfl) (by unfold maxLen; omega) (by omega) (by simp <;> omega) ?_)
      intro v9 w9 hO9 hgr9 _
      have HO9 := Lib.hid (show OwnW w9 w.heap.size v9 (k + 1) ((ns.take (k + 1)).map numS) by
        rw [← HM.out]
        unfold OwnW
        rw [List.map_append]
        exact hO9)
      have HB9 := Lib.hid ((hb2.alloc hb2.size _).trans (grown_below hgr9 (by simp; omega) (fun z hz => (HO2.out.lt z hz).1)))
      clear hO9 hgr9 hb2
      go_wp2_with fail
      go_roundw
      case rel => exact ⟨k + 1, by omega, by go_num, HO9.out, HB9.out⟩
      case measure => simp [intOf]; omega
    · have hkn : k = n := by omega
      subst hkn
      have HO2 := Lib.hid (show OwnW wr w.heap.size (.slice VO k CO) k (ns.map numS) by have h9 := HO.out; rw [List.take_of_length_le (by have := HL.out; omega)] at h9; exact h9)
      obtain ⟨g, rfl, hC, hg⟩ : ∃ g, VO = some ⟨g, 0, none⟩ ∧ k ≤ CO ∧ g < wr.heap.size := by
        rcases HO2.out.form with ⟨_, h8⟩ | h8
        · omega
        · exact h8
      have hjl : (joinN ns).length ≤ 1000000 := by
        have h9 := joinN_len HB.out ns.length (Nat.le_refl _)
        rw [List.take_length] at h9
        have := HL.out
        omega
      clear HO
      go_wp2_with fail
      refine (sjoin_any HO2.out hn0 hg hC hjl).mono ?_
      rintro e2 w2 ⟨rfl, hn⟩
      have hb9 := hb.trans (hn.mono hlo)
      clear hn hb
      go_wp2_with fail
      go_ret
      exact ⟨rfl, hb9⟩
theorem marginsText_any {a b c d : Nat} (h1 : a < 1000) (h2 : b < 1000) (h3 : c < 1000) (h4 : d < 1000) {w : World} (ht : Tab w) : Calls Tryd.prog 16 #[.agg #[.int .i64 (a : Int), .int .i64 (b : Int), .int .i64 (c : Int), .int .i64 (d : Int)]] w fun e w' => e = .returned (.string (str (joinN [a, b, c, d]))) ∧ Below w.heap.size w w' := by
  have hb0 : Below w.heap.size w ((w.alloc (.cells #[.int .i64 (a : Int), .int .i64 (b : Int), .int .i64 (c : Int), .int .i64 (d : Int)] 23)).alloc (.cells #[.int .i64 (a : Int), .int .i64 (b : Int), .int .i64 (c : Int), .int .i64 (d : Int)] 3)) := (by (repeat (first | exact Below.refl _ _ | exact hb | apply Below.drew | (refine Below.alloc ?_ (by first | (simp; done) | (simp; omega) | (have := hb.size; simp at this ⊢; omega)) _) | (refine Below.setCell ?_ (by simp) _))))
  have HB := Lib.hid (show ∀ x ∈ [a, b, c, d], x < 1000 from fun x hx => by simp at hx; rcases hx with rfl | rfl | rfl | rfl <;> assumption)
  have hr := rints_new (w := w.alloc (.cells #[.int .i64 (a : Int), .int .i64 (b : Int), .int .i64 (c : Int), .int .i64 (d : Int)] 23)) (e := 3) ([a, b, c, d].map fun z : Nat => (z : Int)) #[.int .i64 (a : Int), .int .i64 (b : Int), .int .i64 (c : Int), .int .i64 (d : Int)] rfl
  have HR := Lib.hid hr
  have HT := Lib.hid (ht.below hb0)
  clear h1 h2 h3 h4 hr ht
  go_enter Tryd.func16, Tryd.ntmps16
  go_wp2_with fail
  refine (join_any (ns := [a, b, c, d]) (by simpa using HR.out) (by omega) (by omega) HT.out HB.out).mono ?_
  rintro e2 w2 ⟨rfl, hn⟩
  have hb9 := hb0.trans (hn.mono hb0.size)
  clear hn hb0
  go_wp2_with fail
  go_ret
  exact ⟨rfl, hb9⟩
end Go.Proofs.YtoclndbenpagnaaDoor
